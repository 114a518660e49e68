/- What stores into the reference's disk leave of it. -/
import Derived.Test.YtibojbbhffoldaaRefO
import Derived.Test.YtibojbbhffoldaaNewB
namespace Go.Proofs.Ytibojbbhffoldaa
open Go.RowKit Go.Maps
theorem step_append_bytes {w : World} {F : Nat → Prop} {l : List UInt8} {ops : Array Oper} {o : Oper} {a : Act} {K : Act → World → Prop} {Q : Exit → Act → World → Prop} {E : Prop} (hgd : o.guard = none) (s x : Operand)
    (ho : o.op = .call { callee := .builtin .append, args := #[s, x], argTypes := #[22, 22] })
    (sv xv : Value) (m : List UInt8) (hs : a.eval s = sv) (hx : a.eval x = xv) (hown : OwnB w sv l) (hb : BV w F xv m) (hn : l.length + m.length ≤ 1000000000000)
    (h : ∀ (b : Option Addr) (c : Nat) (w' : World), OwnB w' (.slice b (l.length + m.length) c) (l ++ m) → w.grownBy w' sv.ownBlock → ((Value.slice b (l.length + m.length) c).ownBlock = sv.ownBlock ∨ (Value.slice b (l.length + m.length) c).ownBlock = some w.heap.size) →
      K (a.put o.dst (.slice b (l.length + m.length) c)) w') : if Region.wanted o (yielded ops a.tmps) = true then Oper.wp Try.prog o a w K Q else E := by
  have hw : Region.wanted o (yielded ops a.tmps) = true := by simp [Region.wanted, hgd]
  rw [if_pos hw]
  obtain ⟨b, c, w', hrun, hO, hg, hat⟩ := run_append_bytes hown hb hn o.type
  unfold Oper.wp
  simp only [execOp, ho, resolve, invoke, builtin, Sem.run_bind, Sem.run_pure, Result.andThen_ok, List.map_toArray, List.map_cons, List.map_nil, hs, hx, hrun]
  exact h b c w' hO hg hat
theorem Plus.plus {F : Nat → Prop} {w W W' : World} (h1 : w.heap.size ≤ W.heap.size) (h2 : W.heap.size ≤ W'.heap.size) : ∀ k, Plus (Plus F w W) W W' k → Plus F w W' k := by
  intro k hk
  rcases hk with (hk | hk) | hk
  · exact .inl hk
  · exact .inr ⟨hk.1, by omega⟩
  · exact .inr ⟨by omega, hk.2⟩
section
variable {w w' w1 w2 W : World} {s : DSt} {b : Nat} {F G : Nat → Prop} {dv lv v : Value} {dvs : List Value} {pvs : List (Nat × Value)} {left : Int} {l : List UInt8}
theorem OwnF.keep (h : OwnF w F v l) (hk : ∀ g, v.ownBlock = some g → w'.heap[g]? = w.heap[g]?) (hs : ∀ k, F k → G k) : OwnF w' G v l :=
  ⟨h.1.same (F := fun g => v.ownBlock = some g) hk (fun _ hg => hg), fun g hg => hs g (h.2 g hg)⟩
theorem RefRep.plus (h : RefRep w s b F dv dvs lv pvs left) : RefRep w s b (Plus F w w) dv dvs lv pvs left := h.mono (fun _ hk => .inl hk) (Plus.inn h.inn (Nat.le_refl _))
theorem RefRep.later {W' : World} (h : RefRep W s b (Plus F w W) dv dvs lv pvs left) (hb : Below W.heap.size W W') : RefRep W' s b (Plus F w W') dv dvs lv pvs left := by
  have hs := hb.size
  refine (h.below hb).mono (fun k hk => hk.imp id (fun x => ⟨x.1, by omega⟩)) (fun k hk => ?_)
  rcases hk with hk | hk
  · exact Nat.lt_of_lt_of_le (h.inn k (.inl hk)) hs
  · exact hk.2
/-- A step on from W. -/
theorem RefRep.onward {W' : World} (st : Stp F w W) (h : Stp (Plus F w W) W W' ∧ RefRep W' s b (Plus (Plus F w W) W W') dv dvs lv pvs left) (hF : Inn F w) : Stp F w W' ∧ RefRep W' s b (Plus F w W') dv dvs lv pvs left := by
  have s1 := st.trans h.1
  exact ⟨s1, h.2.mono (Plus.plus st.size h.1.size) (Plus.inn hF s1.size)⟩
theorem RefRep.dvAt (h : RefRep w s b F dv dvs lv pvs left) (hn : 0 < s.dur.length) : ∃ gd cap, dv = .slice (some ⟨gd, 0, none⟩) s.dur.length cap := by
  obtain ⟨g, cap, e, _⟩ := World.ownsRow.form h.durs hn
  exact ⟨g, cap, e⟩
/-- A row of the durable contents is replaced by one that has been made since. -/
theorem RefRep.putRow (h : RefRep w s b F dv dvs lv pvs left) (hB : Below w.heap.size w w1) (hv : OwnB w1 v l) (hv2 : ∀ g, v.ownBlock = some g → w.heap.size ≤ g) {k gd : Nat} (hg : dv.ownBlock = some gd) (hk : k < s.dur.length) :
    Stp F w (w1.setCell ⟨gd, k, none⟩ v) ∧ RefRep (w1.setCell ⟨gd, k, none⟩ v) { s with dur := s.dur.set k l } b (Plus F w (w1.setCell ⟨gd, k, none⟩ v)) dv (dvs.set k v) lv pvs left := by
  have hgl := h.inn gd (h.Fdv gd hg)
  have st : Stp F w (w1.setCell ⟨gd, k, none⟩ v) := (Stp.of_below F hB).set (.inl (.inl (h.Fdv gd hg))) v
  have hsz : (w1.setCell ⟨gd, k, none⟩ v).heap.size = w1.heap.size := by simp
  have keep : ∀ x, x ≠ gd → (w1.setCell ⟨gd, k, none⟩ v).heap[x]? = w1.heap[x]? := fun x hx => Below.heap_setCell _ _ _ _ hx
  have keep0 : ∀ x, x < w.heap.size → x ≠ gd → (w1.setCell ⟨gd, k, none⟩ v).heap[x]? = w.heap[x]? := fun x hx hne => (keep x hne).trans (hB.block x hx)
  have old : ∀ {v' : Value} {l' : List UInt8}, OwnF w F v' l' → OwnF (w1.setCell ⟨gd, k, none⟩ v) (Plus F w (w1.setCell ⟨gd, k, none⟩ v)) v' l' := fun {v' l'} hv' => by
    refine hv'.keep (fun g hg' => ?_) (fun _ hk => .inl hk)
    obtain ⟨cur, hb⟩ := hv'.blk hg'
    exact keep0 g hb.lt (fun e => by
      subst e
      obtain ⟨cur', hb'⟩ := ownsRow_blk h.durs hg
      exact absurd (hb.inj hb').2 (by decide))
  have hnew : OwnF (w1.setCell ⟨gd, k, none⟩ v) (Plus F w (w1.setCell ⟨gd, k, none⟩ v)) v l := by
    refine ⟨hv.same (F := fun g => v.ownBlock = some g) (fun g hg' => keep g (by have := hv2 g hg'; omega)) (fun g hg' => hg'), fun g hg' => .inr ⟨hv2 g hg', ?_⟩⟩
    rw [hsz]; exact hv.lt g hg'
  have old2 : ∀ {i : Nat} {a : Value} {g : Nat}, dvs[i]? = some a → a.ownBlock = some g → g < w.heap.size := fun {i a g} hi ha => by
    obtain ⟨l', _, hr⟩ := h.dur.get' hi
    exact h.inn g (hr.2 g ha)
  refine ⟨st, Plus.inn h.inn st.size, .inl h.Fb, fun g hg => .inl (h.Fdv g hg), fun g hg => .inl (h.Flv g hg), ?_, h.lft, ?_, (h.dur.mono (fun _ _ r => old r)).set k hnew, ?_, h.pnd.mono (fun _ _ r => ⟨r.1, old r.2⟩), ?_, ?_⟩
  · exact h.cells.of_same (keep0 b h.cells.lt (fun e => h.dv_ne_b (e ▸ hg)))
  · obtain ⟨gd', cap, rfl⟩ := h.dvAt (by omega)
    simp only [Value.ownBlock, Option.some.injEq] at hg
    subst hg
    have h1 : w1.ownsRow 0 22 1 (.slice (some ⟨gd', 0, none⟩) s.dur.length cap) s.dur.length dvs := Same.row (G := fun x => x < w.heap.size) (fun x hx => hB.block x hx) h.durs (fun g hg => h.inn g (h.Fdv g hg))
    have := (h1.stored k v).1
    simpa using this
  · exact Same.row (G := fun x => lv.ownBlock = some x) (fun x hx => keep0 x (h.inn x (h.Flv x hx)) (fun e => h.dv_ne_lv hg (e ▸ hx))) h.pend (fun g hg => hg)
  · intro i j a c g hi hj ha hc
    rw [List.getElem?_set] at hi hj
    by_cases h1 : k = i <;> by_cases h2 : k = j
    · omega
    · rw [if_neg h2] at hj
      rw [if_pos h1] at hi
      split at hi <;> simp at hi
      subst hi
      have := hv2 g ha; have := old2 hj hc; omega
    · rw [if_neg h1] at hi
      rw [if_pos h2] at hj
      split at hj <;> simp at hj
      subst hj
      have := hv2 g hc; have := old2 hi ha; omega
    · rw [if_neg h1] at hi
      rw [if_neg h2] at hj
      exact h.sep i j a c g hi hj ha hc
  · intro i j a p g hi hj ha hp
    rw [List.getElem?_set] at hi
    obtain ⟨q, _, hr⟩ := h.pnd.get' hj
    have hpl := h.inn g (hr.2.2 g hp)
    by_cases h1 : k = i
    · rw [if_pos h1] at hi
      split at hi <;> simp at hi
      subst hi
      have := hv2 g ha; omega
    · rw [if_neg h1] at hi
      exact h.sep2 i j a p g hi hj ha hp
/-- One pending write more: behind the making of its bytes (w1) and the append (w2). -/
theorem RefRep.pushPend (h : RefRep w s b F dv dvs lv pvs left) (hB : Below w.heap.size w w1) (hv : OwnB w1 v l) (hv2 : ∀ g, v.ownBlock = some g → w.heap.size ≤ g) {n k gg cap : Nat} (hn : s.pend.length = n)
    (hown : w2.ownsRow 0 70 2 (.slice (some ⟨gg, 0, none⟩) (n + 1) cap) (n + 1) (pcells pvs ++ [.int .i64 (k : Int), v])) (hgrow : w1.grownBy w2 lv.ownBlock) (hat : lv.ownBlock = some gg ∨ w1.heap.size = gg) (hlt : gg < w2.heap.size) :
    Stp F w (w2.setCell ⟨b, 2, none⟩ (.slice (some ⟨gg, 0, none⟩) (n + 1) cap)) ∧
    RefRep (w2.setCell ⟨b, 2, none⟩ (.slice (some ⟨gg, 0, none⟩) (n + 1) cap)) (s.push k l) b (Plus F w (w2.setCell ⟨b, 2, none⟩ (.slice (some ⟨gg, 0, none⟩) (n + 1) cap))) dv dvs (.slice (some ⟨gg, 0, none⟩) (n + 1) cap) (pvs ++ [(k, v)]) left := by
  subst hn
  have ltb := h.cells.lt
  have ltlv : ∀ g, lv.ownBlock = some g → g < w.heap.size := fun g hg => h.inn g (h.Flv g hg)
  have st : Stp F w (w2.setCell ⟨b, 2, none⟩ (.slice (some ⟨gg, 0, none⟩) (s.pend.length + 1) cap)) := by
    refine Stp.set ?_ (.inl (.inl h.Fb)) _
    exact (Stp.of_below F hB).grown hgrow (fun x hx => .inl (h.Flv x hx))
  have hsz : (w2.setCell ⟨b, 2, none⟩ (.slice (some ⟨gg, 0, none⟩) (s.pend.length + 1) cap)).heap.size = w2.heap.size := by simp
  have keep : ∀ x, x < w1.heap.size → x ≠ b → lv.ownBlock ≠ some x → (w2.setCell ⟨b, 2, none⟩ (.slice (some ⟨gg, 0, none⟩) (s.pend.length + 1) cap)).heap[x]? = w1.heap[x]? := fun x hx h1 h2 =>
    (Below.heap_setCell _ _ _ _ h1).trans (hgrow.block x hx (Ne.symm h2))
  have keep0 : ∀ x, x < w.heap.size → x ≠ b → lv.ownBlock ≠ some x → (w2.setCell ⟨b, 2, none⟩ (.slice (some ⟨gg, 0, none⟩) (s.pend.length + 1) cap)).heap[x]? = w.heap[x]? := fun x hx h1 h2 =>
    (keep x (by have := hB.size; omega) h1 h2).trans (hB.block x hx)
  have ggb : gg ≠ b := by
    rcases hat with hg | rfl
    · exact fun e => h.lv_ne_b (e ▸ hg)
    · have := hB.size; omega
  have old : ∀ {v' : Value} {l' : List UInt8}, OwnF w F v' l' → OwnF (w2.setCell ⟨b, 2, none⟩ (.slice (some ⟨gg, 0, none⟩) (s.pend.length + 1) cap)) (Plus F w (w2.setCell ⟨b, 2, none⟩ (.slice (some ⟨gg, 0, none⟩) (s.pend.length + 1) cap))) v' l' := fun {v' l'} hv' => by
    refine hv'.keep (fun g hg' => ?_) (fun _ hk => .inl hk)
    obtain ⟨cur, hb⟩ := hv'.blk hg'
    exact keep0 g hb.lt (h.ne_b hb (by decide)) (fun e => by
      obtain ⟨cur', hb'⟩ := ownsRow_blk h.pend e
      exact absurd (hb.inj hb').2 (by decide))
  have hnew : OwnF (w2.setCell ⟨b, 2, none⟩ (.slice (some ⟨gg, 0, none⟩) (s.pend.length + 1) cap)) (Plus F w (w2.setCell ⟨b, 2, none⟩ (.slice (some ⟨gg, 0, none⟩) (s.pend.length + 1) cap))) v l := by
    refine ⟨hv.same (F := fun g => v.ownBlock = some g) (fun g hg' => ?_) (fun g hg' => hg'), fun g hg' => .inr ⟨hv2 g hg', ?_⟩⟩
    · have := hv2 g hg'
      exact keep g (hv.lt g hg') (by omega) (fun e => by have := ltlv g e; omega)
    · have := hv.lt g hg'
      have := hgrow.size
      rw [hsz]; omega
  refine ⟨st, Plus.inn h.inn st.size, .inl h.Fb, fun g hg => .inl (h.Fdv g hg), fun g hg => ?_, ?_, h.lft, ?_, h.dur.mono (fun _ _ r => old r), ?_, ?_, h.sep, ?_⟩
  · simp only [Value.ownBlock, Option.some.injEq] at hg
    subst hg
    rcases hat with hg | rfl
    · exact .inl (h.Flv _ hg)
    · exact .inr ⟨by have := hB.size; omega, by simpa using hlt⟩
  · have hb : Blk w2 b _ _ := h.cells.of_same ((hgrow.block b (by have := hB.size; omega) (Ne.symm h.lv_ne_b)).trans (hB.block b ltb))
    simpa [DSt.push] using hb.set 2 (.slice (some ⟨gg, 0, none⟩) (s.pend.length + 1) cap)
  · exact Same.row (G := fun x => dv.ownBlock = some x) (fun x hx => keep0 x (h.inn x (h.Fdv x hx)) (fun e => h.dv_ne_b (e ▸ hx)) (fun e => h.dv_ne_lv hx e)) h.durs (fun g hg => hg)
  · rw [pcells_snoc]
    simp only [DSt.push, List.length_append, List.length_cons, List.length_nil]
    exact Same.row (G := fun x => x ≠ b) (fun x hx => Below.heap_setCell _ _ _ _ hx) hown (fun g hg => by
      simp only [Value.ownBlock, Option.some.injEq] at hg
      exact hg ▸ ggb)
  · exact (h.pnd.mono (fun _ _ r => ⟨r.1, old r.2⟩)).snoc ⟨rfl, hnew⟩
  · intro i j a p g hi hj ha hp
    have hai : g < w.heap.size := by
      obtain ⟨l', _, hr⟩ := h.dur.get' hi
      exact h.inn g (hr.2 g ha)
    by_cases hl : j < pvs.length
    · rw [List.getElem?_append_left hl] at hj
      exact h.sep2 i j a p g hi hj ha hp
    · rw [List.getElem?_append_right (by omega)] at hj
      have := (List.getElem?_eq_some_iff.1 hj).1
      simp at this
      have e : j - pvs.length = 0 := by omega
      rw [e] at hj
      simp at hj
      subst hj
      have := hv2 g hp
      omega
/-- Nothing is pending any more. -/
theorem RefRep.cleared (h : RefRep w s b F dv dvs lv pvs left) : Stp F w (w.setCell ⟨b, 2, none⟩ (.slice none 0 0)) ∧ RefRep (w.setCell ⟨b, 2, none⟩ (.slice none 0 0)) { s with pend := [] } b F dv dvs (.slice none 0 0) [] left := by
  have st : Stp F w (w.setCell ⟨b, 2, none⟩ (.slice none 0 0)) := (Stp.refl F w).set (.inl (.inl h.Fb)) _
  have keep : ∀ k, k ≠ b → (w.setCell ⟨b, 2, none⟩ (.slice none 0 0)).heap[k]? = w.heap[k]? := fun k hk => heap_setCell_other w ⟨b, 2, none⟩ k _ hk
  refine ⟨st, fun k hk => Nat.lt_of_lt_of_le (h.inn k hk) st.size, h.Fb, h.Fdv, fun g hg => (by cases hg), ?_, h.lft, ?_, ?_, World.ownsRow_nil _ _ _ _, All2.nil, h.sep, fun i j a p g _ hj => by simp at hj⟩
  · simpa using h.cells.set 2 (.slice none 0 0)
  · exact Same.row (G := fun k => k ≠ b) keep h.durs (fun g hg e => h.dv_ne_b (e ▸ hg))
  · refine h.dur.mono (fun _ _ r => r.keep (fun g hg => ?_) (fun _ hk => hk))
    obtain ⟨cur, hb⟩ := r.blk hg
    exact keep g (h.ne_b hb (by decide))
/-- One byte of a row is changed in place. -/
theorem RefRep.spoiled (h : RefRep w s b F dv dvs lv pvs left) {k g o : Nat} {a : Value} {x : UInt8} (ha : dvs[k]? = some a) (hl : s.dur[k]? = some l) (hg : a.ownBlock = some g) (ho : o < l.length) :
    Stp F w (w.setCell ⟨g, o, none⟩ (.int .u8 (x.toNat : Int))) ∧ RefRep (w.setCell ⟨g, o, none⟩ (.int .u8 (x.toNat : Int))) { s with dur := s.dur.set k (l.set o x) } b F dv dvs lv pvs left := by
  have hA := h.dur.2 k a l ha hl
  have st : Stp F w (w.setCell ⟨g, o, none⟩ (.int .u8 (x.toNat : Int))) := (Stp.refl F w).set (.inl (.inl (hA.2 g hg))) _
  have keep : ∀ j, j ≠ g → (w.setCell ⟨g, o, none⟩ (.int .u8 (x.toNat : Int))).heap[j]? = w.heap[j]? := fun j hj => heap_setCell_other w ⟨g, o, none⟩ j _ hj
  obtain ⟨cur, hgb⟩ := hA.blk hg
  have ne : ∀ {j L T}, Blk w j L T → T ≠ 5 → j ≠ g := fun hj hT e => by subst e; exact hT (hj.inj hgb).2
  have hgB : b ≠ g := ne h.cells (by decide)
  have hgD : ∀ j, dv.ownBlock = some j → j ≠ g := fun j hj => by
    obtain ⟨cur', hb'⟩ := ownsRow_blk h.durs hj
    exact ne hb' (by decide)
  have hgL : ∀ j, lv.ownBlock = some j → j ≠ g := fun j hj => by
    obtain ⟨cur', hb'⟩ := ownsRow_blk h.pend hj
    exact ne hb' (by decide)
  refine ⟨st, fun k hk => Nat.lt_of_lt_of_le (h.inn k hk) st.size, h.Fb, h.Fdv, h.Flv, h.cells.of_same (keep b hgB), h.lft, ?_, ?_, ?_, ?_, h.sep, h.sep2⟩
  · simpa using Same.row (G := fun k => k ≠ g) keep h.durs hgD
  · refine ⟨by simpa using h.dur.1, fun i c m hc hm => ?_⟩
    rw [List.getElem?_set] at hm
    by_cases hik : k = i
    · subst hik
      rw [if_pos rfl] at hm
      split at hm <;> simp at hm
      subst hm
      rw [ha] at hc
      obtain rfl := Option.some.inj hc
      refine ⟨?_, hA.2⟩
      obtain ⟨g', c', e, _, _, _, _, _, hs⟩ := hA.1.cells (by omega)
      have hg' : g' = g := by rw [e] at hg; simpa [Value.ownBlock] using hg
      subst hg'
      exact hs o x ho
    · rw [if_neg hik] at hm
      refine (h.dur.2 i c m hc hm).keep (fun j hj => keep j (fun e => hik ?_)) (fun _ hk => hk)
      subst e
      exact h.sep k i a c j ha hc hg hj
  · exact Same.row (G := fun k => k ≠ g) keep h.pend hgL
  · refine ⟨h.pnd.1, fun i p q hp hq => ?_⟩
    have r := h.pnd.2 i p q hp hq
    exact ⟨r.1, r.2.keep (fun j hj => keep j (fun e => h.sep2 k i a p g ha hp hg (e ▸ hj))) (fun _ hk => hk)⟩
end
def RefP (w : World) (b : Nat) (F : Nat → Prop) (s' : DSt) (v : Value) (e : Ending) (w' : World) : Prop := e = .returned v ∧ Stp F w w' ∧ RefAt w' s' b (Plus F w w')
end Go.Proofs.Ytibojbbhffoldaa
