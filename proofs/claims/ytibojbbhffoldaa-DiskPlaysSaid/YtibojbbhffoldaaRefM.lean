/- How the reference's disk of chapter 15 lies in memory ('RefAt'): the same plain state as the disk's. -/
import Derived.Test.YtibojbbhffoldaaOwnB
import Derived.Test.YtibojbbhffoldaaDiskK
namespace Go.Proofs.Ytibojbbhffoldaa
open Go.RowKit Go.Maps
/-- v is a slice of its own that reads as l; its block is of F. -/
def OwnF (w : World) (F : Nat → Prop) (v : Value) (l : List UInt8) : Prop := OwnB w v l ∧ ∀ g, v.ownBlock = some g → F g
structure RefRep (w : World) (s : DSt) (b : Nat) (F : Nat → Prop) (dv : Value) (dvs : List Value) (lv : Value) (pvs : List (Nat × Value)) (left : Int) : Prop where
  inn : Inn F w
  Fb : F b
  Fdv : ∀ g, dv.ownBlock = some g → F g
  Flv : ∀ g, lv.ownBlock = some g → F g
  cells : Blk w b [.int .i64 (s.size : Int), dv, lv, .bool s.down, .int .i64 left] 41
  lft : s.down = false → left = s.after
  durs : w.ownsRow 0 22 1 dv s.dur.length dvs
  dur : All2 (OwnF w F) dvs s.dur
  pend : w.ownsRow 0 70 2 lv s.pend.length (pcells pvs)
  pnd : All2 (fun p q => p.1 = q.1 ∧ OwnF w F p.2 q.2) pvs s.pend
  sep : ∀ (i j : Nat) (a c : Value) (g : Nat), dvs[i]? = some a → dvs[j]? = some c → a.ownBlock = some g → c.ownBlock = some g → i = j
  sep2 : ∀ (i j : Nat) (a : Value) (p : Nat × Value) (g : Nat), dvs[i]? = some a → pvs[j]? = some p → a.ownBlock = some g → p.2.ownBlock ≠ some g
def RefAt (w : World) (s : DSt) (b : Nat) (F : Nat → Prop) : Prop := s.Ok ∧ ∃ dv dvs lv pvs left, RefRep w s b F dv dvs lv pvs left
section
variable {w w' w1 w2 : World} {s : DSt} {b : Nat} {F G : Nat → Prop} {dv lv v : Value} {dvs : List Value} {pvs : List (Nat × Value)} {left : Int} {l : List UInt8}
theorem OwnF.same (h : OwnF w F v l) (hs : Same F w w') : OwnF w' F v l := ⟨h.1.same hs h.2, h.2⟩
theorem OwnF.mono (h : OwnF w F v l) (hs : ∀ k, F k → G k) : OwnF w G v l := ⟨h.1, fun g hg => hs g (h.2 g hg)⟩
theorem OwnF.bv (h : OwnF w F v l) : BV w F v l := h.1.bv.mono (fun k hk => h.2 k hk)
theorem OwnF.blk (h : OwnF w F v l) {g : Nat} (hg : v.ownBlock = some g) : ∃ cur, Blk w g cur 5 := ownsRow_blk h.1 hg
theorem RefRep.same (h : RefRep w s b F dv dvs lv pvs left) (hs : Same F w w') (hw : w.heap.size ≤ w'.heap.size) : RefRep w' s b F dv dvs lv pvs left :=
  ⟨fun k hk => Nat.lt_of_lt_of_le (h.inn k hk) hw, h.Fb, h.Fdv, h.Flv, hs.blk h.Fb h.cells, h.lft, hs.row h.durs h.Fdv, h.dur.mono (fun _ _ r => r.same hs), hs.row h.pend h.Flv, h.pnd.mono (fun _ _ r => ⟨r.1, r.2.same hs⟩), h.sep, h.sep2⟩
theorem RefRep.mono (h : RefRep w s b F dv dvs lv pvs left) (hs : ∀ k, F k → G k) (hG : Inn G w) : RefRep w s b G dv dvs lv pvs left :=
  ⟨hG, hs _ h.Fb, fun g hg => hs _ (h.Fdv g hg), fun g hg => hs _ (h.Flv g hg), h.cells, h.lft, h.durs, h.dur.mono (fun _ _ r => r.mono hs), h.pend, h.pnd.mono (fun _ _ r => ⟨r.1, r.2.mono hs⟩), h.sep, h.sep2⟩
theorem RefRep.below (h : RefRep w s b F dv dvs lv pvs left) (hb : Below w.heap.size w w') : RefRep w' s b F dv dvs lv pvs left := h.same (fun k hk => hb.block k (h.inn k hk)) hb.size
theorem RefAt.same (h : RefAt w s b F) (hs : Same F w w') (hw : w.heap.size ≤ w'.heap.size) : RefAt w' s b F := by
  obtain ⟨ho, dv, dvs, lv, pvs, left, h⟩ := h; exact ⟨ho, dv, dvs, lv, pvs, left, h.same hs hw⟩
theorem RefAt.mono (h : RefAt w s b F) (hs : ∀ k, F k → G k) (hG : Inn G w) : RefAt w s b G := by
  obtain ⟨ho, dv, dvs, lv, pvs, left, h⟩ := h; exact ⟨ho, dv, dvs, lv, pvs, left, h.mono hs hG⟩
theorem RefAt.inn (h : RefAt w s b F) : Inn F w := by obtain ⟨ho, dv, dvs, lv, pvs, left, h⟩ := h; exact h.inn
theorem RefAt.below (h : RefAt w s b F) (hb : Below w.heap.size w w') : RefAt w' s b F := h.same (fun k hk => hb.block k (h.inn k hk)) hb.size
theorem RefRep.ne_b (h : RefRep w s b F dv dvs lv pvs left) {k : Nat} {L : List Value} {T : TypeId} (hk : Blk w k L T) (hT : T ≠ 41) : k ≠ b := fun e => by subst e; exact hT (hk.inj h.cells).2
theorem RefRep.dv_ne_b (h : RefRep w s b F dv dvs lv pvs left) : dv.ownBlock ≠ some b := fun hg => by
  obtain ⟨cur, hb⟩ := ownsRow_blk h.durs hg
  exact h.ne_b hb (by decide) rfl
theorem RefRep.lv_ne_b (h : RefRep w s b F dv dvs lv pvs left) : lv.ownBlock ≠ some b := fun hg => by
  obtain ⟨cur, hb⟩ := ownsRow_blk h.pend hg
  exact h.ne_b hb (by decide) rfl
theorem RefRep.dv_ne_lv (h : RefRep w s b F dv dvs lv pvs left) {g : Nat} (hg : dv.ownBlock = some g) : lv.ownBlock ≠ some g := fun hl => by
  obtain ⟨cur, hb⟩ := ownsRow_blk h.durs hg
  obtain ⟨cur', hb'⟩ := ownsRow_blk h.pend hl
  exact absurd (hb.inj hb').2 (by decide)
theorem RefRep.lv_ (h : RefRep w s b F dv dvs lv pvs left) : LV w F dv s.dur := by
  rcases h.durs.2 with ⟨rfl, h0⟩ | ⟨g, cap, cur, rfl, hg, hb, h1, h2, hs, ht⟩
  · have hL : s.dur = [] := List.eq_nil_of_length_eq_zero h0
    rw [hL]
    exact ⟨none, 0, rfl, Nat.le_refl _, by unfold maxLen; omega, fun _ => rfl, fun h => absurd h (by simp)⟩
  · refine ⟨_, cap, rfl, h1, h2, (fun e => by cases e), fun _ => ⟨g, 0, rfl, h.Fdv g rfl, fun i hi => ?_⟩⟩
    obtain ⟨x, hx, hv⟩ := h.dur.get (i := i) (b := s.dur[i]) (by simp [hi])
    refine ⟨x, ?_, hv.bv⟩
    rw [Nat.zero_add, h.durs.cellAt i (by omega), hx]
theorem RefRep.dvForm (h : RefRep w s b F dv dvs lv pvs left) : ∃ a c, dv = .slice a s.dur.length c := by
  rcases h.durs.2 with ⟨rfl, h0⟩ | ⟨g, cap, cur, rfl, _⟩
  · exact ⟨none, 0, by rw [h0]⟩
  · exact ⟨_, cap, rfl⟩
theorem RefRep.lvForm (h : RefRep w s b F dv dvs lv pvs left) : ∃ a c, lv = .slice a s.pend.length c := by
  rcases h.pend.2 with ⟨rfl, h0⟩ | ⟨g, cap, cur, rfl, _⟩
  · exact ⟨none, 0, by rw [h0]⟩
  · exact ⟨_, cap, rfl⟩
/-- One row more: behind the row's making (w1) and the append (w2). -/
theorem RefRep.pushRow (h : RefRep w s b F dv dvs lv pvs left) (hB : Below w.heap.size w w1) (hv : OwnB w1 v l) (hv2 : ∀ g, v.ownBlock = some g → w.heap.size ≤ g) {n gg cap : Nat} (hn : s.dur.length = n)
    (hown : w2.ownsRow 0 22 1 (.slice (some ⟨gg, 0, none⟩) (n + 1) cap) (n + 1) (dvs ++ [v])) (hgrow : w1.grownBy w2 dv.ownBlock) (hat : dv.ownBlock = some gg ∨ w1.heap.size = gg) (hlt : gg < w2.heap.size) :
    Stp F w (w2.setCell ⟨b, 1, none⟩ (.slice (some ⟨gg, 0, none⟩) (n + 1) cap)) ∧
    RefRep (w2.setCell ⟨b, 1, none⟩ (.slice (some ⟨gg, 0, none⟩) (n + 1) cap)) { s with dur := s.dur ++ [l] } b (Plus F w (w2.setCell ⟨b, 1, none⟩ (.slice (some ⟨gg, 0, none⟩) (n + 1) cap))) (.slice (some ⟨gg, 0, none⟩) (n + 1) cap) (dvs ++ [v]) lv pvs left := by
  subst hn
  have ltb := h.cells.lt
  have ltdv : ∀ g, dv.ownBlock = some g → g < w.heap.size := fun g hg => h.inn g (h.Fdv g hg)
  have st : Stp F w (w2.setCell ⟨b, 1, none⟩ (.slice (some ⟨gg, 0, none⟩) (s.dur.length + 1) cap)) := by
    refine Stp.set ?_ (.inl (.inl h.Fb)) _
    exact (Stp.of_below F hB).grown hgrow (fun x hx => .inl (h.Fdv x hx))
  have hsz : (w2.setCell ⟨b, 1, none⟩ (.slice (some ⟨gg, 0, none⟩) (s.dur.length + 1) cap)).heap.size = w2.heap.size := by simp
  -- a block that is there at w1, not b and not the row's
  have keep : ∀ x, x < w1.heap.size → x ≠ b → dv.ownBlock ≠ some x → (w2.setCell ⟨b, 1, none⟩ (.slice (some ⟨gg, 0, none⟩) (s.dur.length + 1) cap)).heap[x]? = w1.heap[x]? := fun x hx h1 h2 =>
    (Below.heap_setCell _ _ _ _ h1).trans (hgrow.block x hx (Ne.symm h2))
  have ggb : gg ≠ b := by
    rcases hat with hg | rfl
    · exact fun e => h.dv_ne_b (e ▸ hg)
    · have := hB.size; omega
  have oldB : ∀ {v' : Value} {l' : List UInt8}, OwnF w F v' l' → OwnF (w2.setCell ⟨b, 1, none⟩ (.slice (some ⟨gg, 0, none⟩) (s.dur.length + 1) cap)) (Plus F w (w2.setCell ⟨b, 1, none⟩ (.slice (some ⟨gg, 0, none⟩) (s.dur.length + 1) cap))) v' l' := fun {v' l'} hv' => by
    refine ⟨hv'.1.same (F := fun g => v'.ownBlock = some g) (fun g hg => ?_) (fun g hg => hg), fun g hg => .inl (hv'.2 g hg)⟩
    obtain ⟨cur, hb⟩ := hv'.blk hg
    have hl := hb.lt
    exact (keep g (by have := hB.size; omega) (h.ne_b hb (by decide)) (fun e => by
      obtain ⟨cur', hb'⟩ := ownsRow_blk h.durs e
      exact absurd (hb.inj hb').2 (by decide))).trans (hB.block g hl)
  refine ⟨st, Plus.inn h.inn st.size, .inl h.Fb, fun g hg => ?_, fun g hg => .inl (h.Flv g hg), ?_, h.lft, ?_, ?_, ?_, ?_, ?_, ?_⟩
  · simp only [Value.ownBlock, Option.some.injEq] at hg
    subst hg
    rcases hat with hg | rfl
    · exact .inl (h.Fdv _ hg)
    · exact .inr ⟨by have := hB.size; omega, by simpa using hlt⟩
  · have hb : Blk w2 b _ _ := h.cells.of_same ((hgrow.block b (by have := hB.size; omega) (Ne.symm h.dv_ne_b)).trans (hB.block b ltb))
    simpa using hb.set 1 (.slice (some ⟨gg, 0, none⟩) (s.dur.length + 1) cap)
  · simp only [List.length_append, List.length_cons, List.length_nil]
    exact Same.row (G := fun x => x ≠ b) (fun x hx => Below.heap_setCell _ _ _ _ hx) hown (fun g hg => by
      simp only [Value.ownBlock, Option.some.injEq] at hg
      exact hg ▸ ggb)
  · refine (h.dur.mono (fun _ _ r => oldB r)).snoc ⟨hv.same (F := fun g => v.ownBlock = some g) (fun g hg => ?_) (fun g hg => hg), fun g hg => .inr ⟨hv2 g hg, ?_⟩⟩
    · have hgl := hv.lt g hg
      have := hv2 g hg
      exact keep g hgl (by omega) (fun e => by have := ltdv g e; omega)
    · have := hv.lt g hg
      have := hgrow.size
      rw [hsz]; omega
  · exact Same.row (G := fun x => lv.ownBlock = some x) (fun x hx => by
      have hxl := h.inn x (h.Flv x hx)
      exact (keep x (by have := hB.size; omega) (fun e => h.lv_ne_b (e ▸ hx)) (fun e => h.dv_ne_lv e hx)).trans (hB.block x hxl)) h.pend (fun g hg => hg)
  · exact h.pnd.mono (fun _ _ r => ⟨r.1, oldB r.2⟩)
  · intro i j a c g hi hj ha hc
    have hold : ∀ (i : Nat) (a : Value), dvs[i]? = some a → a.ownBlock = some g → g < w.heap.size := fun i a hi ha => by
      obtain ⟨l', _, hr⟩ := h.dur.get' hi
      exact h.inn g (hr.2 g ha)
    have cases' : ∀ (i : Nat) (a : Value), (dvs ++ [v])[i]? = some a → dvs[i]? = some a ∨ (i = dvs.length ∧ a = v) := fun i a hi => by
      by_cases hl : i < dvs.length
      · rw [List.getElem?_append_left hl] at hi; exact .inl hi
      · rw [List.getElem?_append_right (by omega)] at hi
        have := (List.getElem?_eq_some_iff.1 hi).1
        simp at this
        have e : i - dvs.length = 0 := by omega
        rw [e] at hi
        simp at hi
        exact .inr ⟨by omega, hi.symm⟩
    rcases cases' i a hi with hi' | ⟨hi', rfl⟩ <;> rcases cases' j c hj with hj' | ⟨hj', rfl⟩
    · exact h.sep i j a c g hi' hj' ha hc
    · have := hold i a hi' ha; have := hv2 g hc; omega
    · have := hold j c hj' hc; have := hv2 g ha; omega
    · omega
  · intro i j a p g hi hj ha hp
    obtain ⟨q, _, hr⟩ := h.pnd.get' hj
    have hpl := h.inn g (hr.2.2 g hp)
    by_cases hl : i < dvs.length
    · rw [List.getElem?_append_left hl] at hi
      exact h.sep2 i j a p g hi hj ha hp
    · rw [List.getElem?_append_right (by omega)] at hi
      have := (List.getElem?_eq_some_iff.1 hi).1
      simp at this
      have e : i - dvs.length = 0 := by omega
      rw [e] at hi
      simp at hi
      subst hi
      have := hv2 g ha
      omega
end
end Go.Proofs.Ytibojbbhffoldaa
