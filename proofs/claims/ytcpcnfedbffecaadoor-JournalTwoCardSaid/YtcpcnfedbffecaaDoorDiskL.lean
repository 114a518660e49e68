/- What the steps of an operation on a disk leave of it. -/
import Derived.Test.YtcpcnfedbffecaaDoorDiskO
namespace Go.Proofs.YtcpcnfedbffecaaDoor
open Go.RowKit Go.Maps
section
variable {w : World} {s : DSt} {b : Nat} {F G : Nat → Prop} {bd bm : Nat} {dvs : List Value} {pv : Value} {pvs : List (Nat × Value)} {D : DataW Unit}

theorem failW_size (w : World) (b : Nat) (x : Int) : (failW w b x).heap.size = w.heap.size := by unfold failW; split <;> simp
theorem failW_other (w : World) (b : Nat) (x : Int) (k : Nat) (hk : k ≠ b) : (failW w b x).heap[k]? = w.heap[k]? := by
  unfold failW; split
  · rfl
  · rw [Below.heap_setCell _ _ _ _ hk, Below.heap_setCell _ _ _ _ hk]
theorem failW_stp (w : World) (b : Nat) (x : Int) (hb : F b) : Stp F w (failW w b x) := by
  unfold failW; split
  · exact Stp.refl _ _
  · exact ((Stp.refl F w).set (.inl (.inl hb)) _).set (.inl (.inl hb)) _
/-- One operation less before the failure. -/
theorem DiskRep.failed (h : DiskRep w s b F bd bm dvs pv pvs D) : DiskRep (failW w b s.after) s.step b F bd bm dvs pv pvs D := by
  have h1 := h.ok.a1
  have h2 := h.ok.a2
  unfold DSt.step failW
  by_cases ha : s.after < 0
  · rw [if_pos ha, if_pos ha]; exact h
  · rw [if_neg ha, if_neg ha]
    refine h.turn (fun k hk => by rw [Below.heap_setCell _ _ _ _ hk, Below.heap_setCell _ _ _ _ hk]) (by simp) (s.after - 1) (decide (s.after = 0)) (by omega) (by omega) ?_
    exact (h.cells.set 4 _).set 5 _

theorem MapRel.push {k : Nat} {l : List UInt8} (h : MapRel D s.pend) : MapRel (D.put (.int .i64 (k : Int)) (.lit (.int .i64 (s.pend.length : Int)))) (s.pend ++ [(k, l)]) := by
  have hkey : WideAt.IsKeyLit (.int .i64 (k : Int)) := by simp [WideAt.IsKeyLit]
  refine ⟨h.1.put _ _, fun j hj => ?_⟩
  rw [DSt.lastIdx_snoc]
  by_cases e : k = j
  · subst e
    simp only [if_true]
    refine ⟨has_put_same h.1 hkey _, fun z => ?_⟩
    rw [atKey_put_same h.1 hkey]; simp
  · have hne : (Lit.int .i64 (j : Int)) ≠ .int .i64 (k : Int) := fun he => by
      injection he with _ he; omega
    rw [if_neg e]
    have := h.2 j hj
    revert this
    cases DSt.lastIdx j s.pend 0 with
    | none => intro this; simp only at this ⊢; rw [has_put_other hne]; exact this
    | some i => intro this; simp only at this ⊢; exact ⟨by rw [has_put_other hne]; exact this.1, fun z => by rw [atKey_put_other hne]; exact this.2 z⟩

/-- Behind the map's update (w1), the copy of the data, and the append (w2). -/
theorem DiskRep.wrote (h : DiskRep w s b F bd bm dvs pv pvs D) {k : Nat} {l : List UInt8} (hk : k < s.dur.length) (hl : l.length = s.size) {w1 w2 : World}
    (M1 : w1.ownsMap Tryd.prog 3 (plainElem Tryd.prog 3) bm (s.pend.length + 1) (D.put (.int .i64 (k : Int)) (.lit (.int .i64 (s.pend.length : Int))))) (G1 : w.drew.grownBy w1 (some bm))
    {gg cap : Nat} {o : Obj} (own2 : w2.ownsRow 0 65 2 (.slice (some ⟨gg, 0, none⟩) (s.pend.length + 1) cap) (s.pend.length + 1) (pcells pvs ++ [.int .i64 (k : Int), .slice (some ⟨w1.heap.size, 0, none⟩) s.size s.size]))
    (G2 : ((w1.alloc (.cells (By (fill s.size l)).toArray 5)).alloc o).drew.grownBy w2 pv.ownBlock) (hat : pv.ownBlock = some gg ∨ gg = w1.heap.size + 2) (lt2 : gg < w2.heap.size) :
    Stp F w (w2.setCell ⟨b, 2, none⟩ (.slice (some ⟨gg, 0, none⟩) (s.pend.length + 1) cap)) ∧
    DiskRep (w2.setCell ⟨b, 2, none⟩ (.slice (some ⟨gg, 0, none⟩) (s.pend.length + 1) cap)) (s.push k l) b (Plus F w (w2.setCell ⟨b, 2, none⟩ (.slice (some ⟨gg, 0, none⟩) (s.pend.length + 1) cap))) bd bm dvs
      (.slice (some ⟨gg, 0, none⟩) (s.pend.length + 1) cap) (pvs ++ [(k, .slice (some ⟨w1.heap.size, 0, none⟩) s.size s.size)]) (D.put (.int .i64 (k : Int)) (.lit (.int .i64 (s.pend.length : Int)))) := by
  have hs1 : w.heap.size ≤ w1.heap.size := G1.size
  have hs2 : w1.heap.size + 2 ≤ w2.heap.size := by have := G2.size; simpa using this
  have e1 : ∀ x, x < w.heap.size → x ≠ bm → w1.heap[x]? = w.heap[x]? := fun x hx hne => G1.block x hx (fun e => hne (Option.some.inj e))
  have e2 : ∀ x, x < w1.heap.size → pv.ownBlock ≠ some x → w2.heap[x]? = w1.heap[x]? := fun x hx hne =>
    (G2.block x (by simp; omega) (Ne.symm hne)).trans ((Below.heap_alloc _ _ _ (by simp; omega)).trans (Below.heap_alloc _ _ _ hx))
  have ltb := h.cells.lt
  have ltbm : bm < w.heap.size := h.inn bm h.Fbm
  have ltpv : ∀ g, pv.ownBlock = some g → g < w.heap.size := fun g hg => h.inn g (h.Fpv g hg)
  have bne : ∀ {x L T}, Blk w x L T → x ≠ bm := fun hb => (h.bm_ne hb).symm
  -- a block of cells of another type than the pending row's, that is not b
  have old : ∀ {x L T}, Blk w x L T → T ≠ 52 → T ≠ 65 → Blk (w2.setCell ⟨b, 2, none⟩ (.slice (some ⟨gg, 0, none⟩) (s.pend.length + 1) cap)) x L T := fun {x L T} hb h1 h2 => by
    have hxb : x ≠ b := h.ne_b hb h1
    refine hb.of_same ((Below.heap_setCell _ _ _ _ hxb).trans ((e2 x (by have := hb.lt; omega) (fun hg => ?_)).trans (e1 x hb.lt (bne hb))))
    obtain ⟨cur, hb'⟩ := ownsRow_blk h.pend hg
    exact h2 (hb.inj hb').2
  have ggb : gg ≠ b := by
    rcases hat with hg | rfl
    · exact h.pv_ne_b hg
    · omega
  have st : Stp F w (w2.setCell ⟨b, 2, none⟩ (.slice (some ⟨gg, 0, none⟩) (s.pend.length + 1) cap)) := by
    refine Stp.set ?_ (.inl (.inl h.Fb)) _
    refine Stp.grown (w' := ((w1.alloc (.cells (By (fill s.size l)).toArray 5)).alloc o).drew) ?_ G2 (fun x hx => .inl (h.Fpv x hx))
    refine Stp.drew (Stp.alloc (Stp.alloc ?_ _) _)
    exact ((Stp.refl F w).drew).grown G1 (fun x hx => .inl (Option.some.inj hx ▸ h.Fbm))
  have new1 : Blk w2 w1.heap.size (By (fill s.size l)) 5 := by
    have hb : Blk ((w1.alloc (.cells (By (fill s.size l)).toArray 5)).alloc o).drew w1.heap.size (By (fill s.size l)) 5 := (Blk.new w1 _ _).alloc o
    refine hb.of_same (G2.block _ hb.lt (fun e => ?_))
    have := ltpv _ e.symm
    omega
  have dv : ∀ {n v l'}, DataV w F n v l' → DataV (w2.setCell ⟨b, 2, none⟩ (.slice (some ⟨gg, 0, none⟩) (s.pend.length + 1) cap)) (Plus F w (w2.setCell ⟨b, 2, none⟩ (.slice (some ⟨gg, 0, none⟩) (s.pend.length + 1) cap))) n v l' := fun hv => by
    obtain ⟨x, e, hx, hb, hl⟩ := hv
    exact ⟨x, e, .inl hx, old hb (by decide) (by decide), hl⟩
  refine ⟨st, DSt.push_ok h.ok hk hl, Plus.inn h.inn st.size, .inl h.Fb, .inl h.Fbd, .inl h.Fbm, fun g hg => ?_, ?_, old h.durs (by decide) (by decide), h.dur.mono (fun _ _ r => r.imp id dv), ?_, ?_, ?_, ?_⟩
  · simp only [Value.ownBlock, Option.some.injEq] at hg
    subst hg
    rcases hat with hg | rfl
    · exact .inl (h.Fpv _ hg)
    · exact .inr ⟨by omega, by simpa using lt2⟩
  · have hb : Blk w2 b _ _ := h.cells.of_same ((e2 b (by omega) (fun hg => h.pv_ne_b hg rfl)).trans (e1 b ltb (bne h.cells)))
    simpa [DSt.push] using hb.set 2 (.slice (some ⟨gg, 0, none⟩) (s.pend.length + 1) cap)
  · rw [pcells_snoc]
    simp only [DSt.push, List.length_append, List.length_cons, List.length_nil]
    exact Same.row (G := fun x => x ≠ b) (fun x hx => Below.heap_setCell _ _ _ _ hx) own2 (fun g hg => by
      simp only [Value.ownBlock, Option.some.injEq] at hg
      exact hg ▸ ggb)
  · refine (h.pvs.mono (fun _ _ r => ⟨r.1, dv r.2⟩)).snoc ⟨rfl, w1.heap.size, rfl, .inr ⟨hs1, by simp; omega⟩, ?_, hl⟩
    have : fill s.size l = l := by rw [← hl]; exact fill_self l
    rw [this] at new1
    exact new1.set_ne (by show w1.heap.size ≠ b; omega) _
  · have e : w2.heap[bm]? = w1.heap[bm]? := e2 bm (by omega) (fun hg => by
      obtain ⟨cur, hb⟩ := ownsRow_blk h.pend hg
      exact h.bm_ne hb rfl)
    simp only [DSt.push, List.length_append, List.length_cons, List.length_nil]
    exact ownsMap_same M1 ((Below.heap_setCell _ _ _ _ (h.bm_ne h.cells)).trans e)
  · exact h.rel.push
theorem DSt.write_eq {k : Nat} {l : List UInt8} (hd : s.down = false) (hk : k < s.dur.length) (hl : l.length = s.size) : s.write k l = (if s.after = 0 then 8 else 0, (s.push k l).step) := by
  simp [DSt.write, hd, DSt.valid, hl, DSt.failing]; omega
/-- The end of a Write: what the two halves leave together. -/
theorem DiskRep.writeEnd {w2 : World} {pv' : Value} {pvs' : List (Nat × Value)} {D' : DataW Unit} (R : Stp F w w2 ∧ DiskRep w2 s b (Plus F w w2) bd bm dvs pv' pvs' D') :
    Stp F w (failW w2 b s.after) ∧ DiskAt (failW w2 b s.after) s.step b (Plus F w (failW w2 b s.after)) := by
  have st : Stp F w (failW w2 b s.after) := R.1.trans (failW_stp w2 b s.after R.2.Fb)
  have hs := failW_size w2 b s.after
  refine ⟨st, DiskAt.mono ⟨_, _, _, _, _, _, R.2.failed⟩ (fun k hk => ?_) ?_⟩
  · rcases hk with hk | hk
    · exact .inl hk
    · exact .inr ⟨hk.1, by omega⟩
  · intro k hk
    rcases hk with hk | hk
    · rw [hs]; exact R.2.inn k (.inl hk)
    · exact hk.2
end
end Go.Proofs.YtcpcnfedbffecaaDoor
