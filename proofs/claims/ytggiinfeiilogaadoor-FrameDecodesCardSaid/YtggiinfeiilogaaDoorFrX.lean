/- Contract of Next. -/
import Derived.Test.YtggiinfeiilogaaDoorFrN
namespace Go.Proofs.YtggiinfeiilogaaDoor
open Go.RowKit
section
variable {w w' : World} {F G : Nat → Prop} {v xv : Value} {l m : List UInt8}
theorem NextPost.shape {b : Nat} {e : Ending} {w1 : World} (h : NextPost w1 b F l e w') : ∃ k a n c fd er, e = .returned (.tuple #[.agg #[.int .i64 k, .slice a n c], .bool fd, .int .i64 er]) := by
  unfold NextPost at h
  split at h
  · exact ⟨_, _, _, _, _, _, h.1⟩
  · exact ⟨_, _, _, _, _, _, h.1⟩
  · obtain ⟨bv, h, hb, _⟩ := h
    obtain ⟨a, c, rfl, _⟩ := hb
    exact ⟨_, _, _, _, _, _, h⟩
/-- Onto a world in which only block p (none of the decoder's, and new) has turned, and new memory has come. -/
theorem NextPost.carry {b p : Nat} {e : Ending} {w0 w1 w2 : World} (h : NextPost w1 b F l e w2) (hz : w0.heap.size ≤ w1.heap.size) (hk : ∀ x, x < w2.heap.size → x ≠ p → w'.heap[x]? = w2.heap[x]?) (hs : w2.heap.size ≤ w'.heap.size) (hp : ¬ F p) (hp1 : p < w1.heap.size) : NextPost w0 b F l e w' := by
  have dec : ∀ s, DecAt w2 b F s → DecAt w' b F s := fun s hs2 => hs2.same (fun x hx => hk x (hs2.2.1 x hx) (fun e => hp (e ▸ hx))) hs
  unfold NextPost at *
  split at h
  · rename_i hq; exact ⟨h.1, dec _ h.2⟩
  · exact ⟨h.1, dec _ h.2⟩
  · obtain ⟨bv, h1, h2, h3⟩ := h
    exact ⟨bv, h1, (h2.same (w' := w') (fun x hx => hk x hx.2 (by omega))).mono (fun x hx => ⟨by omega, by omega⟩), dec _ h3⟩
theorem eqfn (k : Nat) (w : World) : (binOp .eql 77 (.func (.func k) #[] #[]) .nilFunc).run Tryd.prog w = .ok (.bool false) w := by kernel_rfl
set_option maxRecDepth 100000 in
set_option maxHeartbeats 4000000 in
theorem next_live {b : Nat} (h : DecAt w b F (.live l)) (hg : Glob w) (hgF : From (1 + 1) F) (hn : l.length ≤ 1000000000) :
    Calls Tryd.prog 22 #[.pointer (some ⟨b, 0, none⟩)] w fun e w' => Stp F w w' ∧ NextPost w b F l e w' := by
  have H0 := Lib.hid h
  obtain ⟨hF, hI, sv, hbuf, hblk⟩ := h
  have hlt := hI b hF
  have HI := Lib.hid hI
  have HG := Lib.hid hg
  have HGF := Lib.hid hgF
  obtain ⟨w1, hw1⟩ : ∃ w1, w.alloc (.cells #[.int .i64 0, .slice none 0 0] 32) = w1 := ⟨_, rfl⟩
  have B1 : Hid (Below w.heap.size w w1) := Lib.hid (by rw [← hw1]; exact (Below.refl _ _).alloc (Nat.le_refl _) _)
  have D1 := Lib.hid (H0.out.grow B1.out)
  have P1 : Hid (Blk w1 w.heap.size [.int .i64 0, .slice none 0 0] 32) := Lib.hid (by rw [← hw1]; exact Blk.new w _ _)
  have d0 : w1.cell? ⟨b, 2, none⟩ = some (.func (.func 43) #[] #[]) := by rw [← hw1]; exact (hblk.alloc _).cell rfl
  have hp : ¬ F w.heap.size := fun h => by have := HI.out _ h; omega
  have HP := Lib.hid hp
  clear hF hI hbuf hblk hg hgF hp
  go_enter Tryd.func22, Tryd.ntmps22
  have hq := eqfn 43
  go_wp2_with fail
  clear hw1 hq
  refine (read_any D1.out (HG.out.below B1.out HG.out.lt) HGF.out hn).mono ?_
  rintro e w2 ⟨hst2, hN2⟩
  obtain ⟨kk, sa, sn, sc, fd, er, rfl⟩ := hN2.shape
  have P2 := Lib.hid (P1.out.of_same (hst2.keep _ P1.out.lt HP.out))
  have S2 := Lib.hid ((Stp.of_below F B1.out).trans' hst2)
  have N2 := Lib.hid hN2
  have p0 := P2.out.cell (i := 0) rfl
  have p1 := P2.out.cell (i := 1) rfl
  have p2 := P2.out.free
  clear hst2 hN2
  go_wp2_with fail
  have S7 := (S2.out.set (a := ⟨w.heap.size, 0, none⟩) (.inr (Nat.le_refl _)) (.int .i64 kk)).set (a := ⟨w.heap.size, 1, none⟩) (.inr (Nat.le_refl _)) (.slice sa sn sc)
  refine ret_msg rfl (g := w.heap.size) rfl ((P2.out.set 0 (.int .i64 kk)).set 1 (.slice sa sn sc)) rfl ?_
  exact ⟨S7, N2.out.carry B1.out.size (fun x _ hx => by rw [heap_setCell_other _ _ _ _ hx, heap_setCell_other _ _ _ _ hx]) (by simp) HP.out P1.out.lt⟩
set_option maxRecDepth 100000 in
set_option maxHeartbeats 4000000 in
theorem next_dead {b n : Nat} (h : DecAt w b F (.dead n)) :
    Calls Tryd.prog 22 #[.pointer (some ⟨b, 0, none⟩)] w fun e w' => e = .returned (.tuple #[msg0, .bool false, .int .i64 9]) ∧ Below w.heap.size w w' := by
  obtain ⟨hF, hI, hn, hblk⟩ := h
  have hlt := hI b hF
  obtain ⟨w1, hw1⟩ : ∃ w1, w.alloc (.cells #[.int .i64 0, .slice none 0 0] 32) = w1 := ⟨_, rfl⟩
  have B1 : Hid (Below w.heap.size w w1) := Lib.hid (by rw [← hw1]; exact (Below.refl _ _).alloc (Nat.le_refl _) _)
  have P1 : Hid (Blk w1 w.heap.size [.int .i64 0, .slice none 0 0] 32) := Lib.hid (by rw [← hw1]; exact Blk.new w _ _)
  have d0 : w1.cell? ⟨b, 2, none⟩ = some (.func (.func 64) #[] #[]) := by rw [← hw1]; exact (hblk.alloc _).cell rfl
  clear hF hI hblk hn
  go_enter Tryd.func22, Tryd.ntmps22
  have hq := eqfn 64
  go_wp2_with fail
  clear hw1 hq
  refine (broken_any b w1).mono ?_
  rintro e w2 ⟨rfl, hb2⟩
  have P2 := Lib.hid (P1.out.of_same (hb2.block _ P1.out.lt))
  have B2 := Lib.hid (B1.out.trans (hb2.mono B1.out.size))
  clear hb2
  have p0 := P2.out.cell (i := 0) rfl
  have p1 := P2.out.cell (i := 1) rfl
  have p2 := P2.out.free
  go_wp2_with fail
  refine ret_msg rfl (g := w.heap.size) rfl ((P2.out.set 0 (.int .i64 0)).set 1 (.slice none 0 0)) rfl ?_
  exact ⟨rfl, (B2.out.setCell (Nat.le_refl _) _).setCell (Nat.le_refl _) _⟩
end
end Go.Proofs.YtggiinfeiilogaaDoor
