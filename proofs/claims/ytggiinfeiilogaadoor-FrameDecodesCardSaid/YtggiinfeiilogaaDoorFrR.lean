/- The reference: Number, Kind, Check, Cost. -/
import Derived.Test.YtggiinfeiilogaaDoorFrA
namespace Go.Proofs.YtggiinfeiilogaaDoor
open Go.RowKit
section
variable {w w' : World} {F G : Nat → Prop}
set_option maxRecDepth 100000 in
set_option maxHeartbeats 1000000 in
theorem refnum_any (w : World) (n : Nat) (hn : n < 2097152) : Calls Tryd.prog 50 #[.int .u64 (n : Int)] w fun e w' => ∃ sv, e = .returned sv ∧ NewB w.heap.size w (Fr.num n) sv w' := by
  have N0 := Lib.hid (NewB.empty w)
  go_enter Tryd.func50, Tryd.ntmps50
  go_wp2_with fail
  go_loopw [0, 3] (fun s0 s3 wr => ∃ (m : Nat) (acc : List UInt8), s0 = .int .u64 (m : Int) ∧ acc ++ Fr.num m = Fr.num n ∧ m < 2097152 ∧ NewB w.heap.size w acc s3 wr) (fun s0 _ _ => (intOf s0).toNat)
  case atStart => exact ⟨n, [], rfl, rfl, hn, N0.out⟩
  case round =>
    clear N0
    obtain ⟨m, acc, rfl, hs, hm, hR⟩ := hrel
    have hle := Fr.num_le hn
    have hal : acc.length ≤ 10 := by have := congrArg List.length hs; simp only [List.length_append] at this; omega
    obtain ⟨a, c, rfl, _, _, _, _⟩ := hR.2.1.form
    have HR := Lib.hid hR
    have HAL := Lib.hid hal
    clear hR hle hal
    by_cases h : m < 128
    · rw [Fr.num1 h] at hs
      obtain ⟨y, hy⟩ : ∃ y : UInt8, y.toNat = m := ⟨UInt8.ofNat m, Fr.toNat_of (by omega)⟩
      subst hy
      rw [show UInt8.ofNat y.toNat = y from UInt8.toNat_inj.1 (Fr.toNat_of (by omega))] at hs
      have i1 : ¬ (127 : Int) < (y.toNat : Int) := by omega
      have HS := Lib.hid hs
      have HX := Lib.hid (BV.lits wr #[.int .u8 (y.toNat : Int)] [y] 1 rfl (by simp [By]) (by omega))
      clear hs h
      go_wp2_with (at_builtin; refine wpList_append_bytes rfl (.tmp 16) (.tmp 19) rfl (.slice a acc.length c) _ [y] (by rfl) (by rfl) (HR.out.alloc _).2.1 HX.out (by have := HAL.out; simp; omega) ?_; intro a5 c5 w5 hO5 hg5 ho5; have R5 := Lib.hid ((HR.out.alloc _).push hO5 hg5 ho5); clear hO5 hg5 ho5)
      go_ret
      exact ⟨_, rfl, by rw [← HS.out]; exact R5.out⟩
    · have i1 : (127 : Int) < (m : Int) := by omega
      rw [Fr.numS h] at hs
      obtain ⟨y, hy⟩ : ∃ y : UInt8, UInt8.ofNat (m % 128 + 128) = y := ⟨_, rfl⟩
      rw [hy] at hs
      have hyv : ((m : Int) % 128 + 128) = (y.toNat : Int) := by rw [← hy, Fr.toNat_of (by omega)]; omega
      have HS := Lib.hid hs
      have HX := Lib.hid (BV.lits wr #[.int .u8 (y.toNat : Int)] [y] 1 rfl (by simp [By]) (by omega))
      clear hs hy
      go_wp2_with (at_builtin; refine wpList_append_bytes rfl (.tmp 7) (.tmp 12) rfl (.slice a acc.length c) _ [y] (by rfl) (by rfl) (HR.out.alloc _).2.1 HX.out (by have := HAL.out; simp; omega) ?_; intro a5 c5 w5 hO5 hg5 ho5; have R5 := Lib.hid ((HR.out.alloc _).push hO5 hg5 ho5); clear hO5 hg5 ho5)
      refine ⟨⟨m / 128, acc ++ [y], by go_num, by rw [← HS.out]; simp, by omega, R5.out⟩, by simp [intOf]; omega⟩
set_option maxHeartbeats 1000000 in
theorem refcost_any (w : World) (n : Nat) (hn : n ≤ 1000000) : Calls Tryd.prog 30 #[.int .i64 (n : Int)] w fun e w' => e = .returned (.int .i64 (Fr.cost n : Int)) ∧ Below w.heap.size w w' := by
  go_enter Tryd.func30, Tryd.ntmps30
  go_wp2_with fail
  refine (refnum_any w n (by omega)).mono ?_
  rintro e w' ⟨sv, rfl, hN⟩
  obtain ⟨a, c, rfl, _, _, _, _⟩ := hN.2.1.form
  have HB := Lib.hid hN.1
  have hle := Fr.num_le (n := n) (by omega)
  clear hN
  go_wp2_with fail
  go_ret
  exact ⟨ret_int (by unfold Fr.cost; push_cast; rfl), HB.out⟩
set_option maxHeartbeats 1000000 in
theorem refkind_any (w : World) (k : Int) : Calls Tryd.prog 39 #[.int .i64 k] w fun e w' => e = .returned (.bool (decide (0 ≤ k ∧ k ≤ 255))) ∧ w = w' := by
  by_cases h0 : 0 ≤ k
  · by_cases h1 : k ≤ 255
    · go_enter Tryd.func39, Tryd.ntmps39
      go_wp2_with fail
      go_ret
      exact ⟨ret_bool (decide_eq_true ⟨h0, h1⟩).symm, rfl⟩
    · go_enter Tryd.func39, Tryd.ntmps39
      go_wp2_with fail
      go_ret
      exact ⟨ret_bool (decide_eq_false (by omega)).symm, rfl⟩
  · go_enter Tryd.func39, Tryd.ntmps39
    go_wp2_with fail
    go_ret
    exact ⟨ret_bool (by rw [decide_eq_false (show ¬ 0 ≤ k by omega)]; rfl), rfl⟩
end
end Go.Proofs.YtggiinfeiilogaaDoor
