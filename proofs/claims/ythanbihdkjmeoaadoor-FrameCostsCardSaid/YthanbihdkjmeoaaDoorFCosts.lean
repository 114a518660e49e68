/- The walk of FrameCosts. -/
import Derived.Test.YthanbihdkjmeoaaDoorFrR
namespace Go.Proofs.YthanbihdkjmeoaaDoor
open Go.RowKit
set_option maxRecDepth 100000 in
set_option maxHeartbeats 4000000 in
theorem frameCosts_walk (w : World) (hg : Glob w) (n : Int) (_ : -9223372036854775808 ≤ n) (_ : n ≤ 9223372036854775807) :
    Calls Tryd.prog 4 #[.int .i64 n] w fun e w' => e = .returned (.bool true) ∧ Below w.heap.size w w' := by
  have HG := Lib.hid hg; clear hg
  by_cases h0 : n < 0
  · go_enter Tryd.func4, Tryd.ntmps4
    go_wp2_with fail
    refine (awake37_any w HG.out).mono ?_
    rintro e w1 ⟨rfl, hb1⟩
    have B1 := Lib.hid hb1; clear hb1
    go_wp2_with fail
    refine (fCost_any w1 n).mono ?_
    rintro e w2 ⟨rfl, rfl⟩
    rw [if_pos h0]
    go_wp2_with fail
    go_ret
    exact ⟨rfl, B1.out⟩
  by_cases h1 : 65536 < n
  · go_enter Tryd.func4, Tryd.ntmps4
    go_wp2_with fail
    refine (awake37_any w HG.out).mono ?_
    rintro e w1 ⟨rfl, hb1⟩
    have B1 := Lib.hid hb1; clear hb1
    go_wp2_with fail
    refine (fCost_any w1 n).mono ?_
    rintro e w2 ⟨rfl, rfl⟩
    rw [if_neg (by omega), if_pos h1]
    go_wp2_with fail
    go_ret
    exact ⟨rfl, B1.out⟩
  obtain ⟨m, rfl⟩ := Int.eq_ofNat_of_zero_le (by omega : 0 ≤ n)
  have i1 : (m : Int) ≤ 65536 := by omega
  have i0 : (0 : Int) ≤ (m : Int) := by omega
  have HC : Hid (((m : Int)).toNat = m) := Lib.hid (by omega)
  clear h0 h1
  go_enter Tryd.func4, Tryd.ntmps4
  go_wp2_with fail
  refine (awake37_any w HG.out).mono ?_
  rintro e w1 ⟨rfl, hb1⟩
  have B1 := Lib.hid hb1; clear hb1
  go_wp2_with fail
  refine (fCost_any w1 (m : Int)).mono ?_
  rintro e w2 ⟨rfl, rfl⟩
  rw [if_neg (by omega), if_neg (by omega), HC.out]
  go_wp2_with fail
  refine (refcost_any w1 m (by omega)).mono ?_
  rintro e w2 ⟨rfl, hb2⟩
  have B2 := Lib.hid (B1.out.trans (hb2.mono B1.out.size)); clear hb2
  go_wp2_with fail
  go_ret
  exact ⟨rfl, B2.out⟩
end Go.Proofs.YthanbihdkjmeoaaDoor
