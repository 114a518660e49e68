/- The walk of FrameSplits. -/
import Derived.Test.YthanbihdkjmeoaaDoorFrQ
import Derived.StillTailTactics
namespace Go.Proofs.YthanbihdkjmeoaaDoor
open Go.RowKit
set_option maxRecDepth 100000 in
set_option maxHeartbeats 4000000 in
theorem frameSplits_walk (w : World) (hg : Glob w) (k : Int) (_ : -9223372036854775808 ≤ k) (_ : k ≤ 9223372036854775807) (bv : Value) (l : List UInt8) (hb : BV w (fun k => k < w.heap.size) bv l) (most : Int) (_ : -9223372036854775808 ≤ most) (_ : most ≤ 9223372036854775807) :
    Calls Tryd.prog 10 #[.int .i64 k, bv, .int .i64 most] w fun e w' => e = .returned (.bool true) ∧ Below w.heap.size w w' := by
  obtain ⟨ba, bc, rfl, bc1, bc2, _⟩ := hb.get
  unfold maxLen at bc2
  have HG := Lib.hid hg
  have HBV := Lib.hid hb
  clear hg hb
  by_cases h400 : 400 < l.length
  · have i4 : (400 : Int) < (l.length : Int) := by omega
    go_enter Tryd.func10, Tryd.ntmps10
    go_wp2_with fail
    refine (awake37_any w HG.out).mono ?_
    rintro e w1 ⟨rfl, hb1⟩
    have B1 := Lib.hid hb1; clear hb1
    go_wp2_with fail
    go_ret
    exact ⟨rfl, B1.out⟩
  have i4 : (l.length : Int) ≤ 400 := by omega
  have H4 : Hid (l.length ≤ 400) := Lib.hid (by omega)
  clear h400
  go_enter Tryd.func10, Tryd.ntmps10
  go_wp2_with fail
  refine (awake37_any w HG.out).mono ?_
  rintro e w1 ⟨rfl, hb1⟩
  have B1 := Lib.hid hb1; clear hb1
  go_wp2_with fail
  refine (split_any (HBV.out.same (w' := w1) (fun k hk => B1.out.block k hk)) (fun k hk => Nat.lt_of_lt_of_le hk B1.out.size) k most).mono ?_
  rintro e w2 ⟨hb2, hsp⟩
  have B2 := Lib.hid (B1.out.trans (hb2.mono B1.out.size)); clear hb2
  by_cases hbad : ¬ (0 ≤ k ∧ k ≤ 255) ∨ most < 2 ∨ 65536 < most
  · rw [if_pos hbad] at hsp
    subst hsp
    go_wp2_with fail
    refine (refkind_any w2 k).mono ?_
    rintro e w' ⟨rfl, rfl⟩
    by_cases hk : 0 ≤ k ∧ k ≤ 255
    · have HD := Lib.hid (decide_eq_true hk)
      rw [HD.out]
      by_cases hm : most < 2
      · clear hbad
        go_wp2_with fail
        go_ret
        exact ⟨rfl, B2.out⟩
      · have hm2 : 65536 < most := by omega
        clear hbad
        go_wp2_with fail
        go_ret
        exact ⟨rfl, B2.out⟩
    · have HD := Lib.hid (decide_eq_false hk)
      rw [HD.out]
      clear hbad hk
      go_wp2_with fail
      go_ret
      exact ⟨rfl, B2.out⟩
  · have hk : 0 ≤ k ∧ k ≤ 255 := by omega
    have hm1 : ¬ most < 2 := by omega
    have hm2 : ¬ 65536 < most := by omega
    rw [if_neg hbad, if_neg (by omega)] at hsp
    obtain ⟨sv, rfl, hM2⟩ := hsp
    have HD := Lib.hid (decide_eq_true hk)
    obtain ⟨P, hP⟩ : ∃ P, Fr.split k (most - 1).toNat l = P := ⟨_, rfl⟩
    rw [hP] at hM2
    obtain ⟨sa, sc, rfl, hs1, hs2⟩ := hM2.shape
    unfold maxLen at hs2
    have M2 := Lib.hid hM2.msv
    have HPP := Lib.hid hP
    have HMM : Hid (2 ≤ most ∧ most ≤ 65536) := Lib.hid (by omega)
    clear hbad hk hM2 hP
    go_wp2_with fail
    refine (refkind_any w2 k).mono ?_
    rintro e w' ⟨rfl, rfl⟩
    rw [HD.out]
    go_wp2_with fail
    refine (refsplit_any (HBV.out.same (w' := w2) (fun k hk => B2.out.block k hk)) (fun k hk => Nat.lt_of_lt_of_le hk B2.out.size) k most HMM.out.1 HMM.out.2 (by have := H4.out; omega)).mono ?_
    rintro e w3 ⟨rv, rfl, hM3, hb3⟩
    rw [HPP.out] at hM3
    obtain ⟨ra, rc, rfl, hr1, hr2⟩ := hM3.shape
    unfold maxLen at hr2
    have M3 := Lib.hid hM3.msv
    have M23 := Lib.hid (M2.out.grow hb3)
    have B3 := Lib.hid (B2.out.trans (hb3.mono B2.out.size))
    have inn : ((P.length : Int) != (P.length : Int)) = false := by simp
    clear hM3 hb3
    go_wp2_with fail
    go_loopw [10] (fun s wz => ∃ j : Nat, j ≤ P.length ∧ s = .int .i64 (j : Int) ∧ Below w3.heap.size w3 wz) (fun s _ => P.length - (intOf s).toNat)
    case atStart => exact ⟨0, by omega, rfl, Below.refl _ _⟩
    case round =>
      obtain ⟨j, hj, rfl, hbz⟩ := hrel
      have HBZ := Lib.hid hbz
      clear hbz
      by_cases hjl : j < P.length
      · have ij : (j : Int) < (P.length : Int) := by omega
        obtain ⟨_, _, e1, _, _, hget1⟩ := (M23.out.grow HBZ.out).get
        obtain ⟨rfl, rfl⟩ : _ ∧ _ := by simpa using e1
        obtain ⟨gb, go, gx, rfl, _, g0, g1, gbv⟩ := hget1 j (by omega)
        obtain ⟨_, _, e2, _, _, hget2⟩ := (M3.out.grow HBZ.out).get
        obtain ⟨rfl, rfl⟩ : _ ∧ _ := by simpa using e2
        obtain ⟨lb, lo, lx, rfl, _, l0, l1, lbv⟩ := hget2 j (by omega)
        obtain ⟨m, hm⟩ : ∃ m, P[j]'(by omega) = m := ⟨_, rfl⟩
        rw [hm] at g0 gbv l0 lbv
        obtain ⟨gxa, gxc, rfl, _⟩ := gbv.get
        obtain ⟨lxa, lxc, rfl, _⟩ := lbv.get
        have GBV := Lib.hid gbv
        have LBV := Lib.hid lbv
        clear hget1 hget2 e1 e2 gbv lbv hm
        go_wp2_with fail
        go_still_tail 8, (by kernel_rfl)
        go_wp2_with fail
        refine (msame_is (show BV wr.drew _ _ _ from GBV.out) (show BV wr.drew _ _ _ from LBV.out)).mono ?_
        rintro e w20 ⟨rfl, hb20⟩
        have HB20 := Lib.hid (HBZ.out.trans ((show Below wr.heap.size wr w20 from ⟨hb20.1, hb20.2, hb20.3, hb20.4, hb20.5⟩).mono HBZ.out.size))
        clear hb20
        go_wp2_with fail
        go_roundw
        case rel => exact ⟨j + 1, by omega, by go_num, HB20.out⟩
        case measure => simp [intOf]; omega
      · have ij : ¬ (j : Int) < (P.length : Int) := by omega
        go_wp2_with fail
        go_ret
        exact ⟨rfl, B3.out.trans (HBZ.out.mono B3.out.size)⟩
end Go.Proofs.YthanbihdkjmeoaaDoor
