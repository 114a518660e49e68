/- The walk of HmacChains. -/
import Derived.Test.YtghhjopclkhpnaaDoorHmK
namespace Go.Proofs.YtghhjopclkhpnaaDoor
open Go.RowKit
set_option maxRecDepth 100000 in
set_option maxHeartbeats 4000000 in
theorem hmacChains_walk (w : World) (hg : Glob w) (s : ByteArray) (_ : s.size ≤ maxLen) (t : ByteArray) (_ : t.size ≤ maxLen) (n : Int) (n1 : -9223372036854775808 ≤ n) (n2 : n ≤ 9223372036854775807) (m : Int) (m1 : -9223372036854775808 ≤ m) (m2 : m ≤ 9223372036854775807) :
    Calls Tryd.prog 12 #[.string s, .string t, .int .i64 n, .int .i64 m] w fun e w' => e = .returned (.bool true) ∧ Below w.heap.size w w' := by
  have HG := Lib.hid hg; clear hg
  by_cases h1 : 200 < s.size
  · have i1 : (200 : Int) < (s.size : Int) := by omega
    go_enter Tryd.func12, Tryd.ntmps12
    go_wp2_with fail
    refine (awake5_any w HG.out).mono ?_
    rintro e w1 ⟨rfl, hb1⟩
    have B1 := Lib.hid hb1; clear hb1
    go_wp2_with fail
    go_ret
    exact ⟨rfl, B1.out⟩
  have i1 : (s.size : Int) ≤ 200 := by omega
  by_cases h2 : 100 < t.size
  · have i2 : (100 : Int) < (t.size : Int) := by omega
    go_enter Tryd.func12, Tryd.ntmps12
    go_wp2_with fail
    refine (awake5_any w HG.out).mono ?_
    rintro e w1 ⟨rfl, hb1⟩
    have B1 := Lib.hid hb1; clear hb1
    go_wp2_with fail
    go_ret
    exact ⟨rfl, B1.out⟩
  have i2 : (t.size : Int) ≤ 100 := by omega
  by_cases h3 : 30 < n ∧ n ≤ 4096
  · obtain ⟨h3, h4⟩ := h3
    go_enter Tryd.func12, Tryd.ntmps12
    go_wp2_with fail
    refine (awake5_any w HG.out).mono ?_
    rintro e w1 ⟨rfl, hb1⟩
    have B1 := Lib.hid hb1; clear hb1
    go_wp2_with fail
    go_ret
    exact ⟨rfl, B1.out⟩
  have hn3 : n ≤ 30 ∨ (30 < n ∧ 4096 < n) := by omega
  by_cases i5 : m < 0
  · rcases hn3 with i4 | ⟨i4, i6⟩
    all_goals
    go_enter Tryd.func12, Tryd.ntmps12
    go_wp2_with fail
    refine (awake5_any w HG.out).mono ?_
    rintro e w1 ⟨rfl, hb1⟩
    have B1 := Lib.hid hb1; clear hb1
    go_wp2_with fail
    go_ret
    exact ⟨rfl, B1.out⟩
  have i5' : (0 : Int) ≤ m := by omega
  by_cases i7 : 30 < m
  · rcases hn3 with i4 | ⟨i4, i6⟩
    all_goals
    go_enter Tryd.func12, Tryd.ntmps12
    go_wp2_with fail
    refine (awake5_any w HG.out).mono ?_
    rintro e w1 ⟨rfl, hb1⟩
    have B1 := Lib.hid hb1; clear hb1
    go_wp2_with fail
    go_ret
    exact ⟨rfl, B1.out⟩
  have i7' : m ≤ 30 := by omega
  have hsl := nil_lt s
  by_cases h32 : s.size = 32
  rotate_left
  · have i8 : ((s.size : Int) != 32) = true := by rw [bne_iff_ne]; omega
    have HV := Lib.hid (show ChaV s.data.toList t.data.toList n = .tuple #[.string ⟨#[]⟩, .int .i64 1] by unfold ChaV; rw [if_pos (by left; omega)])
    clear hsl h32 h3 i5 i7
    rcases hn3 with i4 | ⟨i4, i6⟩
    · go_enter Tryd.func12, Tryd.ntmps12
      go_wp2_with fail
      refine (awake5_any w HG.out).mono ?_
      rintro e w1 ⟨rfl, hb1⟩
      have B1 := Lib.hid hb1; clear hb1
      go_wp2_with fail
      refine (chain_any s t n (HG.out.below B1.out HG.out.lt) (by omega) n1 n2).mono ?_
      rintro e w2 ⟨rfl, hb2⟩
      have B2 := Lib.hid (B1.out.trans (hb2.mono B1.out.size))
      clear hb2
      rw [HV.out]
      go_wp2_with fail
      go_ret
      exact ⟨rfl, B2.out⟩
    · go_enter Tryd.func12, Tryd.ntmps12
      go_wp2_with fail
      refine (awake5_any w HG.out).mono ?_
      rintro e w1 ⟨rfl, hb1⟩
      have B1 := Lib.hid hb1; clear hb1
      go_wp2_with fail
      refine (chain_any s t n (HG.out.below B1.out HG.out.lt) (by omega) n1 n2).mono ?_
      rintro e w2 ⟨rfl, hb2⟩
      have B2 := Lib.hid (B1.out.trans (hb2.mono B1.out.size))
      clear hb2
      rw [HV.out]
      go_wp2_with fail
      go_ret
      exact ⟨rfl, B2.out⟩
  have i8 : ((s.size : Int) != 32) = false := by rw [bne_eq_false_iff_eq]; omega
  by_cases hn0 : n < 0
  · have HV := Lib.hid (show ChaV s.data.toList t.data.toList n = .tuple #[.string ⟨#[]⟩, .int .i64 1] by unfold ChaV; rw [if_pos (by right; omega)])
    have i9 : n ≤ 30 := by omega
    clear hsl h32 h3 i5 i7 hn3
    go_enter Tryd.func12, Tryd.ntmps12
    go_wp2_with fail
    refine (awake5_any w HG.out).mono ?_
    rintro e w1 ⟨rfl, hb1⟩
    have B1 := Lib.hid hb1; clear hb1
    go_wp2_with fail
    refine (chain_any s t n (HG.out.below B1.out HG.out.lt) (by omega) n1 n2).mono ?_
    rintro e w2 ⟨rfl, hb2⟩
    have B2 := Lib.hid (B1.out.trans (hb2.mono B1.out.size))
    clear hb2
    rw [HV.out]
    go_wp2_with fail
    go_ret
    exact ⟨rfl, B2.out⟩
  have i9 : (0 : Int) ≤ n := by omega
  by_cases hn8 : 4096 < n
  · have HV := Lib.hid (show ChaV s.data.toList t.data.toList n = .tuple #[.string ⟨#[]⟩, .int .i64 2] by unfold ChaV; rw [if_neg (by omega), if_pos (by omega)])
    have i10 : 30 < n := by omega
    clear hsl h32 h3 i5 i7 hn3
    go_enter Tryd.func12, Tryd.ntmps12
    go_wp2_with fail
    refine (awake5_any w HG.out).mono ?_
    rintro e w1 ⟨rfl, hb1⟩
    have B1 := Lib.hid hb1; clear hb1
    go_wp2_with fail
    refine (chain_any s t n (HG.out.below B1.out HG.out.lt) (by omega) n1 n2).mono ?_
    rintro e w2 ⟨rfl, hb2⟩
    have B2 := Lib.hid (B1.out.trans (hb2.mono B1.out.size))
    clear hb2
    rw [HV.out]
    go_wp2_with fail
    go_ret
    exact ⟨rfl, B2.out⟩
  obtain ⟨p, rfl⟩ := Int.eq_ofNat_of_zero_le i9
  obtain ⟨q, rfl⟩ := Int.eq_ofNat_of_zero_le i5'
  have i10 : (p : Int) ≤ 30 := by omega
  obtain ⟨P, hP⟩ : ∃ V : ByteArray, (⟨(Hm.chain s.data.toList t.data.toList p).toArray⟩ : ByteArray) = V := ⟨_, rfl⟩
  obtain ⟨Q, hQ⟩ : ∃ V : ByteArray, (⟨(Hm.chain s.data.toList t.data.toList (p + q)).toArray⟩ : ByteArray) = V := ⟨_, rfl⟩
  have hPd : P.data.toList = Hm.chain s.data.toList t.data.toList p := by rw [← hP]
  have hPs : P.size = 32 := by rw [← hP]; exact Hm.chain_length _ _ (by omega) _
  have hpl := nil_lt P
  have HE := Lib.hid (show ChaV s.data.toList t.data.toList p = .tuple #[.string P, .int .i64 0] by unfold ChaV; rw [if_neg (by omega), if_neg (by omega), ← hP]; rfl)
  have HE2 := Lib.hid (show ChaV P.data.toList t.data.toList q = .tuple #[.string Q, .int .i64 0] by unfold ChaV; rw [if_neg (by omega), if_neg (by omega), hPd, ← hQ, Hm.chain_add]; rfl)
  have HE3 := Lib.hid (show ChaV s.data.toList t.data.toList ((p : Int) + (q : Int)) = .tuple #[.string Q, .int .i64 0] by unfold ChaV; rw [if_neg (by omega), if_neg (by omega), ← hQ, show ((p : Int) + (q : Int)).toNat = p + q from by omega])
  have HP := Lib.hid hP
  have H32 := Lib.hid h32
  clear hsl h32 h3 i5 i7 hn3 hP hQ hPd hPs hpl hn0 hn8
  go_enter Tryd.func12, Tryd.ntmps12
  go_wp2_with fail
  refine (awake5_any w HG.out).mono ?_
  rintro e w1 ⟨rfl, hb1⟩
  have B1 := Lib.hid hb1; clear hb1
  go_wp2_with fail
  refine (chain_any s t p (HG.out.below B1.out HG.out.lt) (by omega) n1 n2).mono ?_
  rintro e w2 ⟨rfl, hb2⟩
  have B2 := Lib.hid (B1.out.trans (hb2.mono B1.out.size))
  clear hb2
  rw [HE.out]
  go_wp2_with fail
  refine (chain_any P t q (HG.out.below B2.out HG.out.lt) (by omega) m1 m2).mono ?_
  rintro e w3 ⟨rfl, hb3⟩
  have B3 := Lib.hid (B2.out.trans (hb3.mono B2.out.size))
  clear hb3
  rw [HE2.out]
  go_wp2_with fail
  refine (chain_any s t ((p : Int) + (q : Int)) (HG.out.below B3.out HG.out.lt) (by omega) (by omega) (by omega)).mono ?_
  rintro e w4 ⟨rfl, hb4⟩
  have B4 := Lib.hid (B3.out.trans (hb4.mono B3.out.size))
  clear hb4
  rw [HE3.out]
  go_wp2_with fail
  refine (refchain_any s t p H32.out (by omega) (by omega)).mono ?_
  rintro e w5 ⟨rfl, hb5⟩
  have B5 := Lib.hid (B4.out.trans (hb5.mono B4.out.size))
  clear hb5
  rw [HP.out]
  go_wp2_with fail
  go_ret
  exact ⟨rfl, B5.out⟩
end Go.Proofs.YtghhjopclkhpnaaDoor
