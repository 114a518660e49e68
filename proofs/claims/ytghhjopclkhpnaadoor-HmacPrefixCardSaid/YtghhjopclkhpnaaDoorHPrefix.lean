/- The walk of HmacPrefix. -/
import Derived.Test.YtghhjopclkhpnaaDoorHmK
namespace Go.Proofs.YtghhjopclkhpnaaDoor
open Go.RowKit
set_option maxRecDepth 100000 in
set_option maxHeartbeats 4000000 in
theorem hmacPrefix_walk (w : World) (hg : Glob w) (s : ByteArray) (_ : s.size ≤ maxLen) (t : ByteArray) (_ : t.size ≤ maxLen) (n : Int) (n1 : -9223372036854775808 ≤ n) (n2 : n ≤ 9223372036854775807) (m : Int) (m1 : -9223372036854775808 ≤ m) (m2 : m ≤ 9223372036854775807) :
    Calls Tryd.prog 7 #[.string s, .string t, .int .i64 n, .int .i64 m] w fun e w' => e = .returned (.bool true) ∧ Below w.heap.size w w' := by
  have HG := Lib.hid hg; clear hg
  by_cases h1 : 100 < s.size
  · have i1 : (100 : Int) < (s.size : Int) := by omega
    go_enter Tryd.func7, Tryd.ntmps7
    go_wp2_with fail
    refine (awake5_any w HG.out).mono ?_
    rintro e w1 ⟨rfl, hb1⟩
    have B1 := Lib.hid hb1; clear hb1
    go_wp2_with fail
    go_ret
    exact ⟨rfl, B1.out⟩
  have i1 : (s.size : Int) ≤ 100 := by omega
  by_cases h2 : 100 < t.size
  · have i2 : (100 : Int) < (t.size : Int) := by omega
    go_enter Tryd.func7, Tryd.ntmps7
    go_wp2_with fail
    refine (awake5_any w HG.out).mono ?_
    rintro e w1 ⟨rfl, hb1⟩
    have B1 := Lib.hid hb1; clear hb1
    go_wp2_with fail
    go_ret
    exact ⟨rfl, B1.out⟩
  have i2 : (t.size : Int) ≤ 100 := by omega
  by_cases i3 : n < 0
  · skip
    go_enter Tryd.func7, Tryd.ntmps7
    go_wp2_with fail
    refine (awake5_any w HG.out).mono ?_
    rintro e w1 ⟨rfl, hb1⟩
    have B1 := Lib.hid hb1; clear hb1
    go_wp2_with fail
    go_ret
    exact ⟨rfl, B1.out⟩
  have i3' : (0 : Int) ≤ n := by omega
  by_cases i4 : m < n
  · skip
    go_enter Tryd.func7, Tryd.ntmps7
    go_wp2_with fail
    refine (awake5_any w HG.out).mono ?_
    rintro e w1 ⟨rfl, hb1⟩
    have B1 := Lib.hid hb1; clear hb1
    go_wp2_with fail
    go_ret
    exact ⟨rfl, B1.out⟩
  have i4' : n ≤ m := by omega
  by_cases i5 : 8160 < m
  · skip
    go_enter Tryd.func7, Tryd.ntmps7
    go_wp2_with fail
    refine (awake5_any w HG.out).mono ?_
    rintro e w1 ⟨rfl, hb1⟩
    have B1 := Lib.hid hb1; clear hb1
    go_wp2_with fail
    go_ret
    exact ⟨rfl, B1.out⟩
  have i5' : m ≤ 8160 := by omega
  have hsl := nil_lt s
  clear i3 i4 i5
  obtain ⟨p, rfl⟩ := Int.eq_ofNat_of_zero_le i3'
  obtain ⟨q, rfl⟩ := Int.eq_ofNat_of_zero_le (show 0 ≤ m by omega)
  by_cases h32 : s.size < 32
  · have i6 : (s.size : Int) < 32 := by omega
    have HV := Lib.hid (show ExpV s.data.toList t.data.toList p = .tuple #[.string ⟨#[]⟩, .int .i64 1] by unfold ExpV; rw [if_pos (by left; omega)])
    have HV2 := Lib.hid (show ExpV s.data.toList t.data.toList q = .tuple #[.string ⟨#[]⟩, .int .i64 1] by unfold ExpV; rw [if_pos (by left; omega)])
    clear hsl h32
    go_enter Tryd.func7, Tryd.ntmps7
    go_wp2_with fail
    refine (awake5_any w HG.out).mono ?_
    rintro e w1 ⟨rfl, hb1⟩
    have B1 := Lib.hid hb1; clear hb1
    go_wp2_with fail
    refine (expand_any s t p (HG.out.below B1.out HG.out.lt) (by omega) (by omega) n1 n2).mono ?_
    rintro e w2 ⟨rfl, hb2⟩
    have B2 := Lib.hid (B1.out.trans (hb2.mono B1.out.size))
    clear hb2
    rw [HV.out]
    go_wp2_with fail
    refine (expand_any s t q (HG.out.below B2.out HG.out.lt) (by omega) (by omega) m1 m2).mono ?_
    rintro e w3 ⟨rfl, hb3⟩
    have B3 := Lib.hid (B2.out.trans (hb3.mono B2.out.size))
    clear hb3
    rw [HV2.out]
    go_wp2_with fail
    go_ret
    exact ⟨rfl, B3.out⟩
  have i6 : (32 : Int) ≤ (s.size : Int) := by omega
  obtain ⟨P, hP⟩ : ∃ V : ByteArray, (⟨(Hm.expand s.data.toList t.data.toList p).toArray⟩ : ByteArray) = V := ⟨_, rfl⟩
  obtain ⟨Q, hQ⟩ : ∃ V : ByteArray, (⟨(Hm.expand s.data.toList t.data.toList q).toArray⟩ : ByteArray) = V := ⟨_, rfl⟩
  have HE := Lib.hid (show ExpV s.data.toList t.data.toList p = .tuple #[.string P, .int .i64 0] by unfold ExpV; rw [if_neg (by omega), if_neg (by omega), ← hP]; rfl)
  have HE2 := Lib.hid (show ExpV s.data.toList t.data.toList q = .tuple #[.string Q, .int .i64 0] by unfold ExpV; rw [if_neg (by omega), if_neg (by omega), ← hQ]; rfl)
  have hPs : P.size = p := by rw [← hP]; exact Hm.expand_length _ _ _
  have hQs : Q.size = q := by rw [← hQ]; exact Hm.expand_length _ _ _
  have hpre : Q.extract 0 p = P := by
    rw [str_take, ← hQ, ← hP]
    show (⟨((Hm.expand s.data.toList t.data.toList q).take p).toArray⟩ : ByteArray) = _
    rw [Hm.expand_prefix _ _ (by omega)]
  have HPRE := Lib.hid hpre
  have HPS := Lib.hid hPs
  have HQS := Lib.hid hQs
  clear hsl h32 hP hQ hpre hPs hQs
  go_enter Tryd.func7, Tryd.ntmps7
  go_wp2_with fail
  refine (awake5_any w HG.out).mono ?_
  rintro e w1 ⟨rfl, hb1⟩
  have B1 := Lib.hid hb1; clear hb1
  go_wp2_with fail
  refine (expand_any s t p (HG.out.below B1.out HG.out.lt) (by omega) (by omega) n1 n2).mono ?_
  rintro e w2 ⟨rfl, hb2⟩
  have B2 := Lib.hid (B1.out.trans (hb2.mono B1.out.size))
  clear hb2
  rw [HE.out]
  go_wp2_with fail
  refine (expand_any s t q (HG.out.below B2.out HG.out.lt) (by omega) (by omega) m1 m2).mono ?_
  rintro e w3 ⟨rfl, hb3⟩
  have B3 := Lib.hid (B2.out.trans (hb3.mono B2.out.size))
  clear hb3
  rw [HE2.out]
  have e1 : ((P.size : Int) == (p : Int)) = true := by rw [beq_iff_eq, HPS.out]
  have e2 : ((Q.size : Int) == (q : Int)) = true := by rw [beq_iff_eq, HQS.out]
  have e3 : (p : Int) ≤ (Q.size : Int) := by have := HQS.out; omega
  have e4 := HPRE.out
  go_wp2_with fail
  go_ret
  exact ⟨rfl, B3.out⟩
end Go.Proofs.YtghhjopclkhpnaaDoor
