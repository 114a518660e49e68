/- The walk of HmacExpands. -/
import Derived.Test.YtghhjopclkhpnaaDoorHmK
namespace Go.Proofs.YtghhjopclkhpnaaDoor
open Go.RowKit
set_option maxRecDepth 100000 in
set_option maxHeartbeats 4000000 in
theorem hmacExpands_walk (w : World) (hg : Glob w) (s : ByteArray) (_ : s.size ≤ maxLen) (t : ByteArray) (_ : t.size ≤ maxLen) (n : Int) (n1 : -9223372036854775808 ≤ n) (n2 : n ≤ 9223372036854775807) :
    Calls Tryd.prog 6 #[.string s, .string t, .int .i64 n] w fun e w' => e = .returned (.bool true) ∧ Below w.heap.size w w' := by
  have HG := Lib.hid hg; clear hg
  by_cases h1 : 200 < s.size
  · have i1 : (200 : Int) < (s.size : Int) := by omega
    go_enter Tryd.func6, Tryd.ntmps6
    go_wp2_with fail
    refine (awake5_any w HG.out).mono ?_
    rintro e w1 ⟨rfl, hb1⟩
    have B1 := Lib.hid hb1; clear hb1
    go_wp2_with fail
    go_ret
    exact ⟨rfl, B1.out⟩
  have i1 : (s.size : Int) ≤ 200 := by omega
  by_cases h2 : 200 < t.size
  · have i2 : (200 : Int) < (t.size : Int) := by omega
    go_enter Tryd.func6, Tryd.ntmps6
    go_wp2_with fail
    refine (awake5_any w HG.out).mono ?_
    rintro e w1 ⟨rfl, hb1⟩
    have B1 := Lib.hid hb1; clear hb1
    go_wp2_with fail
    go_ret
    exact ⟨rfl, B1.out⟩
  have i2 : (t.size : Int) ≤ 200 := by omega
  by_cases h3 : 300 < n ∧ n ≤ 8160
  · obtain ⟨h3, h4⟩ := h3
    go_enter Tryd.func6, Tryd.ntmps6
    go_wp2_with fail
    refine (awake5_any w HG.out).mono ?_
    rintro e w1 ⟨rfl, hb1⟩
    have B1 := Lib.hid hb1; clear hb1
    go_wp2_with fail
    go_ret
    exact ⟨rfl, B1.out⟩
  have hsl := nil_lt s
  by_cases h32 : s.size < 32
  · have i3 : (s.size : Int) < 32 := by omega
    have HV := Lib.hid (show ExpV s.data.toList t.data.toList n = .tuple #[.string ⟨#[]⟩, .int .i64 1] by unfold ExpV; rw [if_pos (by left; omega)])
    have hn3 : n ≤ 300 ∨ (300 < n ∧ 8160 < n) := by omega
    clear h3 hsl h32
    rcases hn3 with i4 | ⟨i4, i5⟩
    · go_enter Tryd.func6, Tryd.ntmps6
      go_wp2_with fail
      refine (awake5_any w HG.out).mono ?_
      rintro e w1 ⟨rfl, hb1⟩
      have B1 := Lib.hid hb1; clear hb1
      go_wp2_with fail
      refine (expand_any s t n (HG.out.below B1.out HG.out.lt) (by omega) (by omega) n1 n2).mono ?_
      rintro e w2 ⟨rfl, hb2⟩
      have B2 := Lib.hid (B1.out.trans (hb2.mono B1.out.size))
      clear hb2
      rw [HV.out]
      go_wp2_with fail
      go_ret
      exact ⟨rfl, B2.out⟩
    · go_enter Tryd.func6, Tryd.ntmps6
      go_wp2_with fail
      refine (awake5_any w HG.out).mono ?_
      rintro e w1 ⟨rfl, hb1⟩
      have B1 := Lib.hid hb1; clear hb1
      go_wp2_with fail
      refine (expand_any s t n (HG.out.below B1.out HG.out.lt) (by omega) (by omega) n1 n2).mono ?_
      rintro e w2 ⟨rfl, hb2⟩
      have B2 := Lib.hid (B1.out.trans (hb2.mono B1.out.size))
      clear hb2
      rw [HV.out]
      go_wp2_with fail
      go_ret
      exact ⟨rfl, B2.out⟩
  have i3 : (32 : Int) ≤ (s.size : Int) := by omega
  by_cases hn0 : n < 0
  · have HV := Lib.hid (show ExpV s.data.toList t.data.toList n = .tuple #[.string ⟨#[]⟩, .int .i64 1] by unfold ExpV; rw [if_pos (by right; omega)])
    clear h3 hsl h32
    go_enter Tryd.func6, Tryd.ntmps6
    go_wp2_with fail
    refine (awake5_any w HG.out).mono ?_
    rintro e w1 ⟨rfl, hb1⟩
    have B1 := Lib.hid hb1; clear hb1
    go_wp2_with fail
    refine (expand_any s t n (HG.out.below B1.out HG.out.lt) (by omega) (by omega) n1 n2).mono ?_
    rintro e w2 ⟨rfl, hb2⟩
    have B2 := Lib.hid (B1.out.trans (hb2.mono B1.out.size))
    clear hb2
    rw [HV.out]
    go_wp2_with fail
    go_ret
    exact ⟨rfl, B2.out⟩
  have i4 : (0 : Int) ≤ n := by omega
  by_cases hn8 : 8160 < n
  · have HV := Lib.hid (show ExpV s.data.toList t.data.toList n = .tuple #[.string ⟨#[]⟩, .int .i64 2] by unfold ExpV; rw [if_neg (by omega), if_pos (by omega)])
    have i5 : 300 < n := by omega
    clear h3 hsl h32
    go_enter Tryd.func6, Tryd.ntmps6
    go_wp2_with fail
    refine (awake5_any w HG.out).mono ?_
    rintro e w1 ⟨rfl, hb1⟩
    have B1 := Lib.hid hb1; clear hb1
    go_wp2_with fail
    refine (expand_any s t n (HG.out.below B1.out HG.out.lt) (by omega) (by omega) n1 n2).mono ?_
    rintro e w2 ⟨rfl, hb2⟩
    have B2 := Lib.hid (B1.out.trans (hb2.mono B1.out.size))
    clear hb2
    rw [HV.out]
    go_wp2_with fail
    go_ret
    exact ⟨rfl, B2.out⟩
  obtain ⟨m, rfl⟩ := Int.eq_ofNat_of_zero_le i4
  have i5 : (m : Int) ≤ 300 := by omega
  obtain ⟨V, hV⟩ : ∃ V : ByteArray, (⟨(Hm.expand s.data.toList t.data.toList m).toArray⟩ : ByteArray) = V := ⟨_, rfl⟩
  have HE := Lib.hid (show ExpV s.data.toList t.data.toList m = .tuple #[.string V, .int .i64 0] by unfold ExpV; rw [if_neg (by omega), if_neg (by omega), ← hV]; rfl)
  have HV := Lib.hid hV
  clear h3 hsl h32 hn0 hn8 hV
  go_enter Tryd.func6, Tryd.ntmps6
  go_wp2_with fail
  refine (awake5_any w HG.out).mono ?_
  rintro e w1 ⟨rfl, hb1⟩
  have B1 := Lib.hid hb1; clear hb1
  go_wp2_with fail
  refine (expand_any s t m (HG.out.below B1.out HG.out.lt) (by omega) (by omega) n1 n2).mono ?_
  rintro e w2 ⟨rfl, hb2⟩
  have B2 := Lib.hid (B1.out.trans (hb2.mono B1.out.size))
  clear hb2
  rw [HE.out]
  go_wp2_with fail
  refine (refexpand_any s t m (by omega) (by omega) (by omega)).mono ?_
  rintro e w3 ⟨rfl, hb3⟩
  rw [HV.out]
  have B3 := Lib.hid (B2.out.trans (hb3.mono B2.out.size))
  clear hb3
  go_wp2_with fail
  go_ret
  exact ⟨rfl, B3.out⟩
end Go.Proofs.YtghhjopclkhpnaaDoor
