/- The walk of HmacDerives. -/
import Derived.Test.YtghhjopclkhpnaaDoorHmK
namespace Go.Proofs.YtghhjopclkhpnaaDoor
open Go.RowKit
set_option maxRecDepth 100000 in
set_option maxHeartbeats 4000000 in
theorem hmacDerives_walk (w : World) (hg : Glob w) (s : ByteArray) (_ : s.size ≤ maxLen) (t : ByteArray) (_ : t.size ≤ maxLen) :
    Calls Tryd.prog 10 #[.string s, .string t] w fun e w' => e = .returned (.bool true) ∧ Below w.heap.size w w' := by
  have HG := Lib.hid hg; clear hg
  by_cases h1 : 200 < s.size
  · have i1 : (200 : Int) < (s.size : Int) := by omega
    go_enter Tryd.func10, Tryd.ntmps10
    go_wp2_with fail
    refine (awake5_any w HG.out).mono ?_
    rintro e w1 ⟨rfl, hb1⟩
    have B1 := Lib.hid hb1; clear hb1
    go_wp2_with fail
    go_ret
    exact ⟨rfl, B1.out⟩
  have i1 : (s.size : Int) ≤ 200 := by omega
  by_cases h2 : 200 < t.size
  · have i2 : (200 : Int) < (t.size : Int) := by omega
    go_enter Tryd.func10, Tryd.ntmps10
    go_wp2_with fail
    refine (awake5_any w HG.out).mono ?_
    rintro e w1 ⟨rfl, hb1⟩
    have B1 := Lib.hid hb1; clear hb1
    go_wp2_with fail
    go_ret
    exact ⟨rfl, B1.out⟩
  have i2 : (t.size : Int) ≤ 200 := by omega
  have hsl := nil_lt s
  have htl := nil_lt t
  by_cases h32 : s.size = 32
  rotate_left
  · have i3 : ((s.size : Int) != 32) = true := by rw [bne_iff_ne]; omega
    have HV := Lib.hid (show DerV s.data.toList t.data.toList = .tuple #[.string ⟨#[]⟩, .int .i64 1] by unfold DerV; rw [if_pos (by left; omega)])
    clear hsl htl h32
    go_enter Tryd.func10, Tryd.ntmps10
    go_wp2_with fail
    refine (awake5_any w HG.out).mono ?_
    rintro e w1 ⟨rfl, hb1⟩
    have B1 := Lib.hid hb1; clear hb1
    go_wp2_with fail
    refine (derive_any s t (HG.out.below B1.out HG.out.lt) (by omega)).mono ?_
    rintro e w2 ⟨rfl, hb2⟩
    have B2 := Lib.hid (B1.out.trans (hb2.mono B1.out.size))
    clear hb2
    rw [HV.out]
    go_wp2_with fail
    go_ret
    exact ⟨rfl, B2.out⟩
  have i3 : ((s.size : Int) != 32) = false := by rw [bne_eq_false_iff_eq]; omega
  by_cases h0 : t.size < 1
  · have i4 : (t.size : Int) < 1 := by omega
    have HV := Lib.hid (show DerV s.data.toList t.data.toList = .tuple #[.string ⟨#[]⟩, .int .i64 1] by unfold DerV; rw [if_pos (by right; left; omega)])
    clear hsl htl h32
    go_enter Tryd.func10, Tryd.ntmps10
    go_wp2_with fail
    refine (awake5_any w HG.out).mono ?_
    rintro e w1 ⟨rfl, hb1⟩
    have B1 := Lib.hid hb1; clear hb1
    go_wp2_with fail
    refine (derive_any s t (HG.out.below B1.out HG.out.lt) (by omega)).mono ?_
    rintro e w2 ⟨rfl, hb2⟩
    have B2 := Lib.hid (B1.out.trans (hb2.mono B1.out.size))
    clear hb2
    rw [HV.out]
    go_wp2_with fail
    go_ret
    exact ⟨rfl, B2.out⟩
  have i4 : (1 : Int) ≤ (t.size : Int) := by omega
  by_cases h64 : 64 < t.size
  · have i5 : (64 : Int) < (t.size : Int) := by omega
    have HV := Lib.hid (show DerV s.data.toList t.data.toList = .tuple #[.string ⟨#[]⟩, .int .i64 1] by unfold DerV; rw [if_pos (by right; right; omega)])
    clear hsl htl h32
    go_enter Tryd.func10, Tryd.ntmps10
    go_wp2_with fail
    refine (awake5_any w HG.out).mono ?_
    rintro e w1 ⟨rfl, hb1⟩
    have B1 := Lib.hid hb1; clear hb1
    go_wp2_with fail
    refine (derive_any s t (HG.out.below B1.out HG.out.lt) (by omega)).mono ?_
    rintro e w2 ⟨rfl, hb2⟩
    have B2 := Lib.hid (B1.out.trans (hb2.mono B1.out.size))
    clear hb2
    rw [HV.out]
    go_wp2_with fail
    go_ret
    exact ⟨rfl, B2.out⟩
  have i5 : (t.size : Int) ≤ 64 := by omega
  obtain ⟨V, hV⟩ : ∃ V : ByteArray, (⟨(Hm.expand (Hm.tag [] s.data.toList) t.data.toList 32).toArray⟩ : ByteArray) = V := ⟨_, rfl⟩
  have HE := Lib.hid (show DerV s.data.toList t.data.toList = .tuple #[.string V, .int .i64 0] by unfold DerV; rw [if_neg (by omega), ← hV])
  have HV := Lib.hid hV
  clear hsl htl h32 hV
  go_enter Tryd.func10, Tryd.ntmps10
  go_wp2_with fail
  refine (awake5_any w HG.out).mono ?_
  rintro e w1 ⟨rfl, hb1⟩
  have B1 := Lib.hid hb1; clear hb1
  go_wp2_with fail
  refine (derive_any s t (HG.out.below B1.out HG.out.lt) (by omega)).mono ?_
  rintro e w2 ⟨rfl, hb2⟩
  have B2 := Lib.hid (B1.out.trans (hb2.mono B1.out.size))
  clear hb2
  rw [HE.out]
  go_wp2_with fail
  refine (refderive_any s t (by omega) (by omega)).mono ?_
  rintro e w3 ⟨rfl, hb3⟩
  rw [HV.out]
  have B3 := Lib.hid (B2.out.trans (hb3.mono B2.out.size))
  clear hb3
  go_wp2_with fail
  go_ret
  exact ⟨rfl, B3.out⟩
end Go.Proofs.YtghhjopclkhpnaaDoor
