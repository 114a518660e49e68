/- The walk of HmacLabels. -/
import Derived.Test.YtghhjopclkhpnaaDoorHmK
namespace Go.Proofs.YtghhjopclkhpnaaDoor
open Go.RowKit
set_option maxRecDepth 100000 in
set_option maxHeartbeats 4000000 in
theorem hmacLabels_walk (w : World) (hg : Glob w) (s : ByteArray) (_ : s.size ≤ maxLen) (t : ByteArray) (_ : t.size ≤ maxLen) :
    Calls Tryd.prog 11 #[.string s, .string t] w fun e w' => e = .returned (.bool true) ∧ Below w.heap.size w w' := by
  have HG := Lib.hid hg; clear hg
  by_cases h32 : s.size ≠ 32
  · have i3 : ((s.size : Int) != 32) = true := by rw [bne_iff_ne]; omega
    go_enter Tryd.func11, Tryd.ntmps11
    go_wp2_with fail
    refine (awake5_any w HG.out).mono ?_
    rintro e w1 ⟨rfl, hb1⟩
    have B1 := Lib.hid hb1; clear hb1
    go_wp2_with fail
    go_ret
    exact ⟨rfl, B1.out⟩
  have h32' : s.size = 32 := by omega
  have i3 : ((s.size : Int) != 32) = false := by rw [bne_eq_false_iff_eq]; omega
  by_cases h0 : t.size < 1
  · have i4 : (t.size : Int) < 1 := by omega
    go_enter Tryd.func11, Tryd.ntmps11
    go_wp2_with fail
    refine (awake5_any w HG.out).mono ?_
    rintro e w1 ⟨rfl, hb1⟩
    have B1 := Lib.hid hb1; clear hb1
    go_wp2_with fail
    go_ret
    exact ⟨rfl, B1.out⟩
  have i4 : (1 : Int) ≤ (t.size : Int) := by omega
  by_cases h64 : 64 < t.size
  · have i5 : (64 : Int) < (t.size : Int) := by omega
    go_enter Tryd.func11, Tryd.ntmps11
    go_wp2_with fail
    refine (awake5_any w HG.out).mono ?_
    rintro e w1 ⟨rfl, hb1⟩
    have B1 := Lib.hid hb1; clear hb1
    go_wp2_with fail
    go_ret
    exact ⟨rfl, B1.out⟩
  have i5 : (t.size : Int) ≤ 64 := by omega
  have hsl := nil_lt s
  have htl := nil_lt t
  obtain ⟨V, hV⟩ : ∃ V : ByteArray, (⟨(Hm.expand (Hm.tag [] s.data.toList) t.data.toList 32).toArray⟩ : ByteArray) = V := ⟨_, rfl⟩
  have HE := Lib.hid (show DerV s.data.toList t.data.toList = .tuple #[.string V, .int .i64 0] by unfold DerV; rw [if_neg (by omega), ← hV])
  have HV := Lib.hid hV
  have hVs : V.size = 32 := by rw [← hV]; exact Hm.expand_length _ _ _
  have HVs := Lib.hid hVs
  have H32 := Lib.hid h32'
  clear hsl htl h32 h32' hV hVs
  go_enter Tryd.func11, Tryd.ntmps11
  go_wp2_with fail
  refine (awake5_any w HG.out).mono ?_
  rintro e w1 ⟨rfl, hb1⟩
  have B1 := Lib.hid hb1; clear hb1
  go_wp2_with fail
  refine (derive_any s t (HG.out.below B1.out HG.out.lt) (by omega)).mono ?_
  rintro e w2 ⟨rfl, hb2⟩
  have B2 := Lib.hid (B1.out.trans (hb2.mono B1.out.size))
  clear hb2
  rw [HE.out]
  go_wp2_with fail
  refine (extract_any ⟨#[]⟩ s (HG.out.below B2.out HG.out.lt) (by decide) (by have := H32.out; omega)).mono ?_
  rintro e w3 ⟨rfl, hb3⟩
  have B3 := Lib.hid (B2.out.trans (hb3.mono B2.out.size))
  have hK : ∃ T : ByteArray, (⟨(Hm.tag (⟨#[]⟩ : ByteArray).data.toList s.data.toList).toArray⟩ : ByteArray) = T ∧ T.size = 32 ∧ T.data.toList = Hm.tag [] s.data.toList := ⟨_, rfl, Hm.tag_length _ _, rfl⟩
  obtain ⟨K, hK, hKs, hKd⟩ := hK
  rw [hK]
  have HKs := Lib.hid hKs
  have HE2 := Lib.hid (show ExpV K.data.toList t.data.toList 32 = .tuple #[.string V, .int .i64 0] by
    have := nil_lt K
    unfold ExpV; rw [if_neg (by omega), if_neg (by omega), hKd, ← HV.out]; rfl)
  clear hb3 hK hKs hKd
  go_wp2_with fail
  refine (expand_any K t 32 (HG.out.below B3.out HG.out.lt) (by have := HKs.out; omega) (by omega) (by omega) (by omega)).mono ?_
  rintro e w4 ⟨rfl, hb4⟩
  have B4 := Lib.hid (B3.out.trans (hb4.mono B3.out.size))
  rw [HE2.out]
  clear hb4
  go_wp2_with fail
  refine (equal_any V V).mono ?_
  rintro e w5 ⟨rfl, rfl⟩
  have hd : (decide (V.size = 32) && (V.toList == V.toList)) = true := by rw [decide_eq_true HVs.out, beq_self_eq_true]; rfl
  rw [hd]
  clear hd
  go_wp2_with fail
  go_ret
  exact ⟨rfl, B4.out⟩
end Go.Proofs.YtghhjopclkhpnaaDoor
