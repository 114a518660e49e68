/- The walk of HmacKeys. -/
import Derived.Test.YtghhjopclkhpnaaDoorHmK
namespace Go.Proofs.YtghhjopclkhpnaaDoor
open Go.RowKit
set_option maxRecDepth 100000 in
set_option maxHeartbeats 4000000 in
theorem hmacKeys_walk (w : World) (hg : Glob w) (s : ByteArray) (_ : s.size ≤ maxLen) (xv : Value) (d : List UInt8) (hx : BV w (fun k => k < w.heap.size) xv d) :
    Calls Tryd.prog 9 #[.string s, xv] w fun e w' => e = .returned (.bool true) ∧ Below w.heap.size w w' := by
  obtain ⟨xa, xc, rfl, xc1, xc2, _⟩ := hx.get
  unfold maxLen at xc2
  have HX := Lib.hid hx; clear hx
  have HG := Lib.hid hg; clear hg
  by_cases h1 : 200 < s.size
  · have i1 : (200 : Int) < (s.size : Int) := by omega
    go_enter Tryd.func9, Tryd.ntmps9
    go_wp2_with fail
    refine (awake5_any w HG.out).mono ?_
    rintro e w1 ⟨rfl, hb1⟩
    have B1 := Lib.hid hb1; clear hb1
    go_wp2_with fail
    go_ret
    exact ⟨rfl, B1.out⟩
  have i1 : (s.size : Int) ≤ 200 := by omega
  by_cases h2 : 200 < d.length
  · have i2 : (200 : Int) < (d.length : Int) := by omega
    go_enter Tryd.func9, Tryd.ntmps9
    go_wp2_with fail
    refine (awake5_any w HG.out).mono ?_
    rintro e w1 ⟨rfl, hb1⟩
    have B1 := Lib.hid hb1; clear hb1
    go_wp2_with fail
    go_ret
    exact ⟨rfl, B1.out⟩
  have i2 : (d.length : Int) ≤ 200 := by omega
  have hsl := nil_lt s
  obtain ⟨V, hV⟩ : ∃ V : ByteArray, (⟨(Hm.tag s.data.toList d).toArray⟩ : ByteArray) = V := ⟨_, rfl⟩
  have hVs : V.size = 32 := by rw [← hV]; exact Hm.tag_length _ _
  have e32 : ((V.size : Int) == 32) = true := by rw [beq_iff_eq]; omega
  have HV := Lib.hid hV
  clear hV
  by_cases h3 : s.size < 64
  · have i3 : (s.size : Int) < 64 := by omega
    have hadd : (s ++ (⟨#[0]⟩ : ByteArray)).data.toList = s.data.toList ++ [0] := by simp
    have hz : (⟨(Hm.tag (s ++ (⟨#[0]⟩ : ByteArray)).data.toList d).toArray⟩ : ByteArray) = V := by rw [hadd, Hm.tag_zero _ _ (by omega)]; exact HV.out
    have HZ := Lib.hid hz
    have hsz : (s ++ (⟨#[0]⟩ : ByteArray)).size ≤ 100 := by
      have e := nil_lt (s ++ (⟨#[0]⟩ : ByteArray))
      rw [hadd, List.length_append] at e
      simp only [List.length_cons, List.length_nil] at e
      omega
    have HSZ := Lib.hid hsz
    obtain ⟨Z, hZ⟩ : ∃ Z, s ++ (⟨#[0]⟩ : ByteArray) = Z := ⟨_, rfl⟩
    rw [hZ] at HZ HSZ
    clear hsl h3 hVs hadd hz hsz
    go_enter Tryd.func9, Tryd.ntmps9
    go_wp2_with fail
    refine (awake5_any w HG.out).mono ?_
    rintro e w1 ⟨rfl, hb1⟩
    have B1 := Lib.hid hb1; clear hb1
    go_wp2_with fail
    refine (hmtag_any Z (HX.out.same (fun k hk => B1.out.block k hk)) (fun k hk => Nat.lt_of_lt_of_le hk B1.out.size) (HG.out.below B1.out HG.out.lt) (by have := HSZ.out; omega) (by omega)).mono ?_
    rintro e w2 ⟨rfl, hb⟩
    have B2 := Lib.hid (B1.out.trans (hb.mono B1.out.size))
    rw [HZ.out]
    clear hb
    go_wp2_with fail
    refine (hmtag_any s (HX.out.same (fun k hk => B2.out.block k hk)) (fun k hk => Nat.lt_of_lt_of_le hk B2.out.size) (HG.out.below B2.out HG.out.lt) (by omega) (by omega)).mono ?_
    rintro e w3 ⟨rfl, hb⟩
    have B3 := Lib.hid (B2.out.trans (hb.mono B2.out.size))
    rw [HV.out]
    clear hb
    go_wp2_with fail
    refine (hmtag_any s (HX.out.same (fun k hk => B3.out.block k hk)) (fun k hk => Nat.lt_of_lt_of_le hk B3.out.size) (HG.out.below B3.out HG.out.lt) (by omega) (by omega)).mono ?_
    rintro e w4 ⟨rfl, hb⟩
    have B4 := Lib.hid (B3.out.trans (hb.mono B3.out.size))
    rw [HV.out]
    clear hb
    go_wp2_with fail
    go_ret
    exact ⟨rfl, B4.out⟩
  by_cases h4 : 64 < s.size
  · have i3 : (64 : Int) < (s.size : Int) := by omega
    have i4 : ¬ (s.size : Int) < 64 := by omega
    obtain ⟨S, hS⟩ : ∃ S : ByteArray, (⟨(Sha.sum s.data.toList).toArray⟩ : ByteArray) = S := ⟨_, rfl⟩
    have hSd : S.data.toList = Sha.sum s.data.toList := by rw [← hS]
    have hSs : S.size = 32 := by rw [← hS]; exact Hm.sum_length _
    have hz : (⟨(Hm.tag S.data.toList d).toArray⟩ : ByteArray) = V := by rw [hSd, Hm.tag_long _ _ (by omega)]; exact HV.out
    have HZ := Lib.hid hz
    have HS := Lib.hid hS
    have HSs := Lib.hid hSs
    have HSL := Lib.hid hsl
    clear hsl h3 h4 hVs hS hSd hSs hz
    go_enter Tryd.func9, Tryd.ntmps9
    go_wp2_with fail
    refine (awake5_any w HG.out).mono ?_
    rintro e w1 ⟨rfl, hb1⟩
    have B1 := Lib.hid hb1; clear hb1
    go_wp2_with fail
    obtain ⟨c2, w2, hconv, hb2, hbv2, hz2⟩ := conv_bytes w1 s (by omega)
    have B2 := Lib.hid (B1.out.trans (hb2.mono B1.out.size))
    have X2 := Lib.hid (hbv2.mono (G := fun k => k < w2.heap.size) (fun y hy => by omega))
    clear hb2 hbv2 hz2
    rw [hconv]
    simp only [Result.andThen_ok]
    go_wp2_with fail
    refine (shaof_any X2.out (HG.out.below B2.out HG.out.lt) (by have := HSL.out; show s.data.toList.length ≤ _; omega)).mono ?_
    rintro e w3 ⟨rfl, hb3⟩
    have B3 := Lib.hid (B2.out.trans (hb3.mono B2.out.size))
    rw [HS.out]
    clear hb3 hconv
    go_wp2_with fail
    refine (hmtag_any S (HX.out.same (fun k hk => B3.out.block k hk)) (fun k hk => Nat.lt_of_lt_of_le hk B3.out.size) (HG.out.below B3.out HG.out.lt) (by have := HSs.out; omega) (by omega)).mono ?_
    rintro e w4 ⟨rfl, hb⟩
    have B4 := Lib.hid (B3.out.trans (hb.mono B3.out.size))
    rw [HZ.out]
    clear hb
    go_wp2_with fail
    refine (hmtag_any s (HX.out.same (fun k hk => B4.out.block k hk)) (fun k hk => Nat.lt_of_lt_of_le hk B4.out.size) (HG.out.below B4.out HG.out.lt) (by omega) (by omega)).mono ?_
    rintro e w5 ⟨rfl, hb⟩
    have B5 := Lib.hid (B4.out.trans (hb.mono B4.out.size))
    rw [HV.out]
    clear hb
    go_wp2_with fail
    refine (hmtag_any s (HX.out.same (fun k hk => B5.out.block k hk)) (fun k hk => Nat.lt_of_lt_of_le hk B5.out.size) (HG.out.below B5.out HG.out.lt) (by omega) (by omega)).mono ?_
    rintro e w6 ⟨rfl, hb⟩
    have B6 := Lib.hid (B5.out.trans (hb.mono B5.out.size))
    rw [HV.out]
    clear hb
    go_wp2_with fail
    go_ret
    exact ⟨rfl, B6.out⟩
  have i3 : ¬ (s.size : Int) < 64 := by omega
  have i4 : ¬ (64 : Int) < (s.size : Int) := by omega
  clear hsl h3 h4 hVs
  go_enter Tryd.func9, Tryd.ntmps9
  go_wp2_with fail
  refine (awake5_any w HG.out).mono ?_
  rintro e w1 ⟨rfl, hb1⟩
  have B1 := Lib.hid hb1; clear hb1
  go_wp2_with fail
  refine (hmtag_any s (HX.out.same (fun k hk => B1.out.block k hk)) (fun k hk => Nat.lt_of_lt_of_le hk B1.out.size) (HG.out.below B1.out HG.out.lt) (by omega) (by omega)).mono ?_
  rintro e w4 ⟨rfl, hb⟩
  have B4 := Lib.hid (B1.out.trans (hb.mono B1.out.size))
  rw [HV.out]
  clear hb
  go_wp2_with fail
  go_ret
  exact ⟨rfl, B4.out⟩
end Go.Proofs.YtghhjopclkhpnaaDoor
