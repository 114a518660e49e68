/- Contracts of Tag, Extract, Equal, and of the reference's Tag. -/
import Derived.Test.YtghhjopclkhpnaaDoorHmN
namespace Go.Proofs.YtghhjopclkhpnaaDoor
open Go.RowKit
section
variable {w w' : World} {F : Nat → Prop} {xv : Value} {d : List UInt8}
set_option maxHeartbeats 1000000 in
theorem hmtag_any (s : ByteArray) (hx : BV w F xv d) (hF : ∀ k, F k → k < w.heap.size) (hg : Glob w) (hs : s.size ≤ 1000000000) (hd : d.length ≤ 800000000) :
    Calls Tryd.prog 14 #[.string s, xv] w fun e w' => e = .returned (.string ⟨(Hm.tag s.data.toList d).toArray⟩) ∧ Below w.heap.size w w' := by
  have HX := Lib.hid hx; clear hx
  have HF := Lib.hid hF; clear hF
  have HG := Lib.hid hg; clear hg
  go_enter Tryd.func14, Tryd.ntmps14
  go_wp2_with fail
  refine (macnew_any w s HG.out hs).mono ?_
  rintro e w1 ⟨b, rfl, hb, hb1, hM⟩
  have B1 := Lib.hid hb1
  have M1 := Lib.hid hM
  have Hb := Lib.hid hb
  clear hb1 hM hb
  go_wp2_with fail
  refine (macwrite_any M1.out (HX.out.grow B1.out) (fun k hk => ⟨by have := Hb.out; have := HF.out k hk; omega, by have := HF.out k hk; have := B1.out.size; omega⟩) (HG.out.below B1.out HG.out.lt) (by have := Hb.out; have := HG.out.lt; omega) (by simp; omega)).mono ?_
  rintro e w2 ⟨rfl, hst, hM2⟩
  rw [List.nil_append] at hM2
  have B2 := Lib.hid (B1.out.trans (hst.below (B := w.heap.size) (fun x hx => by have := Hb.out; omega) B1.out.size))
  have M2 := Lib.hid hM2
  clear hst hM2 B1 M1
  go_wp2_with fail
  refine (macsum_any M2.out (HG.out.below B2.out HG.out.lt) (by omega)).mono ?_
  rintro e w3 ⟨rfl, hb3⟩
  have B3 := Lib.hid (B2.out.trans (hb3.mono B2.out.size))
  clear hb3 B2 M2
  go_wp2_with fail
  go_ret
  exact ⟨rfl, B3.out⟩
set_option maxHeartbeats 1000000 in
theorem extract_any (s t : ByteArray) (hg : Glob w) (hs : s.size ≤ 1000000000) (ht : t.size ≤ 800000000) :
    Calls Tryd.prog 19 #[.string s, .string t] w fun e w' => e = .returned (.string ⟨(Hm.tag s.data.toList t.data.toList).toArray⟩) ∧ Below w.heap.size w w' := by
  have HG := Lib.hid hg; clear hg
  obtain ⟨c, w2, hconv, hb2, hbv, hsz⟩ := conv_bytes w t (by omega)
  have B2 := Lib.hid hb2
  have HBV := Lib.hid hbv
  have HSZ := Lib.hid hsz
  clear hb2 hbv hsz
  go_enter Tryd.func19, Tryd.ntmps19
  go_wp2_with fail
  refine (hmtag_any s HBV.out (fun k hk => by have := HSZ.out; omega) (HG.out.below B2.out HG.out.lt) hs (by show t.size ≤ _; omega)).mono ?_
  rintro e w3 ⟨rfl, hb3⟩
  have B3 := Lib.hid (B2.out.trans (hb3.mono B2.out.size))
  clear hb3 hconv B2
  go_wp2_with fail
  go_ret
  exact ⟨rfl, B3.out⟩
set_option maxRecDepth 100000 in
set_option maxHeartbeats 2000000 in
theorem reftag_any (s : ByteArray) (hx : BV w F xv d) (hF : ∀ k, F k → k < w.heap.size) (hs : s.size ≤ 1000000000) (hd : d.length ≤ 800000000) :
    Calls Tryd.prog 15 #[.string s, xv] w fun e w' => e = .returned (.string ⟨(Hm.tag s.data.toList d).toArray⟩) ∧ Below w.heap.size w w' := by
  have HX := Lib.hid hx; clear hx
  have HF := Lib.hid hF; clear hF
  have HD := Lib.hid hd
  have hsl : s.data.toList.length = s.size := rfl
  obtain ⟨k, hk⟩ : ∃ k, s.data.toList = k := ⟨_, rfl⟩
  rw [hk] at hsl ⊢
  have HK := Lib.hid hk
  have HSL := Lib.hid hsl
  clear hsl hk
  by_cases h64 : 64 < s.size
  · have i64 : (64 : Int) < (s.size : Int) := by omega
    obtain ⟨c, w0, hconv, hb0, hbv, _⟩ := conv_bytes w s (by omega)
    rw [HK.out] at hbv
    have B0 := Lib.hid hb0
    have HBV := Lib.hid hbv
    clear hb0 hbv
    go_enter Tryd.func15, Tryd.ntmps15
    go_wp2_with fail
    refine (refsum_any HBV.out (by rw [HSL.out]; exact hs)).mono ?_
    rintro e w1 ⟨rfl, hb1⟩
    have B1 := Lib.hid (B0.out.trans (hb1.mono B0.out.size))
    obtain ⟨S, hS⟩ : ∃ S : ByteArray, (⟨(Sha.sum k).toArray⟩ : ByteArray) = S := ⟨_, rfl⟩
    rw [hS]
    have HS : Hid (S.data.toList = Hm.key k) := by
      have := HSL.out
      show S.data.toList = Hm.key k
      unfold Hm.key; rw [if_pos (by omega), ← hS]
    clear hb1 hS hconv
    go_wp2_with fail
    refine (refpad5_any w1 S 54).mono ?_
    rintro e w2 ⟨pv, rfl, hN⟩
    rw [HS.out] at hN
    have HN := Lib.hid hN
    obtain ⟨pa, pc, hpv, _, _, _, _⟩ := hN.2.1.form
    rw [Hm.pad_length] at hpv
    subst hpv
    have X2 := Lib.hid ((HX.out.same (fun k hk => B1.out.block k (HF.out k hk))).grow hN.1)
    clear hN
    go_wp2_with (at_builtin; refine wpList_append_bytes rfl (.tmp 13) (.tmp 14) rfl (.slice pa 64 pc) _ d (by rfl) (by rfl) HN.out.2.1 X2.out (by rw [Hm.pad_length]; omega) ?_; intro a5 c5 w5 hO5 hg5 ho5; have N5 := Lib.hid (HN.out.push hO5 hg5 ho5); rw [Hm.pad_length] at N5 ⊢; clear hO5 hg5 ho5 HN X2)
    refine (refsum_any (F := fun _ => True) (N5.out.2.1.bv.mono (fun _ _ => trivial)) (by rw [List.length_append, Hm.pad_length]; omega)).mono ?_
    rintro e w6 ⟨rfl, hb6⟩
    have B6 := Lib.hid (B1.out.trans (N5.out.1.mono B1.out.size) |>.trans (hb6.mono (Nat.le_trans B1.out.size N5.out.1.size)))
    obtain ⟨V, hV⟩ : ∃ V : ByteArray, (⟨(Sha.sum (Hm.pad (Hm.key k) 54 ++ d)).toArray⟩ : ByteArray) = V := ⟨_, rfl⟩
    rw [hV]
    have HV : Hid (V.data.toList = Sha.sum (Hm.pad (Hm.key k) 54 ++ d)) := by rw [← hV]; exact Lib.hid rfl
    have hvs : V.size = 32 := by
      have := Hm.sum_length (Hm.pad (Hm.key k) 54 ++ d)
      rw [← HV.out] at this
      exact this
    clear hb6 hV N5
    go_wp2_with fail
    refine (refpad5_any w6 S 92).mono ?_
    rintro e w7 ⟨pv, rfl, hN⟩
    rw [HS.out] at hN
    have HN := Lib.hid hN
    obtain ⟨pa, pc, hpv, _, _, _, _⟩ := hN.2.1.form
    rw [Hm.pad_length] at hpv
    subst hpv
    obtain ⟨c8, w8, hconv, hb8, hbv, hsz⟩ := conv_bytes w7 V (by omega)
    rw [HV.out, hvs] at hbv
    rw [hvs] at hconv
    have B8 := Lib.hid hb8
    have X8 := Lib.hid hbv
    have HN8 : Hid (NewB w6.heap.size w6 (Hm.pad (Hm.key k) 92) (.slice pa 64 pc) w8) := ⟨hN.1.trans (hb8.mono hN.1.size), hN.2.1.grow hb8, Nat.le_trans hN.2.2.1 hb8.size, hN.2.2.2⟩
    have HVS := Lib.hid hvs
    clear hN hb8 hbv hsz hvs HN
    go_wp2_with (at_builtin; refine wpList_append_bytes rfl (.tmp 18) (.tmp 20) rfl (.slice pa 64 pc) _ (Sha.sum (Hm.pad (Hm.key k) 54 ++ d)) (by rfl) (by rfl) HN8.out.2.1 X8.out (by rw [Hm.pad_length, Hm.sum_length]; omega) ?_; intro a5 c5 w9 hO5 hg5 ho5; have N9 := Lib.hid (HN8.out.push hO5 hg5 ho5); rw [Hm.pad_length, Hm.sum_length] at N9 ⊢; clear hO5 hg5 ho5 HN8 X8)
    refine (refsum_any (F := fun _ => True) (N9.out.2.1.bv.mono (fun _ _ => trivial)) (by rw [List.length_append, Hm.pad_length, Hm.sum_length]; omega)).mono ?_
    rintro e w10 ⟨rfl, hb10⟩
    have B10 := Lib.hid (B6.out.trans (N9.out.1.mono B6.out.size) |>.trans (hb10.mono (Nat.le_trans B6.out.size N9.out.1.size)))
    clear hb10 N9 hconv
    go_wp2_with fail
    go_ret
    exact ⟨rfl, B10.out⟩
  · have i64 : (s.size : Int) ≤ 64 := by omega
    have HS : Hid (s.data.toList = Hm.key k) := by
      have := HSL.out
      show s.data.toList = Hm.key k
      unfold Hm.key; rw [HK.out, if_neg (by omega)]
    have B1 := Lib.hid (Below.refl w.heap.size w)
    go_enter Tryd.func15, Tryd.ntmps15
    go_wp2_with fail
    refine (refpad5_any w s 54).mono ?_
    rintro e w2 ⟨pv, rfl, hN⟩
    rw [HS.out] at hN
    have HN := Lib.hid hN
    obtain ⟨pa, pc, hpv, _, _, _, _⟩ := hN.2.1.form
    rw [Hm.pad_length] at hpv
    subst hpv
    have X2 := Lib.hid ((HX.out.same (fun k hk => B1.out.block k (HF.out k hk))).grow hN.1)
    clear hN
    go_wp2_with (at_builtin; refine wpList_append_bytes rfl (.tmp 13) (.tmp 14) rfl (.slice pa 64 pc) _ d (by rfl) (by rfl) HN.out.2.1 X2.out (by rw [Hm.pad_length]; omega) ?_; intro a5 c5 w5 hO5 hg5 ho5; have N5 := Lib.hid (HN.out.push hO5 hg5 ho5); rw [Hm.pad_length] at N5 ⊢; clear hO5 hg5 ho5 HN X2)
    refine (refsum_any (F := fun _ => True) (N5.out.2.1.bv.mono (fun _ _ => trivial)) (by rw [List.length_append, Hm.pad_length]; omega)).mono ?_
    rintro e w6 ⟨rfl, hb6⟩
    have B6 := Lib.hid (B1.out.trans (N5.out.1.mono B1.out.size) |>.trans (hb6.mono (Nat.le_trans B1.out.size N5.out.1.size)))
    obtain ⟨V, hV⟩ : ∃ V : ByteArray, (⟨(Sha.sum (Hm.pad (Hm.key k) 54 ++ d)).toArray⟩ : ByteArray) = V := ⟨_, rfl⟩
    rw [hV]
    have HV : Hid (V.data.toList = Sha.sum (Hm.pad (Hm.key k) 54 ++ d)) := by rw [← hV]; exact Lib.hid rfl
    have hvs : V.size = 32 := by
      have := Hm.sum_length (Hm.pad (Hm.key k) 54 ++ d)
      rw [← HV.out] at this
      exact this
    clear hb6 hV N5
    go_wp2_with fail
    refine (refpad5_any w6 s 92).mono ?_
    rintro e w7 ⟨pv, rfl, hN⟩
    rw [HS.out] at hN
    have HN := Lib.hid hN
    obtain ⟨pa, pc, hpv, _, _, _, _⟩ := hN.2.1.form
    rw [Hm.pad_length] at hpv
    subst hpv
    obtain ⟨c8, w8, hconv, hb8, hbv, hsz⟩ := conv_bytes w7 V (by omega)
    rw [HV.out, hvs] at hbv
    rw [hvs] at hconv
    have B8 := Lib.hid hb8
    have X8 := Lib.hid hbv
    have HN8 : Hid (NewB w6.heap.size w6 (Hm.pad (Hm.key k) 92) (.slice pa 64 pc) w8) := ⟨hN.1.trans (hb8.mono hN.1.size), hN.2.1.grow hb8, Nat.le_trans hN.2.2.1 hb8.size, hN.2.2.2⟩
    have HVS := Lib.hid hvs
    clear hN hb8 hbv hsz hvs HN
    go_wp2_with (at_builtin; refine wpList_append_bytes rfl (.tmp 18) (.tmp 20) rfl (.slice pa 64 pc) _ (Sha.sum (Hm.pad (Hm.key k) 54 ++ d)) (by rfl) (by rfl) HN8.out.2.1 X8.out (by rw [Hm.pad_length, Hm.sum_length]; omega) ?_; intro a5 c5 w9 hO5 hg5 ho5; have N9 := Lib.hid (HN8.out.push hO5 hg5 ho5); rw [Hm.pad_length, Hm.sum_length] at N9 ⊢; clear hO5 hg5 ho5 HN8 X8)
    refine (refsum_any (F := fun _ => True) (N9.out.2.1.bv.mono (fun _ _ => trivial)) (by rw [List.length_append, Hm.pad_length, Hm.sum_length]; omega)).mono ?_
    rintro e w10 ⟨rfl, hb10⟩
    have B10 := Lib.hid (B6.out.trans (N9.out.1.mono B6.out.size) |>.trans (hb10.mono (Nat.le_trans B6.out.size N9.out.1.size)))
    clear hb10 N9 hconv
    go_wp2_with fail
    go_ret
    exact ⟨rfl, B10.out⟩
end
end Go.Proofs.YtghhjopclkhpnaaDoor
