/- Contracts of Derive, Chain, Equal and of the reference's Derive and Chain. -/
import Derived.Test.YtghhjopclkhpnaaDoorHmR
namespace Go.Proofs.YtghhjopclkhpnaaDoor
open Go.RowKit
def DerV (k l : List UInt8) : Value :=
  if k.length ≠ 32 ∨ l.length < 1 ∨ 64 < l.length then .tuple #[.string ⟨#[]⟩, .int .i64 1] else .tuple #[.string ⟨(Hm.expand (Hm.tag [] k) l 32).toArray⟩, .int .i64 0]
def ChaV (k l : List UInt8) (n : Int) : Value :=
  if k.length ≠ 32 ∨ n < 0 then .tuple #[.string ⟨#[]⟩, .int .i64 1] else if 4096 < n then .tuple #[.string ⟨#[]⟩, .int .i64 2] else .tuple #[.string ⟨(Hm.chain k l n.toNat).toArray⟩, .int .i64 0]
theorem str_empty (t : ByteArray) (h : t.size = 0) : t = ⟨#[]⟩ := by
  apply ByteArray.ext
  apply Array.ext'
  have : t.data.toList.length = 0 := h
  exact List.eq_nil_of_length_eq_zero this
section
variable {w w' : World}
set_option maxRecDepth 100000 in
set_option maxHeartbeats 2000000 in
theorem derive_any (s t : ByteArray) (hg : Glob w) (ht : t.size ≤ 1000000) :
    Calls Tryd.prog 24 #[.string s, .string t] w fun e w' => e = .returned (DerV s.data.toList t.data.toList) ∧ Below w.heap.size w w' := by
  have HG := Lib.hid hg; clear hg
  have hsl := nil_lt s
  have htl := nil_lt t
  by_cases h32 : s.size = 32
  rotate_left
  · have i32 : ((s.size : Int) != 32) = true := by rw [bne_iff_ne]; omega
    have hv : DerV s.data.toList t.data.toList = .tuple #[.string ⟨#[]⟩, .int .i64 1] := by unfold DerV; rw [if_pos (by left; omega)]
    have HV := Lib.hid hv
    clear hv hsl htl h32
    go_enter Tryd.func24, Tryd.ntmps24
    go_wp2_with fail
    go_ret2
    exact ⟨by rw [HV.out]; rfl, Below.refl _ _⟩
  have i32 : ((s.size : Int) != 32) = false := by rw [bne_eq_false_iff_eq]; omega
  have H32 := Lib.hid h32
  by_cases h0 : t.size = 0
  · have hv : DerV s.data.toList t.data.toList = .tuple #[.string ⟨#[]⟩, .int .i64 1] := by unfold DerV; rw [if_pos (by right; left; omega)]
    obtain rfl := str_empty t h0
    have HV := Lib.hid hv
    clear hv hsl htl h32 h0
    go_enter Tryd.func24, Tryd.ntmps24
    go_wp2_with fail
    go_ret2
    exact ⟨by rw [HV.out]; rfl, Below.refl _ _⟩
  have htd : t.data.toList ≠ [] := fun e => by rw [e] at htl; exact h0 htl
  have ht1 : t.toList ≠ [] := by rw [ByteArray.toList_eq]; exact htd
  have ht2 : t.toList.isEmpty = false := by simpa using ht1
  have ht3 : (t.toList == []) = false := by simpa using ht1
  by_cases h64 : 64 < t.size
  · have hv : DerV s.data.toList t.data.toList = .tuple #[.string ⟨#[]⟩, .int .i64 1] := by unfold DerV; rw [if_pos (by right; right; omega)]
    have i64 : (64 : Int) < (t.size : Int) := by omega
    have HV := Lib.hid hv
    clear hv hsl htl h32 h0 htd
    go_enter Tryd.func24, Tryd.ntmps24
    go_wp2_with fail
    go_ret2
    exact ⟨by rw [HV.out]; rfl, Below.refl _ _⟩
  have hv : DerV s.data.toList t.data.toList = .tuple #[.string ⟨(Hm.expand (Hm.tag [] s.data.toList) t.data.toList 32).toArray⟩, .int .i64 0] := by unfold DerV; rw [if_neg (by omega)]
  have i64 : (t.size : Int) ≤ 64 := by omega
  have HV := Lib.hid hv
  clear hv hsl htl h32 h0 htd
  go_enter Tryd.func24, Tryd.ntmps24
  go_wp2_with fail
  refine (extract_any ⟨#[]⟩ s HG.out (by decide) (by have := H32.out; omega)).mono ?_
  rintro e w1 ⟨rfl, hb1⟩
  have B1 := Lib.hid hb1
  obtain ⟨V, hV⟩ : ∃ V : ByteArray, (⟨(Hm.tag [] s.data.toList).toArray⟩ : ByteArray) = V := ⟨_, rfl⟩
  have hVd : V.data.toList = Hm.tag [] s.data.toList := by rw [← hV]
  have hVs : V.size = 32 := by
    have := Hm.tag_length [] s.data.toList
    rw [← hVd] at this
    exact this
  have HVd := Lib.hid hVd
  have HVs := Lib.hid hVs
  have hV' : (⟨(Hm.tag (⟨#[]⟩ : ByteArray).data.toList s.data.toList).toArray⟩ : ByteArray) = V := hV
  rw [hV']
  clear hb1 hV hVd hVs hV'
  go_wp2_with fail
  refine (expand_any V t 32 (HG.out.below B1.out HG.out.lt) (by have := HVs.out; omega) ht (by omega) (by omega)).mono ?_
  rintro e w2 ⟨rfl, hb2⟩
  have B2 := Lib.hid (B1.out.trans (hb2.mono B1.out.size))
  have he : ExpV V.data.toList t.data.toList 32 = .tuple #[.string ⟨(Hm.expand (Hm.tag [] s.data.toList) t.data.toList 32).toArray⟩, .int .i64 0] := by
    have := nil_lt V
    have := HVs.out
    unfold ExpV; rw [if_neg (by omega), if_neg (by omega), HVd.out]; rfl
  rw [he]
  clear hb2 he B1
  go_wp2_with fail
  go_ret2
  exact ⟨by rw [HV.out]; rfl, B2.out⟩
set_option maxRecDepth 100000 in
set_option maxHeartbeats 2000000 in
theorem refderive_any (s t : ByteArray) (hs : s.size ≤ 1000000) (ht : t.size ≤ 1000000) :
    Calls Tryd.prog 25 #[.string s, .string t] w fun e w' => e = .returned (.string ⟨(Hm.expand (Hm.tag [] s.data.toList) t.data.toList 32).toArray⟩) ∧ Below w.heap.size w w' := by
  obtain ⟨c0, w0, hconv, hb0, hbv0, hz0⟩ := conv_bytes w s (by omega)
  have B0 := Lib.hid hb0
  have X0 := Lib.hid hbv0
  have Z0 := Lib.hid hz0
  clear hb0 hbv0 hz0
  go_enter Tryd.func25, Tryd.ntmps25
  go_wp2_with fail
  refine (reftag_any ⟨#[]⟩ X0.out (fun x hx => by have := Z0.out; omega) (by decide) (by have := nil_lt s; omega)).mono ?_
  rintro e w1 ⟨rfl, hb1⟩
  have B1 := Lib.hid (B0.out.trans (hb1.mono B0.out.size))
  obtain ⟨V, hV⟩ : ∃ V : ByteArray, (⟨(Hm.tag [] s.data.toList).toArray⟩ : ByteArray) = V := ⟨_, rfl⟩
  have hVd : V.data.toList = Hm.tag [] s.data.toList := by rw [← hV]
  have hVs : V.size = 32 := by
    have := Hm.tag_length [] s.data.toList
    rw [← hVd] at this
    exact this
  have HVd := Lib.hid hVd
  have HVs := Lib.hid hVs
  have hV' : (⟨(Hm.tag (⟨#[]⟩ : ByteArray).data.toList s.data.toList).toArray⟩ : ByteArray) = V := hV
  rw [hV']
  clear hb1 hV hVd hVs hV' hconv
  go_wp2_with fail
  refine (refexpand_any V t 32 (by have := HVs.out; omega) ht (by omega)).mono ?_
  rintro e w2 ⟨rfl, hb2⟩
  have B2 := Lib.hid (B1.out.trans (hb2.mono B1.out.size))
  rw [HVd.out]
  clear hb2 B1
  go_wp2_with fail
  go_ret
  exact ⟨rfl, B2.out⟩
set_option maxRecDepth 100000 in
set_option maxHeartbeats 2000000 in
theorem chain_any (s t : ByteArray) (n : Int) (hg : Glob w) (ht : t.size ≤ 1000000) (n1 : -9223372036854775808 ≤ n) (n2 : n ≤ 9223372036854775807) :
    Calls Tryd.prog 26 #[.string s, .string t, .int .i64 n] w fun e w' => e = .returned (ChaV s.data.toList t.data.toList n) ∧ Below w.heap.size w w' := by
  have HG := Lib.hid hg; clear hg
  have hsl := nil_lt s
  by_cases h32 : s.size = 32
  rotate_left
  · have i32 : ((s.size : Int) != 32) = true := by rw [bne_iff_ne]; omega
    have hv : ChaV s.data.toList t.data.toList n = .tuple #[.string ⟨#[]⟩, .int .i64 1] := by unfold ChaV; rw [if_pos (by left; omega)]
    have HV := Lib.hid hv
    clear hv hsl h32
    go_enter Tryd.func26, Tryd.ntmps26
    go_wp2_with fail
    go_ret2
    exact ⟨by rw [HV.out]; rfl, Below.refl _ _⟩
  have i32 : ((s.size : Int) != 32) = false := by rw [bne_eq_false_iff_eq]; omega
  have H32 := Lib.hid h32
  by_cases hn0 : n < 0
  · have hv : ChaV s.data.toList t.data.toList n = .tuple #[.string ⟨#[]⟩, .int .i64 1] := by unfold ChaV; rw [if_pos (by right; omega)]
    have HV := Lib.hid hv
    clear hv hsl h32
    go_enter Tryd.func26, Tryd.ntmps26
    go_wp2_with fail
    go_ret2
    exact ⟨by rw [HV.out]; rfl, Below.refl _ _⟩
  have i0 : (0 : Int) ≤ n := by omega
  by_cases hn8 : 4096 < n
  · have hv : ChaV s.data.toList t.data.toList n = .tuple #[.string ⟨#[]⟩, .int .i64 2] := by unfold ChaV; rw [if_neg (by omega), if_pos (by omega)]
    have HV := Lib.hid hv
    clear hv hsl h32
    go_enter Tryd.func26, Tryd.ntmps26
    go_wp2_with fail
    go_ret2
    exact ⟨by rw [HV.out]; rfl, Below.refl _ _⟩
  obtain ⟨m, rfl⟩ := Int.eq_ofNat_of_zero_le i0
  have im : (m : Int) ≤ 4096 := by omega
  have hv : ChaV s.data.toList t.data.toList m = .tuple #[.string ⟨(Hm.chain s.data.toList t.data.toList m).toArray⟩, .int .i64 0] := by unfold ChaV; rw [if_neg (by omega), if_neg (by omega)]; rfl
  have HV := Lib.hid hv
  have hk32 : s.data.toList.length = 32 := by omega
  have HK32 := Lib.hid hk32
  clear hv hn0 hn8 h32 hsl hk32 n1 n2
  obtain ⟨k, hk⟩ : ∃ k, s.data.toList = k := ⟨_, rfl⟩
  obtain ⟨lb, hlb⟩ : ∃ k, t.data.toList = k := ⟨_, rfl⟩
  rw [hk] at HV HK32
  rw [hlb] at HV
  have HK := Lib.hid hk
  have HL := Lib.hid hlb
  obtain ⟨c0, w0, hconv, hb0, hbv0, hz0⟩ := conv_bytes w t (by omega)
  rw [hlb] at hbv0
  have B0 := Lib.hid hb0
  have X0 := Lib.hid hbv0
  have Z0 := Lib.hid hz0
  have hll : Hid (lb.length = t.size) := by rw [← hlb]; exact Lib.hid (nil_lt t).symm
  clear hb0 hbv0 hz0 hk hlb
  go_enter Tryd.func26, Tryd.ntmps26
  go_wp2_with fail
  go_loopw [0, 21] (fun s0 s21 wr => ∃ (i : Nat) (K : ByteArray), i ≤ m ∧ s21 = .int .i64 (i : Int) ∧ s0 = .string K ∧ K.data.toList = Hm.chain k lb i ∧ Below w0.heap.size w0 wr) (fun _ s21 _ => m - (intOf s21).toNat)
  case atStart => exact ⟨0, s, by omega, rfl, rfl, HK.out, Below.refl _ _⟩
  case round =>
    obtain ⟨i, K, hi, rfl, rfl, hK, hbe⟩ := hrel
    have HKK := Lib.hid hK
    have HBE := Lib.hid hbe
    have hKs : K.size = 32 := by
      have := Hm.chain_length k lb HK32.out i
      rw [← hK] at this
      exact this
    have HKS := Lib.hid hKs
    clear hK hbe hKs
    by_cases hlt : i < m
    · have it : (i : Int) < (m : Int) := by omega
      go_wp2_with fail
      refine (hmtag_any K (X0.out.grow HBE.out) (fun x hx => by have := Z0.out; have := HBE.out.size; omega) ((HG.out.below B0.out HG.out.lt).below HBE.out (by have := (HG.out.below B0.out HG.out.lt).lt; exact this)) (by have := HKS.out; omega) (by have := hll.out; omega)).mono ?_
      rintro e w2 ⟨rfl, hb2⟩
      rw [HKK.out]
      have B2 := Lib.hid (HBE.out.trans (hb2.mono HBE.out.size))
      obtain ⟨V, hV⟩ : ∃ V : ByteArray, (⟨(Hm.tag (Hm.chain k lb i) lb).toArray⟩ : ByteArray) = V := ⟨_, rfl⟩
      have hVd : V.data.toList = Hm.chain k lb (i + 1) := by rw [← hV]; rfl
      rw [hV]
      have HVd := Lib.hid hVd
      clear hb2 hV hVd
      go_wp2_with fail
      exact ⟨⟨i + 1, V, by omega, by go_num, rfl, HVd.out, B2.out⟩, by simp [intOf]; omega⟩
    · have e8 : i = m := by omega
      have ige : ¬ (i : Int) < (m : Int) := by omega
      have hKm : K.data.toList = Hm.chain k lb m := by rw [← e8]; exact HKK.out
      have HKM := Lib.hid hKm
      clear e8 hKm hi
      go_wp2_with fail
      go_ret2
      refine ⟨?_, B0.out.trans (HBE.out.mono B0.out.size)⟩
      rw [HK.out, HL.out, HV.out, ← HKM.out]
      rfl
set_option maxRecDepth 100000 in
set_option maxHeartbeats 2000000 in
theorem refchain_any (s t : ByteArray) (m : Nat) (hs : s.size = 32) (ht : t.size ≤ 1000000) (hm : m ≤ 100000) :
    Calls Tryd.prog 27 #[.string s, .string t, .int .i64 (m : Int)] w fun e w' => e = .returned (.string ⟨(Hm.chain s.data.toList t.data.toList m).toArray⟩) ∧ Below w.heap.size w w' := by
  have im : (m : Int) ≤ 100000 := by omega
  have hk32 : s.data.toList.length = 32 := hs
  obtain ⟨k, hk⟩ : ∃ k, s.data.toList = k := ⟨_, rfl⟩
  obtain ⟨lb, hlb⟩ : ∃ k, t.data.toList = k := ⟨_, rfl⟩
  rw [hk] at hk32
  have HK32 := Lib.hid hk32
  have HK := Lib.hid hk
  have HL := Lib.hid hlb
  have hll : Hid (lb.length = t.size) := by rw [← hlb]; exact Lib.hid (nil_lt t).symm
  clear hk hlb hk32 hs
  go_enter Tryd.func27, Tryd.ntmps27
  go_wp2_with fail
  go_loopw [0, 7] (fun s0 s7 wr => ∃ (i : Nat) (K : ByteArray), i ≤ m ∧ s7 = .int .i64 (i : Int) ∧ s0 = .string K ∧ K.data.toList = Hm.chain k lb i ∧ Below w.heap.size w wr) (fun _ s7 _ => m - (intOf s7).toNat)
  case atStart => exact ⟨0, s, by omega, rfl, rfl, HK.out, Below.refl _ _⟩
  case round =>
    obtain ⟨i, K, hi, rfl, rfl, hK, hbe⟩ := hrel
    have HKK := Lib.hid hK
    have HBE := Lib.hid hbe
    have hKs : K.size = 32 := by
      have := Hm.chain_length k lb HK32.out i
      rw [← hK] at this
      exact this
    have HKS := Lib.hid hKs
    clear hK hbe hKs
    by_cases hlt : i < m
    · have it : (i : Int) < (m : Int) := by omega
      obtain ⟨c0, w0, hconv, hb0, hbv0, hz0⟩ := conv_bytes wr t (by omega)
      rw [HL.out] at hbv0
      have B0 := Lib.hid (HBE.out.trans (hb0.mono HBE.out.size))
      have X0 := Lib.hid hbv0
      have Z0 := Lib.hid hz0
      clear hb0 hbv0 hz0
      go_wp2_with fail
      refine (reftag_any K X0.out (fun x hx => by have := Z0.out; omega) (by have := HKS.out; omega) (by have := hll.out; omega)).mono ?_
      rintro e w2 ⟨rfl, hb2⟩
      rw [HKK.out]
      have B2 := Lib.hid (B0.out.trans (hb2.mono B0.out.size))
      obtain ⟨V, hV⟩ : ∃ V : ByteArray, (⟨(Hm.tag (Hm.chain k lb i) lb).toArray⟩ : ByteArray) = V := ⟨_, rfl⟩
      have hVd : V.data.toList = Hm.chain k lb (i + 1) := by rw [← hV]; rfl
      rw [hV]
      have HVd := Lib.hid hVd
      clear hb2 hV hVd hconv
      go_wp2_with fail
      exact ⟨⟨i + 1, V, by omega, by go_num, rfl, HVd.out, B2.out⟩, by simp [intOf]; omega⟩
    · have e8 : i = m := by omega
      have ige : ¬ (i : Int) < (m : Int) := by omega
      have hKm : K.data.toList = Hm.chain k lb m := by rw [← e8]; exact HKK.out
      have HKM := Lib.hid hKm
      clear e8 hKm hi
      go_wp2_with fail
      go_ret
      refine ⟨?_, HBE.out⟩
      rw [HK.out, HL.out, ← HKM.out]
      rfl
end
end Go.Proofs.YtghhjopclkhpnaaDoor
