/- Contract of Expand. -/
import Derived.Test.YtghhjopclkhpnaaDoorHmT
import Derived.Test.YtghhjopclkhpnaaDoorAppS
namespace Go.Proofs.YtghhjopclkhpnaaDoor
open Go.RowKit
theorem NewB.grow {w wr w' : World} {B : Nat} {acc : List UInt8} {sv : Value} (h : NewB B w acc sv wr) (hb : Below wr.heap.size wr w') : NewB B w acc sv w' :=
  ⟨h.1.trans (hb.mono h.2.2.1), h.2.1.grow hb, Nat.le_trans h.2.2.1 hb.size, h.2.2.2⟩
theorem nil_lt (s : ByteArray) : s.size = s.data.toList.length := rfl
def ExpV (k info : List UInt8) (n : Int) : Value :=
  if k.length < 32 ∨ n < 0 then .tuple #[.string ⟨#[]⟩, .int .i64 1] else if 8160 < n then .tuple #[.string ⟨#[]⟩, .int .i64 2] else .tuple #[.string ⟨(Hm.expand k info n.toNat).toArray⟩, .int .i64 0]
section
variable {w w' : World}
set_option maxRecDepth 100000 in
set_option maxHeartbeats 4000000 in
theorem expand_any (s t : ByteArray) (n : Int) (hg : Glob w) (hs : s.size ≤ 1000000) (ht : t.size ≤ 1000000) (n1 : -9223372036854775808 ≤ n) (n2 : n ≤ 9223372036854775807) :
    Calls Tryd.prog 20 #[.string s, .string t, .int .i64 n] w fun e w' => e = .returned (ExpV s.data.toList t.data.toList n) ∧ Below w.heap.size w w' := by
  have HG := Lib.hid hg; clear hg
  have hsl := nil_lt s
  by_cases h32 : s.size < 32
  · have i32 : (s.size : Int) < 32 := by omega
    have hv : ExpV s.data.toList t.data.toList n = .tuple #[.string ⟨#[]⟩, .int .i64 1] := by unfold ExpV; rw [if_pos (by left; omega)]
    have HV := Lib.hid hv
    clear hv hsl
    go_enter Tryd.func20, Tryd.ntmps20
    go_wp2_with fail
    go_ret2
    exact ⟨by rw [HV.out]; rfl, Below.refl _ _⟩
  have i32 : (32 : Int) ≤ (s.size : Int) := by omega
  by_cases hn0 : n < 0
  · have hv : ExpV s.data.toList t.data.toList n = .tuple #[.string ⟨#[]⟩, .int .i64 1] := by unfold ExpV; rw [if_pos (by right; omega)]
    have HV := Lib.hid hv
    clear hv hsl
    go_enter Tryd.func20, Tryd.ntmps20
    go_wp2_with fail
    go_ret2
    exact ⟨by rw [HV.out]; rfl, Below.refl _ _⟩
  have i0 : (0 : Int) ≤ n := by omega
  by_cases hn8 : 8160 < n
  · have hv : ExpV s.data.toList t.data.toList n = .tuple #[.string ⟨#[]⟩, .int .i64 2] := by unfold ExpV; rw [if_neg (by omega), if_pos (by omega)]
    have HV := Lib.hid hv
    clear hv hsl
    go_enter Tryd.func20, Tryd.ntmps20
    go_wp2_with fail
    go_ret2
    exact ⟨by rw [HV.out]; rfl, Below.refl _ _⟩
  obtain ⟨m, rfl⟩ := Int.eq_ofNat_of_zero_le i0
  have im : (m : Int) ≤ 8160 := by omega
  have hv : ExpV s.data.toList t.data.toList m = .tuple #[.string ⟨(Hm.expand s.data.toList t.data.toList m).toArray⟩, .int .i64 0] := by unfold ExpV; rw [if_neg (by omega), if_neg (by omega)]; rfl
  have HV := Lib.hid hv
  clear hv hn0 hn8 h32
  obtain ⟨k, hk⟩ : ∃ k, s.data.toList = k := ⟨_, rfl⟩
  obtain ⟨inf, hinf⟩ : ∃ k, t.data.toList = k := ⟨_, rfl⟩
  rw [hk, hinf] at HV
  have HK := Lib.hid hk
  have HI := Lib.hid hinf
  have N0 := Lib.hid (NewB.none w)
  clear hk hinf hsl n1 n2
  go_enter Tryd.func20, Tryd.ntmps20
  go_wp2_with fail
  go_loopw [8, 9, 10] (fun sv s9 s10 wr => ∃ (i : Nat) (L : ByteArray), 32 * i ≤ m + 31 ∧ s10 = .int .i64 ((i : Int) + 1) ∧ s9 = .string L ∧ L.data.toList = Hm.block k inf i ∧ NewB w.heap.size w (Hm.stream k inf i) sv wr ∧ (i = 0 → sv = .slice none 0 0)) (fun _ _ s10 _ => (m + 64 - 32 * (intOf s10).toNat))
  case atStart => exact ⟨0, ⟨#[]⟩, by omega, rfl, rfl, rfl, N0.out, fun _ => rfl⟩
  case round =>
    obtain ⟨i, L, hi, rfl, rfl, hL, hN, hnil⟩ := hrel
    clear N0
    have hsl := Hm.stream_length k inf i
    obtain ⟨a, c, rfl, hac, hcm, _, _⟩ := hN.2.1.form
    rw [hsl] at hN hac ⊢
    have HN := Lib.hid hN
    have HL := Lib.hid hL
    have HSL := Lib.hid hsl
    clear hN hL hsl
    by_cases hlt : 32 * i < m
    · have it : 32 * (i : Int) < (m : Int) := by omega
      have it2 : ((32 * i : Nat) : Int) < (m : Int) := by omega
      clear hnil
      have hLl : L.size ≤ 32 := by
        have e : L.size = (Hm.block k inf i).length := by rw [← HL.out]; rfl
        rw [e]
        cases i with
        | zero => simp [Hm.block]
        | succ i => rw [Hm.block_length]; omega
      have HLl := Lib.hid hLl
      have HNB := Lib.hid HN.out.1
      have HG0 := Lib.hid (HG.out.below HNB.out HG.out.lt)
      clear hLl
      go_wp2_with fail
      refine (macnew_any wr s HG0.out (by omega)).mono ?_
      rintro e w1 ⟨b, rfl, hb, hb1, hM1⟩
      rw [HK.out] at hM1
      have B1 := Lib.hid hb1
      have M1 := Lib.hid hM1
      have Hb := Lib.hid hb
      have Hb1 := Lib.hid (ShaIs.lt hM1)
      clear hb hb1 hM1
      obtain ⟨c2, w2, hconv2, hb2, hbv2, hsz2⟩ := conv_bytes w1 L (by have := HLl.out; omega)
      have B2 := Lib.hid (B1.out.trans (hb2.mono B1.out.size))
      have M2 := Lib.hid (M1.out.grow hb2)
      have X2 := Lib.hid hbv2
      have Z2 := Lib.hid hsz2
      clear hb2 hbv2 hsz2 B1 M1
      go_wp2_with fail
      refine (macwrite_any M2.out X2.out (fun x hx => ⟨by have := Hb1.out; omega, by have := Z2.out; omega⟩) (HG0.out.below B2.out HG0.out.lt) (by have := Hb.out; have := HG0.out.lt; omega) (by have := HLl.out; have := nil_lt L; simp only [List.length_nil]; omega)).mono ?_
      rintro e w3 ⟨rfl, hst3, hM3⟩
      rw [List.nil_append, HL.out] at hM3
      have B3 := Lib.hid (B2.out.trans (hst3.below (B := wr.heap.size) (fun x hx => by have := Hb.out; omega) B2.out.size))
      have M3 := Lib.hid hM3
      have Hb3 := Lib.hid (ShaIs.lt hM3)
      clear hst3 hM3 B2 M2 X2 Z2 hconv2 Hb1
      obtain ⟨c4, w4, hconv4, hb4, hbv4, hsz4⟩ := conv_bytes w3 t (by omega)
      rw [HI.out] at hbv4
      have B4 := Lib.hid (B3.out.trans (hb4.mono B3.out.size))
      have M4 := Lib.hid (M3.out.grow hb4)
      have X4 := Lib.hid hbv4
      have Z4 := Lib.hid hsz4
      have HIL : Hid (inf.length = t.size) := by rw [← HI.out]; exact Lib.hid (nil_lt t).symm
      have HBL : Hid ((Hm.block k inf i).length ≤ 32) := by
        have := HLl.out
        have e := nil_lt L
        rw [HL.out] at e
        show _ ≤ _
        omega
      clear hb4 hbv4 hsz4 B3 M3
      go_wp2_with fail
      refine (macwrite_any M4.out X4.out (fun x hx => ⟨by have := Hb3.out; omega, by have := Z4.out; omega⟩) (HG0.out.below B4.out HG0.out.lt) (by have := Hb.out; have := HG0.out.lt; omega) (by have := HBL.out; have := HIL.out; omega)).mono ?_
      rintro e w5 ⟨rfl, hst5, hM5⟩
      have B5 := Lib.hid (B4.out.trans (hst5.below (B := wr.heap.size) (fun x hx => by have := Hb.out; omega) B4.out.size))
      have M5 := Lib.hid hM5
      have Hb5 := Lib.hid (ShaIs.lt hM5)
      clear hst5 hM5 B4 M4 X4 Z4 hconv4 Hb3
      have ii : (i : Int) ≤ 300 := by omega
      have hlit : (#[.int .u8 ((i : Int) + 1)] : Array Value).toList = By [UInt8.ofNat (i + 1)] := by
        have e : (UInt8.ofNat (i + 1)).toNat = i + 1 := by simp; omega
        simp only [By, List.map_cons, List.map_nil, e]
        push_cast; rfl
      have HLIT := Lib.hid hlit
      have B6 := Lib.hid (B5.out.alloc B5.out.size (.cells #[.int .u8 ((i : Int) + 1)] 5))
      have M6 := Lib.hid (M5.out.grow ((Below.refl _ _).alloc (Nat.le_refl _) (.cells #[.int .u8 ((i : Int) + 1)] 5)))
      have X6 := Lib.hid (BV.lits w5 #[.int .u8 ((i : Int) + 1)] [UInt8.ofNat (i + 1)] 1 rfl HLIT.out (by omega))
      have Z6 : Hid ((w5.alloc (.cells #[.int .u8 ((i : Int) + 1)] 5)).heap.size = w5.heap.size + 1) := by exact Array.size_push ..
      clear hlit
      go_wp2_with fail
      refine (macwrite_any M6.out X6.out (fun x hx => ⟨by have := Hb5.out; omega, by have := Z6.out; omega⟩) (HG0.out.below B6.out HG0.out.lt) (by have := Hb.out; have := HG0.out.lt; omega) (by have := HBL.out; have := HIL.out; simp only [List.length_append, List.length_cons, List.length_nil]; omega)).mono ?_
      rintro e w7 ⟨rfl, hst7, hM7⟩
      have B7 := Lib.hid (B6.out.trans (hst7.below (B := wr.heap.size) (fun x hx => by have := Hb.out; omega) B6.out.size))
      have M7 := Lib.hid hM7
      clear hst7 hM7 B6 M6 X6 Z6 B5 M5 Hb5 HLIT
      go_wp2_with fail
      refine (macsum_any M7.out (HG0.out.below B7.out HG0.out.lt) (by have := HBL.out; have := HIL.out; simp only [List.length_append, List.length_cons, List.length_nil]; omega)).mono ?_
      rintro e w8 ⟨rfl, hb8⟩
      obtain ⟨V, hV⟩ : ∃ V : ByteArray, (⟨(Hm.tag k (Hm.block k inf i ++ inf ++ [UInt8.ofNat (i + 1)])).toArray⟩ : ByteArray) = V := ⟨_, rfl⟩
      rw [hV]
      have hVd : V.data.toList = Hm.block k inf (i + 1) := by rw [← hV]; rfl
      have hVs : V.size = 32 := by
        have := Hm.block_length k inf i
        rw [← hVd] at this
        exact this
      have N8 := Lib.hid (HN.out.grow (B7.out.trans (hb8.mono B7.out.size)))
      have HVD := Lib.hid hVd
      have HVS := Lib.hid hVs
      clear hb8 hV hVd hVs M7 B7 HN
      go_wp2_with (at_builtin; refine wpList_append_str rfl (.tmp 44) (.tmp 45) rfl (.slice a (32 * i) c) V (by rfl) (by rfl) N8.out (by rw [HSL.out, HVS.out]; omega) ?_; intro a9 c9 w9 hN9; rw [HSL.out, HVS.out, HVD.out] at hN9; rw [HSL.out, HVS.out]; have N9 := Lib.hid hN9; clear hN9)
      refine ⟨⟨i + 1, V, by omega, by go_num, rfl, HVD.out, N9.out, fun h => by omega⟩, by simp [intOf]; omega⟩
    · have hx := Hm.expand_of k inf (n := m) (i := i) (by omega)
      have HXX := Lib.hid hx
      clear hx
      by_cases h0 : i = 0
      · subst h0
        have hm : m = 0 := by omega
        have hnil' := hnil rfl
        obtain ⟨rfl, _, rfl⟩ := Value.slice.inj hnil'
        subst hm
        have hstr := run_toString (P := Tryd.prog) HN.out.2.1.bv 22 5 9 Tryd.underlying22 Tryd.underlying5 Tryd.underlying9
        have HBE := Lib.hid HN.out.1
        clear hnil hnil'
        go_wp2_with fail
        go_ret2
        refine ⟨?_, HBE.out⟩
        show _ = Ending.returned (ExpV s.data.toList t.data.toList ((0 : Nat) : Int))
        rw [HK.out, HI.out, HV.out]
        rfl
      · clear hnil
        obtain ⟨g, cc, hsv, hc1, hc2, hg, _⟩ := HN.out.2.1.cells (by have := HSL.out; omega)
        rw [HSL.out] at hsv
        obtain ⟨rfl, _, rfl⟩ := Value.slice.inj hsv
        have hbv := HN.out.2.1.bv
        have hbt := BV.take (k := m) hbv (by omega)
        rw [HXX.out] at hbt
        have hstr := run_toString (P := Tryd.prog) hbt 22 5 9 Tryd.underlying22 Tryd.underlying5 Tryd.underlying9
        have ic : (m : Int) ≤ (c : Int) := by omega
        have HBE := Lib.hid HN.out.1
        have ige : ¬ 32 * (i : Int) < (m : Int) := by omega
        clear hsv hbv hbt hg HN
        go_wp2_with fail
        go_ret2
        exact ⟨by rw [HK.out, HI.out, HV.out]; rfl, HBE.out⟩
end
end Go.Proofs.YtghhjopclkhpnaaDoor
