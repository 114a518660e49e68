/- The walk of FrameFits. -/
import Derived.Test.YthanbihdkjmeoaaDoorFrT
namespace Go.Proofs.YthanbihdkjmeoaaDoor
open Go.RowKit
def bigB (L : List Fr.Msg) (i : Nat) : Bool := (L.take i).any fun m => decide (65536 < m.2.length)
theorem bigB_zero (L : List Fr.Msg) : bigB L 0 = false := by simp [bigB]
theorem bigB_succ (L : List Fr.Msg) (i : Nat) (h : i < L.length) : bigB L (i + 1) = (bigB L i || decide (65536 < L[i].2.length)) := by
  unfold bigB; rw [List.take_succ_eq_append_getElem h, List.any_append]; simp
set_option maxRecDepth 100000 in
set_option maxHeartbeats 4000000 in
theorem frameFits_walk (w : World) (hg : Glob w) (lv : Value) (L : List Fr.Msg) (hl : MsV w (fun k => k < w.heap.size) lv L) (n : Int) (_ : -9223372036854775808 ≤ n) (hn : n ≤ 9223372036854775807) :
    Calls Tryd.prog 11 #[lv, .int .i64 n] w fun e w' => e = .returned (.bool true) ∧ Below w.heap.size w w' := by
  obtain ⟨la, lc, rfl, lc1, lc2, _⟩ := hl.get
  unfold maxLen at lc2
  have HG := Lib.hid hg
  have HL := Lib.hid hl
  clear hg hl
  by_cases h12 : 12 < L.length
  · have i12 : (12 : Int) < (L.length : Int) := by omega
    go_enter Tryd.func11, Tryd.ntmps11
    go_wp2_with fail
    refine (awake37_any w HG.out).mono ?_
    rintro e w1 ⟨rfl, hb1⟩
    have B1 := Lib.hid hb1; clear hb1
    go_wp2_with fail
    go_ret
    exact ⟨rfl, B1.out⟩
  have i12 : (L.length : Int) ≤ 12 := by omega
  clear h12
  go_enter Tryd.func11, Tryd.ntmps11
  go_wp2_with fail
  refine (awake37_any w HG.out).mono ?_
  rintro e w1 ⟨rfl, hb1⟩
  have B1 := Lib.hid hb1; clear hb1
  go_wp2_with fail
  refine (fit_any (HL.out.same (w' := w1) (fun k hk => B1.out.block k hk)) n hn).mono ?_
  rintro e w2 ⟨rfl, hb2⟩
  have B2 := Lib.hid (B1.out.trans (hb2.mono B1.out.size)); clear hb2
  have L2 := Lib.hid (HL.out.same (w' := w2) (fun k hk => B2.out.block k hk))
  obtain ⟨a, er, hfv⟩ : ∃ a er : Int, FitV L n = .tuple #[.int .i64 a, .int .i64 er] := by
    unfold FitV
    split
    · exact ⟨_, _, rfl⟩
    · split
      · exact ⟨_, _, rfl⟩
      · exact ⟨_, _, rfl⟩
  have HFV := Lib.hid hfv
  rw [hfv]
  clear hfv
  go_wp2_with fail
  go_loopw [7, 8] (fun s7 s8 wr => ∃ i : Nat, i ≤ L.length ∧ s8 = .int .i64 (i : Int) ∧ s7 = .bool (bigB L i) ∧ (∀ m ∈ L.take i, 0 ≤ m.1 ∧ m.1 ≤ 255) ∧ wr = w2) (fun _ s8 _ => L.length - (intOf s8).toNat)
  case atStart => exact ⟨0, by omega, rfl, by rw [bigB_zero], (fun m hm => by simp at hm), rfl⟩
  case round =>
    obtain ⟨i, hi, rfl, rfl, hall, rfl⟩ := hrel
    have HALL := Lib.hid hall
    clear hall
    by_cases hlt : i < L.length
    · have it : (i : Int) < (L.length : Int) := by omega
      obtain ⟨_, _, e1, _, _, hc⟩ := L2.out.get
      obtain ⟨rfl, rfl⟩ : _ ∧ _ := by simpa using e1
      obtain ⟨b, o, x, rfl, _, c0, c1, hbv⟩ := hc i hlt
      obtain ⟨xa, xc, rfl, _⟩ := hbv.get
      obtain ⟨k, hk⟩ : ∃ k, L[i].1 = k := ⟨_, rfl⟩
      have hbs := bigB_succ L i hlt
      obtain ⟨q, hq⟩ : ∃ q, L[i].2.length = q := ⟨_, rfl⟩
      rw [hk] at c0
      rw [hq] at c1 hbs
      have HK := Lib.hid hk
      have HBS := Lib.hid hbs
      obtain ⟨bg, hbg⟩ : ∃ bg, bigB L i = bg := ⟨_, rfl⟩
      rw [hbg] at HBS ⊢
      clear hbv hk hc e1 hq hbs hbg
      by_cases hq2 : 131072 < q
      · have iq : (131072 : Int) < (q : Int) := by omega
        go_wp2_with fail
        go_ret
        exact ⟨rfl, B2.out⟩
      have iq : ¬ (131072 : Int) < (q : Int) := by omega
      by_cases hkk : 0 ≤ k ∧ k ≤ 255
      · have HD := Lib.hid (decide_eq_true hkk)
        have HKK := Lib.hid hkk
        clear hkk
        go_wp2_with fail
        refine (refkind_any _ k).mono ?_
        rintro e w' ⟨rfl, rfl⟩
        rw [HD.out]
        obtain ⟨dq, hdq⟩ : ∃ dq, decide (65536 < q) = dq := ⟨_, rfl⟩
        have HDQ := Lib.hid hdq
        have hnx : bigB L (i + 1) = (bg || dq) := by rw [HBS.out, hdq]
        have HNX := Lib.hid hnx
        cases bg
        · by_cases hq3 : 65536 < q
          · have iq3 : (65536 : Int) < (q : Int) := by omega
            obtain rfl : dq = true := by rw [← hdq]; exact decide_eq_true hq3
            clear hdq hnx
            go_wp2_with fail
            go_roundw
            case rel =>
              refine ⟨i + 1, by omega, by go_num, by rw [HNX.out]; rfl, fun m hm => ?_, trivial⟩
              rw [List.take_succ_eq_append_getElem hlt, List.mem_append] at hm
              rcases hm with hm | hm
              · exact HALL.out m hm
              · rw [List.mem_singleton.1 hm, HK.out]; exact HKK.out
            case measure => simp [intOf]; omega
          · have iq3 : ¬ (65536 : Int) < (q : Int) := by omega
            obtain rfl : dq = false := by rw [← hdq]; exact decide_eq_false hq3
            clear hdq hnx
            go_wp2_with fail
            go_roundw
            case rel =>
              refine ⟨i + 1, by omega, by go_num, by rw [HNX.out]; exact congrArg Value.bool (decide_eq_false (by omega)), fun m hm => ?_, trivial⟩
              rw [List.take_succ_eq_append_getElem hlt, List.mem_append] at hm
              rcases hm with hm | hm
              · exact HALL.out m hm
              · rw [List.mem_singleton.1 hm, HK.out]; exact HKK.out
            case measure => simp [intOf]; omega
        · clear hdq hnx
          go_wp2_with fail
          go_roundw
          case rel =>
            refine ⟨i + 1, by omega, by go_num, by rw [HNX.out]; rfl, fun m hm => ?_, trivial⟩
            rw [List.take_succ_eq_append_getElem hlt, List.mem_append] at hm
            rcases hm with hm | hm
            · exact HALL.out m hm
            · rw [List.mem_singleton.1 hm, HK.out]; exact HKK.out
          case measure => simp [intOf]; omega
      · have HD := Lib.hid (decide_eq_false hkk)
        obtain ⟨rfl, rfl⟩ : a = 0 ∧ er = 1 := by
          have := HFV.out
          unfold FitV at this
          rw [if_pos (.inr ⟨L[i], List.getElem_mem _, by rw [HK.out]; exact hkk⟩)] at this
          simpa using this.symm
        clear hkk
        go_wp2_with fail
        refine (refkind_any _ k).mono ?_
        rintro e w' ⟨rfl, rfl⟩
        rw [HD.out]
        go_wp2_with fail
        go_ret
        exact ⟨rfl, B2.out⟩
    · have ige : ¬ (i : Int) < (L.length : Int) := by omega
      obtain rfl : i = L.length := by omega
      rw [List.take_length] at HALL
      by_cases hn0 : n < 0
      · obtain ⟨rfl, rfl⟩ : a = 0 ∧ er = 1 := by
          have := HFV.out
          unfold FitV at this
          rw [if_pos (.inl hn0)] at this
          simpa using this.symm
        go_wp2_with fail
        go_ret
        exact ⟨rfl, B2.out⟩
      obtain ⟨m, rfl⟩ := Int.eq_ofNat_of_zero_le (by omega : 0 ≤ n)
      have i0 : ¬ (m : Int) < 0 := by omega
      obtain ⟨bg, hbg⟩ : ∃ bg, bigB L L.length = bg := ⟨_, rfl⟩
      rw [hbg]
      have hA : ¬ ((m : Int) < 0 ∨ ∃ x ∈ L, ¬ (0 ≤ x.1 ∧ x.1 ≤ 255)) := fun h => by
        rcases h with h | ⟨x, hx, h⟩
        · omega
        · exact h (HALL.out x hx)
      unfold bigB at hbg
      rw [List.take_length] at hbg
      cases bg
      · have hsm : ¬ ∃ x ∈ L, 65536 < x.2.length := fun ⟨x, hx, h⟩ => by
          have := List.any_eq_false.1 hbg x hx
          simp at this; omega
        have hsm' : ∀ x ∈ L, x.2.length ≤ 65536 := fun x hx => by
          by_cases h : 65536 < x.2.length
          · exact absurd ⟨x, hx, h⟩ hsm
          · omega
        obtain ⟨rfl, rfl⟩ : a = (Fr.fit L m : Int) ∧ er = 0 := by
          have := HFV.out
          unfold FitV at this
          rw [if_neg hA, if_neg hsm] at this
          simpa using this.symm
        have HSM := Lib.hid hsm'
        clear hA hsm hsm' hbg
        go_wp2_with fail
        go_loopw [1, 9] (fun s1 s9 wr => ∃ i r : Nat, i ≤ L.length ∧ s9 = .int .i64 (i : Int) ∧ s1 = .int .i64 (r : Int) ∧ Fr.fit (L.take i) m = i ∧ r + (Fr.stream (L.take i)).length = m ∧ Below w.heap.size w wr) (fun _ s9 _ => L.length - (intOf s9).toNat)
        case atStart => exact ⟨0, m, by omega, rfl, rfl, by simp [Fr.fit], by simp [Fr.stream], B2.out⟩
        case round =>
          obtain ⟨i, r, hi, rfl, rfl, hf, hr, hb⟩ := hrel
          have HB := Lib.hid hb
          have HF := Lib.hid hf
          have HR := Lib.hid hr
          have ir : (r : Int) ≤ 9223372036854775807 := by omega
          clear hb hf hr
          by_cases hlt : i < L.length
          · have it : (i : Int) < (L.length : Int) := by omega
            obtain ⟨_, _, e1, _, _, hc⟩ := (HL.out.same (w' := wr) (fun k hk => HB.out.block k hk)).get
            obtain ⟨rfl, rfl⟩ : _ ∧ _ := by simpa using e1
            obtain ⟨b, o, x, rfl, hbw, c0, c1, hbv⟩ := hc i hlt
            obtain ⟨xa, xc, rfl, _⟩ := hbv.get
            have hq65 : L[i].2.length ≤ 65536 := HSM.out _ (List.getElem_mem _)
            have hmore := fit_more L i m r hlt HF.out HR.out
            have hstop := fit_stop L i m r hlt HF.out HR.out
            obtain ⟨q, hq⟩ : ∃ q, L[i].2.length = q := ⟨_, rfl⟩
            rw [hq] at c1 hq65 hmore hstop
            have hcb : Fr.cost q ≤ 70000 := by have := Fr.num_le (n := q) (by omega); unfold Fr.cost; omega
            obtain ⟨cs, hcs⟩ : ∃ cs, Fr.cost q = cs := ⟨_, rfl⟩
            rw [hcs] at hmore hstop hcb
            have HMORE := Lib.hid hmore
            have HSTOP := Lib.hid hstop
            have HCS := Lib.hid hcs
            have HC1 := Lib.hid c1
            have HBW := Lib.hid hbw
            have ic : (cs : Int) ≤ 70000 := by omega
            clear hbv hc e1 hq hmore hstop hcs c0
            by_cases hfits : cs ≤ r
            · have if1 : (cs : Int) ≤ (r : Int) := by omega
              go_wp2_with fail
              refine (refcost_any wr q (by omega)).mono ?_
              rintro e w5 ⟨rfl, hb5⟩
              have HB5 := Lib.hid (HB.out.trans (hb5.mono HB.out.size))
              rw [HCS.out]
              have c5 := (hb5.cell (p := ⟨b, o + i * 2 + 1, none⟩) (block_lt_of_cell HC1.out)).trans HC1.out
              clear hb5 c1
              go_wp2_with fail
              refine (refcost_any w5 q (by omega)).mono ?_
              rintro e w6 ⟨rfl, hb6⟩
              have HB6 := Lib.hid (HB5.out.trans (hb6.mono HB5.out.size))
              rw [HCS.out]
              clear hb6 c5
              go_wp2_with fail
              go_roundw
              case rel => exact ⟨i + 1, r - cs, by omega, by go_num, by go_num, (HMORE.out hfits).1, (HMORE.out hfits).2, HB6.out⟩
              case measure => simp [intOf]; omega
            · have if1 : ¬ (cs : Int) ≤ (r : Int) := by omega
              go_wp2_with fail
              refine (refcost_any wr q (by omega)).mono ?_
              rintro e w5 ⟨rfl, hb5⟩
              have HB5 := Lib.hid (HB.out.trans (hb5.mono HB.out.size))
              rw [HCS.out]
              clear hb5 c1
              have hfin := HSTOP.out hfits
              have hbe : ((Fr.fit L m : Int) == (i : Int)) = true := by rw [hfin]; simp
              go_wp2_with fail
              go_ret
              refine ⟨?_, HB5.out⟩
              first
                | rfl
                | (refine ret_bool ?_; simp [hfin])
          · have ige : ¬ (i : Int) < (L.length : Int) := by omega
            obtain rfl : i = L.length := by omega
            rw [List.take_length] at HF
            have hfin := HF.out
            have hbe : ((Fr.fit L m : Int) == (L.length : Int)) = true := by rw [hfin]; simp
            go_wp2_with fail
            go_ret
            refine ⟨?_, HB.out⟩
            first
              | rfl
              | (refine ret_bool ?_; simp [hfin])
      · have hbig : ∃ x ∈ L, 65536 < x.2.length := by
          obtain ⟨x, hx, h⟩ := List.any_eq_true.1 hbg
          exact ⟨x, hx, by simpa using h⟩
        obtain ⟨rfl, rfl⟩ : a = 0 ∧ er = 2 := by
          have := HFV.out
          unfold FitV at this
          rw [if_neg hA, if_pos hbig] at this
          simpa using this.symm
        clear hA hbig hbg
        go_wp2_with fail
        go_ret
        exact ⟨rfl, B2.out⟩
end Go.Proofs.YthanbihdkjmeoaaDoor
