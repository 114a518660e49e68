/- The walk of FrameBefore. -/
import Derived.Test.YthanbihdkjmeoaaDoorFrT
import Derived.StillTailTactics
namespace Go.Proofs.YthanbihdkjmeoaaDoor
open Go.RowKit
set_option maxRecDepth 100000 in
set_option maxHeartbeats 4000000 in
theorem frameBefore_walk (w : World) (hg : Glob w) (lv : Value) (L : List Fr.Msg) (hl : MsV w (fun k => k < w.heap.size) lv L) (av : Value) (A : List Int) (ha : IntsV w (fun k => k < w.heap.size) av A) (x : UInt8) :
    Calls Tryd.prog 8 #[lv, av, .int .u8 (x.toNat : Int)] w fun e w' => e = .returned (.bool true) ∧ Below w.heap.size w w' := by
  obtain ⟨la, lc, rfl, lc1, lc2, _⟩ := hl.get
  obtain ⟨aa, ac, rfl, ac1, ac2, _⟩ := SV.get ha
  unfold maxLen at lc2 ac2
  have HG := Lib.hid hg
  have HL := Lib.hid hl
  have HA := Lib.hid ha
  clear hg hl ha
  go_enter Tryd.func8, Tryd.ntmps8
  go_wp2_with fail
  refine (awake37_any w HG.out).mono ?_
  rintro e w1 ⟨rfl, hb1⟩
  have B1 := Lib.hid hb1; clear hb1
  go_wp2_with fail
  refine (few_any (HL.out.same (w' := w1) (fun k hk => B1.out.block k hk))).mono ?_
  rintro e w2 ⟨⟨bb, rfl, hfew⟩, rfl⟩
  cases bb with
  | false =>
    go_wp2_with fail
    go_ret
    exact ⟨rfl, B1.out⟩
  | true =>
  have HFEW := Lib.hid (hfew rfl)
  clear hfew
  by_cases h10 : 10 < A.length
  · have i10 : (10 : Int) < (A.length : Int) := by omega
    go_wp2_with fail
    go_ret
    exact ⟨rfl, B1.out⟩
  have i10 : (A.length : Int) ≤ 10 := by omega
  clear h10
  go_wp2_with fail
  have hGw1 := HG.out.below B1.out HG.out.lt
  refine (streamed_any (HL.out.same (w' := w1) (fun k hk => B1.out.block k hk)) (fun k hk => Nat.lt_of_lt_of_le hk B1.out.size) hGw1 (by have := HFEW.out.1; omega)).mono ?_
  rintro e w2 ⟨sv, bb, rfl, hb2, hok⟩
  have B2 := Lib.hid (B1.out.trans (hb2.mono B1.out.size))
  cases bb with
  | false =>
    clear hok hb2
    go_wp2_with fail
    go_ret
    exact ⟨rfl, B2.out⟩
  | true =>
  obtain ⟨hall, hN2⟩ := hok rfl
  have HALL := Lib.hid hall
  have N2 := Lib.hid (hN2.rebase B1.out B1.out.size)
  have hsl := stream_le L hall
  have hsb : (Fr.stream L).length ≤ 1000000 := by have := HFEW.out.1; omega
  obtain ⟨S, hS⟩ : ∃ S, Fr.stream L = S := ⟨_, rfl⟩
  rw [hS] at N2 hsb
  have HS := Lib.hid hS
  obtain ⟨sa, sc, rfl, _, _, _, _⟩ := N2.out.2.1.form
  have HSB := Lib.hid hsb
  clear hall hok hN2 hsl hS hb2 hsb hGw1
  have C0 := Lib.hid (NewB.empty w2)
  have X2 := Lib.hid (N2.out.bvs.alloc (.cells #[] 5))
  go_wp2_with (at_builtin; refine wpList_append_bytes rfl (.tmp 35) (.tmp 36) rfl (.slice (some ⟨w2.heap.size, 0, none⟩) 0 0) _ S (by rfl) (by rfl) C0.out.2.1 X2.out (by have := HSB.out; simp only [List.length_nil]; omega) ?_; intro a3 c3 w3 hO3 hg3 ho3; rw [List.length_nil, Nat.zero_add] at ho3 hO3 ⊢; rw [List.nil_append] at hO3; have C3 := Lib.hid ((C0.out.push (m := S) hO3 hg3 ho3).rebase B2.out B2.out.size); clear hO3 hg3 ho3)
  rw [List.nil_append] at C3
  obtain ⟨n, hn⟩ : ∃ n, S.length = n := ⟨_, rfl⟩
  rw [hn]
  rw [hn] at C3 HSB
  have HN := Lib.hid hn
  have isb : (n : Int) ≤ 1000000 := by have := HSB.out; omega
  clear hn X2 C0
  go_loopw [10, 11] (fun s10 s11 wr => ∃ (i first : Nat) (cur : List UInt8), i ≤ A.length ∧ s11 = .int .i64 (i : Int) ∧ s10 = .int .i64 (first : Int) ∧ first ≤ n ∧ cur.length = n ∧ cur.take first = S.take first ∧ NewB w.heap.size w cur (.slice a3 n c3) wr) (fun _ s11 _ => A.length - (intOf s11).toNat)
  case atStart => exact ⟨0, n, S, by omega, rfl, rfl, Nat.le_refl _, HN.out, rfl, C3.out⟩
  case round =>
    clear C3
    obtain ⟨i, first, cur, hi, rfl, rfl, hfn, hcl, hct, hC⟩ := hrel
    have HCL := Lib.hid hcl
    have HCT := Lib.hid hct
    have HC := Lib.hid hC
    clear hcl hct hC
    by_cases hlt : i < A.length
    · have it : (i : Int) < (A.length : Int) := by omega
      obtain ⟨_, _, e1, _, _, hget⟩ := SV.get (SV.same HA.out (fun k hk => HC.out.1.block k hk))
      obtain ⟨rfl, rfl⟩ : _ ∧ _ := by simpa using e1
      obtain ⟨ab, ao, rfl, hab, hac⟩ := hget i hlt
      obtain ⟨z, hz⟩ : ∃ z, A[i] = z := ⟨_, rfl⟩
      rw [hz] at hac
      clear hget e1 hz
      by_cases hz0 : z < 0
      · go_wp2_with fail
        go_roundw
        case rel => exact ⟨i + 1, first, cur, by omega, by go_num, rfl, hfn, HCL.out, HCT.out, HC.out⟩
        case measure => simp [intOf]; omega
      obtain ⟨p, rfl⟩ := Int.eq_ofNat_of_zero_le (by omega : 0 ≤ z)
      have iz : (0 : Int) ≤ (p : Int) := by omega
      by_cases hpn : p < n
      · have ip : (p : Int) < (n : Int) := by omega
        obtain ⟨g, cc, hv, q1, q2, hgl, hcell, hfr, hset⟩ := NewB_cells HC.out (by rw [HCL.out]; omega)
        rw [HCL.out] at hv q1
        have hcell := fun i hi => hcell i (by rw [HCL.out]; exact hi)
        have hset := fun i x hi => hset i x (by rw [HCL.out]; exact hi)
        obtain ⟨rfl, -, rfl⟩ := Value.slice.inj hv
        have hcp := hcell p hpn
        have hfp := hfr p
        obtain ⟨y, hy⟩ : ∃ y, cur[p]'(by rw [HCL.out]; exact hpn) = y := ⟨_, rfl⟩
        rw [hy] at hcp
        have hxor := xor8 y x
        have HSET := Lib.hid (hset p (y ^^^ x) hpn)
        have HAB := Lib.hid hab
        have HGB : Hid (w.heap.size ≤ g) := Lib.hid (HC.out.2.2.2 g rfl)
        unfold maxLen at q2
        clear hcell hfr hset hz0 hv hy
        have n1 : ¬ ab = g := fun e => by have := HGB.out; have := HAB.out; omega
        have n2 : ¬ g = ab := fun e => n1 e.symm
        go_wp2_with fail
        go_still_tail 15, (by kernel_rfl)
        go_wp2_with fail
        have hN := HSET.out
        rw [UInt8.toNat_xor] at hN
        refine ⟨⟨i + 1, if p < first then p else first, cur.set p (y ^^^ x), by omega, by go_num, by split <;> rfl, by split <;> omega, by rw [List.length_set, HCL.out], ?_, hN.drew⟩, by simp [intOf]; omega⟩
        obtain ⟨f', hf', h1, h2⟩ : ∃ f', (if p < first then p else first) = f' ∧ f' ≤ p ∧ f' ≤ first := ⟨_, rfl, by split <;> omega, by split <;> omega⟩
        rw [hf', List.take_set_of_le h1]
        have e : cur.take f' = (cur.take first).take f' := by rw [List.take_take, Nat.min_eq_left h2]
        rw [e, HCT.out, List.take_take, Nat.min_eq_left h2]
      · have ip : ¬ (p : Int) < (n : Int) := by omega
        clear hz0
        go_wp2_with fail
        go_roundw
        case rel => exact ⟨i + 1, first, cur, by omega, by go_num, rfl, hfn, HCL.out, HCT.out, HC.out⟩
        case measure => simp [intOf]; omega
    · have ige : ¬ (i : Int) < (A.length : Int) := by omega
      have B3 := Lib.hid HC.out.1
      go_wp2_with fail
      refine (newdec_any wr).mono ?_
      rintro e w4 ⟨rfl, hb4, hD4⟩
      have hwb := B3.out.size
      have hF4 : From w.heap.size (fun k => wr.heap.size ≤ k ∧ k < w4.heap.size) := fun k hk => Nat.le_trans hwb hk.1
      have V4 := Lib.hid (HC.out.later hb4).bvs
      generalize (fun k => wr.heap.size ≤ k ∧ k < w4.heap.size) = F4 at *
      generalize wr.heap.size = b at *
      have B4 := Lib.hid (B3.out.trans (hb4.mono hwb))
      have D4 := Lib.hid hD4
      have FR4 := Lib.hid hF4
      clear hb4 hD4 hF4
      go_wp2_with fail
      rw [← HCL.out] at isb
      have hcv : BV w4 (fun k => k < w4.heap.size) (.slice a3 n c3) cur := V4.out
      refine (feed_any D4.out hcv (by simp only [Fr.D.pend, List.length_nil]; omega)).mono ?_
      rintro e w5 ⟨rfl, hst5, hD5⟩
      have B5 := Lib.hid (B4.out.trans (hst5.below FR4.out B4.out.size))
      have FR5 := Lib.hid (Plus.froms (w := w4) (w' := w5) FR4.out B4.out.size)
      have hD5' : DecAt w5 b (Plus F4 w4 w5) (.live cur) := hD5
      generalize Plus F4 w4 w5 = F5 at *
      have D5 := Lib.hid hD5'
      clear hst5 hD5 hD5' hcv
      go_wp2_with fail
      refine (drained_any D5.out (HG.out.below B5.out HG.out.lt) (fun k hk => by have := FR5.out k hk; have := HG.out.lt; omega) (by omega)).mono ?_
      rintro e w6 ⟨ms, d, gv, er, rfl, hdr, hst6, hD6, hM6, _, her⟩
      have B6 := Lib.hid (B5.out.trans (hst6.below FR5.out B5.out.size))
      obtain ⟨hfit, htk⟩ := Fr.drains_before L HALL.out (by rw [HS.out]; exact HCT.out) hdr
      have M6 := Lib.hid hM6.msv
      obtain ⟨ga, gc, rfl, gc1, gc2⟩ := hM6.shape
      unfold maxLen at gc2
      clear hdr hst6 hD6 hM6
      rw [HCL.out] at isb
      go_wp2_with fail
      refine (fit_any (HL.out.same (w' := w6) (fun k hk => B6.out.block k hk)) (first : Int) (by omega)).mono ?_
      rintro e w7 ⟨rfl, hb7⟩
      rw [FitV_ok HALL.out]
      obtain ⟨q, hq⟩ : ∃ q, Fr.fit L first = q := ⟨_, rfl⟩
      rw [hq] at hfit htk ⊢
      have hqL : q ≤ L.length := by rw [← hq]; exact Fr.fit_le L first
      have iq1 : ¬ (ms.length : Int) < (q : Int) := by omega
      have iq2 : ¬ ms.length < q := by omega
      have B7 := Lib.hid (B6.out.trans (hb7.mono B6.out.size))
      have M7 := Lib.hid (M6.out.grow hb7)
      have L7 := Lib.hid (HL.out.same (w' := w7) (fun k hk => B7.out.block k hk))
      have HTK := Lib.hid htk
      clear hb7 hq htk her
      go_wp2_with fail
      go_loopw [17] (fun s wz => ∃ j : Nat, j ≤ q ∧ s = .int .i64 (j : Int) ∧ Below w7.heap.size w7 wz) (fun s _ => q - (intOf s).toNat)
      case atStart => exact ⟨0, by omega, rfl, Below.refl _ _⟩
      case round =>
        obtain ⟨j, hj, rfl, hbz⟩ := hrel
        have HBZ := Lib.hid hbz
        clear hbz
        by_cases hjl : j < q
        · have ij : (j : Int) < (q : Int) := by omega
          obtain ⟨_, _, e1, _, _, hget1⟩ := (M7.out.grow HBZ.out).get
          obtain ⟨rfl, rfl⟩ : _ ∧ _ := by simpa using e1
          obtain ⟨gb, go, gx, rfl, _, g0, g1, gbv⟩ := hget1 j (by omega)
          obtain ⟨_, _, e2, _, _, hget2⟩ := (L7.out.grow HBZ.out).get
          obtain ⟨rfl, rfl⟩ : _ ∧ _ := by simpa using e2
          obtain ⟨lb, lo, lx, rfl, _, l0, l1, lbv⟩ := hget2 j (by omega)
          have hmeq : ms[j]'(by omega) = L[j]'(by omega) := by
            have e3 : (ms.take q)[j]? = (L.take q)[j]? := by rw [HTK.out]
            rw [List.getElem?_take, List.getElem?_take, if_pos hjl, if_pos hjl, List.getElem?_eq_getElem (by omega), List.getElem?_eq_getElem (by omega)] at e3
            exact Option.some.inj e3
          rw [hmeq] at g0 gbv
          obtain ⟨m, hm⟩ : ∃ m, L[j]'(by omega) = m := ⟨_, rfl⟩
          rw [hm] at g0 gbv l0 lbv
          obtain ⟨gxa, gxc, rfl, _⟩ := gbv.get
          obtain ⟨lxa, lxc, rfl, _⟩ := lbv.get
          have im1 : (j : Int) < (ms.length : Int) := by omega
          have im2 : (j : Int) < (L.length : Int) := by omega
          have GBV := Lib.hid gbv
          have LBV := Lib.hid lbv
          clear hget1 hget2 e1 e2 gbv lbv hmeq hm
          go_wp2_with fail
          go_still_tail 8, (by kernel_rfl)
          go_wp2_with fail
          refine (msame_is (show BV wr.drew _ _ _ from GBV.out) (show BV wr.drew _ _ _ from LBV.out)).mono ?_
          rintro e w9 ⟨rfl, hb9⟩
          have HB9 := Lib.hid (HBZ.out.trans ((show Below wr.heap.size wr w9 from ⟨hb9.1, hb9.2, hb9.3, hb9.4, hb9.5⟩).mono HBZ.out.size))
          clear hb9
          go_wp2_with fail
          go_roundw
          case rel => exact ⟨j + 1, by omega, by go_num, HB9.out⟩
          case measure => simp [intOf]; omega
        · have ij : ¬ (j : Int) < (q : Int) := by omega
          go_wp2_with fail
          go_ret
          exact ⟨rfl, B7.out.trans (HBZ.out.mono B7.out.size)⟩
end Go.Proofs.YthanbihdkjmeoaaDoor
