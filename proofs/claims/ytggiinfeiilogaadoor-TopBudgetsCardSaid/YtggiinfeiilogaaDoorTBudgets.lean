/- The walk of TopBudgets. -/
import Derived.Test.YtggiinfeiilogaaDoorTbI
import Derived.StillTailTactics
import Derived.BigQuiet
import Derived.Deep.QuietTactic
import Derived.Deep.CutBlock
import Derived.Deep.DeepCutAuto
namespace Go.Proofs.YtggiinfeiilogaaDoor
open Go.RowKit
/-- What holds behind the loop over the messages. -/
def TbEnd (w : World) (L : List Fr.Msg) (R bud : Nat) (cut : Int) (bl bd : Nat) (gv : Value) (wx : World) : Prop :=
  ∃ i S W dn dl, i ≤ L.length ∧ Fr.fit L R = i ∧ S.length ≤ R ∧ TbI w wx bl bd ⟨S, W, bud, cut, dn⟩ dl gv (L.take i)
set_option maxRecDepth 100000 in
set_option maxHeartbeats 8000000 in
theorem topBudgets_walk (w : World) (hg : Glob w) (lv : Value) (L : List Fr.Msg) (hl : MsV w (fun k => k < w.heap.size) lv L) (z : Int) (hz1 : -9223372036854775808 ≤ z) (hz2 : z ≤ 9223372036854775807) (cut : Int) (hcn : -9223372036854775808 ≤ cut) (hcx : cut ≤ 9223372036854775807) :
    Calls Tryd.prog 3 #[lv, .int .i64 z, .int .i64 cut] w fun e w' => e = .returned (.bool true) ∧ Below w.heap.size w w' := by
  obtain ⟨i0, hi0, hz0, hz1', hz2'⟩ := info_parts Tryd.infoM
  obtain ⟨la, lc, rfl, lc1, lc2, _⟩ := hl.get
  unfold maxLen at lc2
  have HG := Lib.hid hg
  have HL := Lib.hid hl
  clear hg hl
  go_enter Tryd.func3, Tryd.ntmps3
  go_wp2_with fail
  refine (a19_any w).mono ?_
  rintro e w1 ⟨rfl, hb1⟩
  have B1 := Lib.hid hb1; clear hb1
  by_cases h12 : 12 < L.length
  · have i12 : (12 : Int) < (L.length : Int) := by omega
    go_wp2_with fail
    refine (a19_any w1).mono ?_
    rintro e w2 ⟨rfl, hb2⟩
    go_wp2_with fail
    go_ret
    exact ⟨rfl, B1.out.trans (hb2.mono B1.out.size)⟩
  have i12 : (L.length : Int) ≤ 12 := by omega
  by_cases hzz : z < 0
  · go_wp2_with fail
    refine (a19_any w1).mono ?_
    rintro e w2 ⟨rfl, hb2⟩
    go_wp2_with fail
    go_ret
    exact ⟨rfl, B1.out.trans (hb2.mono B1.out.size)⟩
  obtain ⟨bud, rfl⟩ := Int.eq_ofNat_of_zero_le (by omega : 0 ≤ z)
  have ib0 : (0 : Int) ≤ (bud : Int) := by omega
  clear hzz hz1 hz2
  by_cases hzb : 1048576 < bud
  · have ib1 : (1048576 : Int) < (bud : Int) := by omega
    go_wp2_with fail
    refine (a19_any w1).mono ?_
    rintro e w2 ⟨rfl, hb2⟩
    go_wp2_with fail
    go_ret
    exact ⟨rfl, B1.out.trans (hb2.mono B1.out.size)⟩
  have ib1 : (bud : Int) ≤ 1048576 := by omega
  have HBUD : Hid (bud ≤ 1048576) := Lib.hid (by omega)
  have HLEN : Hid (L.length ≤ 12) := Lib.hid (by omega)
  clear hzb h12
  go_wp2_with fail
  refine (newlink_any w1 bud cut HBUD.out).mono ?_
  rintro e w2 ⟨rfl, hb2, hL2⟩
  have B2 := Lib.hid (B1.out.trans (hb2.mono B1.out.size))
  have L2 := Lib.hid hL2
  have HLT2 : Hid (w1.heap.size < w2.heap.size) := Lib.hid (hL2.2.1 _ hL2.1)
  have HB12 : Hid (w.heap.size ≤ w1.heap.size) := Lib.hid B1.out.size
  clear hb2 hL2
  obtain ⟨bl, hbl⟩ : ∃ bl, w1.heap.size = bl := ⟨_, rfl⟩
  rw [hbl] at L2 HLT2 HB12 ⊢
  clear hbl
  go_wp2_with fail
  refine (newdec_any w2).mono ?_
  rintro e w3 ⟨rfl, hb3, hD3⟩
  have B3 := Lib.hid (B2.out.trans (hb3.mono B2.out.size))
  have L3 := Lib.hid (L2.out.grow hb3)
  have D3 := Lib.hid hD3
  have HLT3 : Hid (w2.heap.size < w3.heap.size) := Lib.hid (hD3.2.1 _ hD3.1)
  have G3 : Hid (MsF (fun k => w3.heap.size ≤ k ∧ k < w3.heap.size + 1) (w3.alloc (.cells #[] 32)) (.slice (some ⟨w3.heap.size, 0, none⟩) 0 0) []) := Lib.hid (MsF.empty w3)
  clear hb3 hD3
  have hb4 : Below w3.heap.size w3 (w3.alloc (.cells #[] 32)) := (Below.refl _ _).alloc (Nat.le_refl _) _
  have T4 : Hid (TbI w (w3.alloc (.cells #[] 32)) bl w2.heap.size ⟨[], [], bud, cut, false⟩ [] (.slice (some ⟨w3.heap.size, 0, none⟩) 0 0) []) := Lib.hid
    (TbI.mk' (B3.out.trans (hb4.mono B3.out.size)) (fun k hk => by have := HB12.out; omega) (fun k hk => by have := HB12.out; have := HLT2.out; omega) (fun k hk => by have := HB12.out; have := HLT2.out; have := HLT3.out; omega)
      (fun k hk hk2 => by have := HLT2.out; omega) (fun k hk hk2 => by have := HLT3.out; omega) (fun k hk hk2 => by omega) (L3.out.grow hb4) (D3.out.grow hb4) G3.out)
  clear hb4
  go_wp2_with fail
  obtain ⟨bd, hbd⟩ : ∃ bd, w2.heap.size = bd := ⟨_, rfl⟩
  rw [hbd] at T4 ⊢
  generalize (Value.slice (some ⟨w3.heap.size, 0, none⟩) 0 0) = gv0 at *
  generalize w3.alloc (.cells #[] 32) = w4 at *
  clear hbd L2 HLT2 HB12 L3 D3 HLT3 G3
  go_loopw [64] (fun s64 wr => ∃ i : Nat, i ≤ L.length ∧ s64 = .int .i64 (i : Int) ∧ (∀ m ∈ L.take i, Fr.ok m ∧ m.2.length ≤ 60) ∧ Below w4.heap.size w4 wr) (fun s64 _ => L.length - (intOf s64).toNat)
  case atStart => exact ⟨0, by omega, rfl, (fun m hm => by simp at hm), Below.refl _ _⟩
  case round =>
    obtain ⟨i, hi, rfl, hall, hbw⟩ := hrel
    have HA := Lib.hid hall
    have HBW := Lib.hid hbw
    have HBX := Lib.hid (T4.out.below.trans (hbw.mono T4.out.below.size))
    clear hall hbw
    by_cases hlt : i < L.length
    · have it : (i : Int) < (L.length : Int) := by omega
      obtain ⟨_, _, e1, _, _, hget⟩ := (HL.out.same (w' := wr) (fun k hk => HBX.out.block k hk)).get
      obtain ⟨rfl, rfl⟩ : _ ∧ _ := by simpa using e1
      obtain ⟨lb, lo, lx, rfl, -, l0, l1, lbv⟩ := hget i hlt
      obtain ⟨m, hm⟩ : ∃ m, L[i] = m := ⟨_, rfl⟩
      rw [hm] at l0 lbv
      obtain ⟨lxa, lxc, rfl, _⟩ := lbv.get
      obtain ⟨k, hk⟩ : ∃ k, m.1 = k := ⟨_, rfl⟩
      obtain ⟨q, hq⟩ : ∃ q, m.2.length = q := ⟨_, rfl⟩
      rw [hk] at l0
      rw [hq] at l1
      have HM := Lib.hid hm
      have HK := Lib.hid hk
      have HQ := Lib.hid hq
      have hbz : Below wr.heap.size wr (wr.alloc (.cells #[.int .i64 k, .slice lxa q lxc] 32)) := (Below.refl _ _).alloc (Nat.le_refl _) _
      have HBZ := Lib.hid (HBW.out.trans (hbz.mono HBW.out.size))
      have HBY := Lib.hid (HBX.out.trans (hbz.mono HBX.out.size))
      clear hget e1 lbv hm hk hq hbz
      by_cases hq6 : 60 < q
      · have iq : (60 : Int) < (q : Int) := by omega
        go_wp2_with fail
        go_ret
        exact ⟨rfl, HBY.out⟩
      have iq : (q : Int) ≤ 60 := by omega
      by_cases hk0 : k < 0
      · go_wp2_with fail
        go_ret
        exact ⟨rfl, HBY.out⟩
      by_cases hk1 : 255 < k
      · go_wp2_with fail
        go_ret
        exact ⟨rfl, HBY.out⟩
      have hkk0 : 0 ≤ k := by omega
      have hkk1 : k ≤ 255 := by omega
      clear hk0 hk1
      go_wp2_with fail
      go_roundw
      case rel =>
        refine ⟨i + 1, by omega, by go_num, fun m' hm' => ?_, HBZ.out⟩
        rw [List.take_succ_eq_append_getElem hlt, List.mem_append] at hm'
        rcases hm' with hm' | hm'
        · exact HA.out m' hm'
        · rw [List.mem_singleton.1 hm', HM.out]
          have := HQ.out
          exact ⟨⟨by rw [HK.out]; exact hkk0, by rw [HK.out]; exact hkk1, by omega⟩, by omega⟩
      case measure => simp [intOf]; omega
    · have ige : ¬ (i : Int) < (L.length : Int) := by omega
      obtain rfl : i = L.length := by omega
      rw [List.take_length] at HA
      have T5 := Lib.hid (T4.out.grow HBW.out)
      have HALL : Hid (∀ m ∈ L, Fr.ok m) := Lib.hid (fun m hm => (HA.out m hm).1)
      obtain ⟨ga0, gc0, rfl, _, _⟩ := T5.out.shape
      obtain ⟨R, hR⟩ : ∃ R : Nat, (R : Int) = if 0 ≤ cut ∧ cut < (bud : Int) then cut else (bud : Int) := by
        by_cases h : 0 ≤ cut ∧ cut < (bud : Int)
        · rw [if_pos h]; exact ⟨cut.toNat, by omega⟩
        · rw [if_neg h]; exact ⟨bud, rfl⟩
      have HR := Lib.hid hR
      have HRB : Hid (R ≤ bud ∧ (0 ≤ cut → (R : Int) ≤ cut) ∧ ((R : Int) = bud ∨ (0 ≤ cut ∧ (R : Int) = cut))) := Lib.hid (by split at hR <;> omega)
      clear hR
      go_upto_block 2 with fail
      go_cut [10] (fun s10 wx => TbEnd w L R bud cut bl bd s10 wx)
      case first =>
        go_wp2_with fail
        go_loopw [10, 85] (fun s10 s85 wr => ∃ i : Nat, i ≤ L.length ∧ s85 = .int .i64 (i : Int) ∧ Fr.fit (L.take i) R = i ∧ (Fr.stream (L.take i)).length ≤ R ∧ TbI w wr bl bd ⟨Fr.stream (L.take i), [], bud, cut, false⟩ [] s10 (L.take i)) (fun _ s85 _ => L.length - (intOf s85).toNat)
        case atStart => exact ⟨0, by omega, rfl, rfl, Nat.zero_le _, T5.out⟩
        case round =>
          clear T4 T5
          obtain ⟨i, hi, rfl, hfit, hsl, hT⟩ := hrel
          have htl : (L.take i).length = i := by rw [List.length_take]; omega
          obtain ⟨ga, gc, rfl, gc1, gc2⟩ := hT.shape
          rw [htl] at hT gc1 ⊢
          unfold maxLen at gc2
          have HFIT := Lib.hid hfit
          have HSL := Lib.hid hsl
          have HTL := Lib.hid htl
          have HT := Lib.hid hT
          have HBX := Lib.hid hT.below
          clear hfit hsl hT
          by_cases hlt : i < L.length
          · have it : (i : Int) < (L.length : Int) := by omega
            obtain ⟨_, _, e1, _, _, hget⟩ := (HL.out.same (w' := wr) (fun k hk => HBX.out.block k hk)).get
            obtain ⟨rfl, rfl⟩ : _ ∧ _ := by simpa using e1
            obtain ⟨lb, lo, lx, rfl, -, l0, l1, lbv⟩ := hget i hlt
            obtain ⟨m, hm⟩ : ∃ m, L[i] = m := ⟨_, rfl⟩
            rw [hm] at l0 lbv
            obtain ⟨lxa, lxc, rfl, _⟩ := lbv.get
            obtain ⟨k, hk⟩ : ∃ k, m.1 = k := ⟨_, rfl⟩
            obtain ⟨q, hq⟩ : ∃ q, m.2.length = q := ⟨_, rfl⟩
            rw [hk] at l0
            rw [hq] at l1
            have HM := Lib.hid hm
            have HK := Lib.hid hk
            have HQ := Lib.hid hq
            have hbz : Below wr.heap.size wr (wr.alloc (.cells #[.int .i64 k, .slice lxa q lxc] 32)) := (Below.refl _ _).alloc (Nat.le_refl _) _
            have HP1 : Hid (Blk (wr.alloc (.cells #[.int .i64 k, .slice lxa q lxc] 32)) wr.heap.size [.int .i64 k, .slice lxa q lxc] 32) := Lib.hid (Blk.new _ _ _)
            have T1 := Lib.hid (HT.out.grow hbz)
            have X1 : Hid (BV (wr.alloc (.cells #[.int .i64 k, .slice lxa q lxc] 32)) (fun k => k < w.heap.size) (.slice lxa q lxc) m.2) := Lib.hid (by have := lbv.grow hbz; rw [hq] at this; exact this)
            have hok : Fr.ok m := HALL.out m (by rw [← hm]; exact List.getElem_mem hlt)
            have HOK := Lib.hid hok
            have he : encErr k m.2 = 0 := by rw [← hk]; exact encErr_ok.2 hok
            have HE := Lib.hid he
            have hfc : (Fr.encM m).length = Fr.cost q := by rw [← hq]; exact Fr.encM_length m
            obtain ⟨f, hf⟩ : ∃ f, Fr.encM m = f := ⟨_, rfl⟩
            rw [hf] at hfc
            have HF := Lib.hid hf
            have hq60 : q ≤ 60 := by rw [← hq, ← hm]; exact (HA.out _ (List.getElem_mem hlt)).2
            have hc100 : Fr.cost q ≤ 100 := by have := Fr.num_le (n := q) (by omega); unfold Fr.cost; omega
            have hc10 : 10 ≤ Fr.cost q := by have := Fr.cost_ge q; omega
            obtain ⟨c, hc⟩ : ∃ c, f.length = c := ⟨_, rfl⟩
            have hcq : Fr.cost q = c := by rw [← hfc, hc]
            rw [hcq] at hc100 hc10
            have HC := Lib.hid hc
            have HCQ : Hid (Fr.cost m.2.length = c) := Lib.hid (by rw [hq]; exact hcq)
            have HC100 := Lib.hid hc100
            have HC10 := Lib.hid hc10
            obtain ⟨t, ht⟩ : ∃ t, (Fr.stream (L.take i)).length = t := ⟨_, rfl⟩
            have HSE := Lib.hid ht
            have HSR : Hid (t ≤ R) := Lib.hid (by rw [← ht]; exact HSL.out)
            clear hget e1 lbv hm hk hq hbz hok he hfc hf hq60 hc hcq ht hc100 hc10
            go_wp2_with fail
            generalize wr.alloc (.cells #[.int .i64 k, .slice lxa q lxc] 32) = w1 at *
            have HBX1 := Lib.hid T1.out.below
            refine (fenc_any X1.out (fun k hk => Nat.lt_of_lt_of_le hk HBX1.out.size) (HG.out.below HBX1.out HG.out.lt)).mono ?_
            rintro e w2 ⟨sv, rfl, hN2⟩
            rw [HE.out, if_pos rfl, show (k, m.2) = m from by rw [← HK.out], HF.out] at hN2
            rw [HE.out]
            obtain ⟨sa, sc, rfl, _, _, _, _⟩ := hN2.2.1.form
            have N2 := Lib.hid hN2
            clear hN2 l0 l1
            go_wp2_with fail
            by_cases hfull : bud < t + c
            · have hstop : Hid (Fr.fit L R = i) := Lib.hid (by
                refine fit_stop L i R (R - t) hlt HFIT.out (by rw [HSE.out]; have := HSR.out; omega) ?_
                rw [HM.out, HCQ.out]
                have h1 := HRB.out.1
                have h2 := HSR.out
                clear HRB HSR
                omega)
              refine (tb_send_full T1.out N2.out rfl HBUD.out (by dsimp only; rw [HSE.out]; have := HRB.out; have := HSR.out; omega) (by dsimp only; rw [HSE.out, HC.out]; exact hfull)).mono ?_
              rintro e w3 ⟨rfl, hT3⟩
              have T3 := Lib.hid hT3
              clear hT3
              go_wp2_with fail
              refine (tb_recv T3.out (by simp)).mono ?_
              rintro e w4 ⟨rv, rfl, hT4, hbv4⟩
              obtain ⟨ra, rc, rfl, _⟩ := hbv4.get
              have T4 := Lib.hid hT4
              have V4 := Lib.hid hbv4
              clear hT4 hbv4
              simp only [List.length_nil] at V4 ⊢
              go_wp2_with fail
              refine (tb_feed T4.out V4.out (by simp)).mono ?_
              rintro e w5 ⟨rfl, hT5⟩
              have T5 := Lib.hid hT5
              clear hT5
              go_wp2_with fail
              go_loopw [10] (fun s10 wr => s10 = .slice ga i gc ∧ TbI w wr bl bd ⟨Fr.stream (L.take i), [], bud, cut, false⟩ [] (.slice ga i gc) (L.take i)) (fun s10 _ => 100 - slen s10)
              case atStart => exact ⟨rfl, T5.out⟩
              case round =>
                obtain ⟨rfl, hT6⟩ := hrel
                have T6 := Lib.hid hT6
                clear hT6
                go_wp2_with fail
                refine (tb_next_need T6.out HG.out rfl (by simp)).mono ?_
                rintro e w7 ⟨rfl, hT7⟩
                have HTZ : Hid (TbI w (w7.alloc (.cells #[.int .i64 0, .slice none 0 0] 32)) bl bd ⟨Fr.stream (L.take i), [], bud, cut, false⟩ [] (.slice ga i gc) (L.take i)) := Lib.hid (hT7.grow ((Below.refl _ _).alloc (Nat.le_refl _) _))
                clear hT7
                have HFITR := hstop
                go_wp2_with fail
                go_meet
                exact ⟨i, _, _, _, _, hi, hstop.out, by rw [HSE.out]; exact HSR.out, HTZ.out⟩
            have HNF := Lib.hid hfull
            clear hfull
            by_cases hcut : 0 ≤ cut ∧ cut - (t : Int) < (c : Int)
            · obtain ⟨hc0, hcl⟩ := hcut
              obtain ⟨mm, hmm⟩ : ∃ mm : Nat, (mm : Int) = cut - (t : Int) := ⟨(cut - (t : Int)).toNat, by have := HRB.out.2.1 hc0; have := HSR.out; omega⟩
              have HMC : Hid (mm < c) := Lib.hid (by omega)
              have HRC : Hid ((R : Int) = cut ∧ (mm : Int) = cut - (t : Int)) := Lib.hid ⟨by have := HRB.out; have := HNF.out; omega, hmm⟩
              have hstop : Hid (Fr.fit L R = i) := Lib.hid (by
                refine fit_stop L i R (R - t) hlt HFIT.out (by rw [HSE.out]; have := HSR.out; omega) ?_
                rw [HM.out, HCQ.out]
                have h1 := HRC.out.1
                have h2 := HSR.out
                omega)
              have HTM : Hid ((f.take mm).length = mm) := Lib.hid (by rw [List.length_take, HC.out]; have := HMC.out; omega)
              have HST : Hid (Fr.step (f.take mm) = .need) := Lib.hid (by
                have h := Fr.step_short (Fr.kb m.1) HOK.out.2.2 [] (c := mm) (by
                  have e : (Fr.enc (Fr.kb m.1) m.2).length = c := by rw [← HC.out, ← HF.out]; rfl
                  rw [e]; exact HMC.out)
                rw [List.append_nil, show Fr.enc (Fr.kb m.1) m.2 = f from HF.out] at h
                exact h)
              have HS2 : Hid ((Fr.stream (L.take i) ++ f.take mm).length ≤ R) := Lib.hid (by rw [List.length_append, HSE.out, HTM.out]; have := HRC.out; omega)
              have imc : (mm : Int) ≤ 100 := by have := HC100.out; have := HMC.out; omega
              clear hmm
              refine (tb_send_ok T1.out rfl N2.out rfl HBUD.out (by dsimp only; rw [HSE.out, HC.out]; have := HNF.out; omega) (by rw [HC.out]; have := HC10.out; omega) hcx (m := mm) (dn := true) (.inr ⟨rfl, hc0, by dsimp only; rw [HSE.out]; exact HRC.out.2, by rw [HC.out]; exact HMC.out⟩)).mono ?_
              rintro e w3 ⟨rfl, hT3⟩
              rw [if_pos rfl]
              have T3 := Lib.hid hT3
              clear hT3 hc0 hcl
              go_wp2_with fail
              refine (tb_recv T3.out (by dsimp only; rw [HTM.out]; omega)).mono ?_
              rintro e w4 ⟨rv, rfl, hT4, hbv4⟩
              obtain ⟨ra, rc, rfl, _⟩ := hbv4.get
              have T4 := Lib.hid hT4
              have V4 := Lib.hid hbv4
              clear hT4 hbv4
              dsimp only at V4 T4 ⊢
              rw [HTM.out] at V4 ⊢
              go_wp2_with fail
              refine (tb_feed T4.out V4.out (by rw [HTM.out, List.length_nil]; omega)).mono ?_
              rintro e w5 ⟨rfl, hT5⟩
              rw [List.nil_append] at hT5
              have T5 := Lib.hid hT5
              clear hT5
              go_wp2_with fail
              go_loopw [10] (fun s10 wr => s10 = .slice ga i gc ∧ TbI w wr bl bd ⟨Fr.stream (L.take i) ++ f.take mm, [], bud, cut, true⟩ (f.take mm) (.slice ga i gc) (L.take i)) (fun s10 _ => 100 - slen s10)
              case atStart => exact ⟨rfl, T5.out⟩
              case round =>
                obtain ⟨rfl, hT6⟩ := hrel
                have T6 := Lib.hid hT6
                clear hT6
                go_wp2_with fail
                refine (tb_next_need T6.out HG.out HST.out (by rw [HTM.out]; omega)).mono ?_
                rintro e w7 ⟨rfl, hT7⟩
                have HTZ : Hid (TbI w (w7.alloc (.cells #[.int .i64 0, .slice none 0 0] 32)) bl bd ⟨Fr.stream (L.take i) ++ f.take mm, [], bud, cut, true⟩ (f.take mm) (.slice ga i gc) (L.take i)) := Lib.hid (hT7.grow ((Below.refl _ _).alloc (Nat.le_refl _) _))
                clear hT7
                go_wp2_with fail
                go_meet
                exact ⟨i, _, _, _, _, hi, hstop.out, HS2.out, HTZ.out⟩
            · have HRC : Hid (t + c ≤ R) := Lib.hid (by have := HRB.out; have := HNF.out; omega)
              have harr : Hid (Lk.arr ⟨Fr.stream (L.take i), [], bud, cut, false⟩ f.length f.length false) := Lib.hid (.inl ⟨rfl, rfl, by dsimp only; rw [HSE.out, HC.out]; omega⟩)
              have htk : L.take (i + 1) = L.take i ++ [m] := by rw [List.take_succ_eq_append_getElem hlt, HM.out]
              have HTK := Lib.hid htk
              have HS1 : Hid (Fr.stream (L.take i) ++ f = Fr.stream (L.take (i + 1))) := Lib.hid (by rw [htk, Fr.stream_append, ← HF.out]; simp [Fr.stream])
              have hmore := fit_more L i R (R - t) hlt HFIT.out (by rw [HSE.out]; have := HSR.out; omega) (by rw [HM.out, HCQ.out]; have := HRC.out; omega)
              have HMORE := Lib.hid hmore.1
              have HS2 : Hid ((Fr.stream (L.take (i + 1))).length ≤ R) := Lib.hid (by rw [← HS1.out, List.length_append, HSE.out, HC.out]; exact HRC.out)
              have HST : Hid (Fr.step f = .msg (Fr.kb m.1) m.2 []) := Lib.hid (by
                have h := Fr.step_enc (Fr.kb m.1) HOK.out.2.2 []
                rw [List.append_nil, show Fr.enc (Fr.kb m.1) m.2 = f from HF.out] at h
                exact h)
              have HKB : Hid (((Fr.kb m.1).toNat : Int) = k) := Lib.hid (by rw [Fr.kb_toNat HOK.out.1 HOK.out.2.1, HK.out])
              have ic : (c : Int) ≤ 100 := by have := HC100.out; omega
              clear hmore htk
              refine (tb_send_ok T1.out rfl N2.out rfl HBUD.out (by dsimp only; rw [HSE.out, HC.out]; have := HNF.out; omega) (by rw [HC.out]; have := HC10.out; omega) hcx harr.out).mono ?_
              rintro e w3 ⟨rfl, hT3⟩
              rw [if_neg (by decide), HC.out]
              rw [List.take_length] at hT3
              dsimp only at hT3
              rw [HS1.out] at hT3
              have T3 := Lib.hid hT3
              clear hT3 hcut
              go_wp2_with fail
              refine (tb_recv T3.out (by dsimp only; rw [HC.out]; omega)).mono ?_
              rintro e w4 ⟨rv, rfl, hT4, hbv4⟩
              obtain ⟨ra, rc, rfl, _⟩ := hbv4.get
              have T4 := Lib.hid hT4
              have V4 := Lib.hid hbv4
              clear hT4 hbv4
              dsimp only at V4 T4 ⊢
              rw [HC.out] at V4 ⊢
              go_wp2_with fail
              refine (tb_feed T4.out V4.out (by rw [HC.out, List.length_nil]; omega)).mono ?_
              rintro e w5 ⟨rfl, hT5⟩
              rw [List.nil_append] at hT5
              have T5 := Lib.hid hT5
              clear hT5
              go_wp2_with fail
              go_loopw [10] (fun s10 wr => ∃ cur acc, ((cur = f ∧ acc = L.take i) ∨ (cur = [] ∧ acc = L.take (i + 1))) ∧ TbI w wr bl bd ⟨Fr.stream (L.take (i + 1)), [], bud, cut, false⟩ cur s10 acc) (fun s10 _ => 100 - slen s10)
              case atStart => exact ⟨f, _, .inl ⟨rfl, rfl⟩, T5.out⟩
              case round =>
                obtain ⟨cur, acc, hph, hT6⟩ := hrel
                rcases hph with ⟨rfl, rfl⟩ | ⟨rfl, rfl⟩
                · obtain ⟨qa, qc, rfl, _, _⟩ := hT6.shape
                  rw [HTL.out] at hT6 ⊢
                  have T6 := Lib.hid hT6
                  clear hT6
                  go_wp2_with fail
                  refine (tb_next_msg T6.out HG.out HST.out (by rw [HC.out]; omega)).mono ?_
                  rintro e w7 ⟨bv, rfl, hbv, hT7, hP7, hww⟩
                  rw [HKB.out]
                  unfold msgV
                  obtain ⟨xa, xc, rfl, _⟩ := hbv.get
                  obtain ⟨w8, hw8⟩ : ∃ w8, (w7.alloc (.cells #[.int .i64 k, .slice xa m.2.length xc] 32)).alloc (.cells #[.int .i64 k, .slice xa m.2.length xc] 32) = w8 := ⟨_, rfl⟩
                  have hb8 : Below w7.heap.size w7 w8 := by rw [← hw8]; exact ((Below.refl _ _).alloc (Nat.le_refl _) _).alloc (by simp) _
                  have hbl8 : w8.heap[w7.heap.size + 1]? = some (.cells #[.int .i64 k, .slice xa m.2.length xc] 32) := by
                    rw [← hw8]
                    have := heap_alloc_new (w7.alloc (.cells #[.int .i64 k, .slice xa m.2.length xc] 32)) (.cells #[.int .i64 k, .slice xa m.2.length xc] 32)
                    simpa using this
                  obtain ⟨vs, hr, hpush⟩ := tb_push (k := k) (body := m.2) hbv hT7.below hP7 T6.out.below.size hww hb8
                  rw [HTL.out] at hr
                  simp only [HTL.out] at hpush
                  have HPUSH : Hid (∀ (w5 : World) (g cap : Nat), w5.ownsRow 0 32 2 (.slice (some ⟨g, 0, none⟩) (i + 1) cap) (i + 1) (vs ++ [.int .i64 k, .slice xa m.2.length xc]) → w8.grownBy w5 (Value.slice qa i qc).ownBlock → ((Value.slice qa i qc).ownBlock = some g ∨ g = w8.heap.size) → g < w5.heap.size →
                      TbI w w5 bl bd ⟨Fr.stream (L.take (i + 1)), [], bud, cut, false⟩ [] (.slice (some ⟨g, 0, none⟩) (i + 1) cap) (L.take (i + 1))) := Lib.hid (fun w5 g cap h1 h2 h3 h4 => by
                    have h := hpush h1 h2 h3 h4
                    rw [show (k, m.2) = m from by rw [← HK.out], ← HTK.out] at h
                    exact h)
                  have HR8 := Lib.hid hr
                  have HB8 := Lib.hid hbl8
                  have ii : i ≤ 1000 := by omega
                  clear hbv hT7 hP7 hww hb8 hbl8 hr hpush
                  go_wp2_with (at_builtin; refine wpList_append_lies _ rfl (.tmp 128) (.tmp 130) 22 rfl 0 32 i0 _ 2 32 Tryd.underlying22 hi0 hz0 hz1' hz2' rfl (by omega) (.slice qa i qc) i vs (by rfl) HR8.out ⟨w7.heap.size + 1, 0, none⟩ 1 1 [.int .i64 k, .slice xa m.2.length xc] (by rfl) (by rfl) (World.news_of_block (cs := #[.int .i64 k, .slice xa m.2.length xc]) (t := 32) (fr := (0, 0)) HB8.out) (by simp [Value.oneCell']) (by omega) (by unfold maxLen; omega) (by omega) (by omega) w8.heap.size rfl ?_; intro gg cap w9 hown9 hg9 hat9 hlt9; have T9 := Lib.hid (HPUSH.out _ _ _ hown9 hg9 hat9 hlt9); clear hown9 hg9 hat9 hlt9)
                  refine ⟨⟨[], _, .inr ⟨rfl, rfl⟩, T9.out⟩, by simp [slen]; omega⟩
                · obtain ⟨qa, qc, rfl, _, _⟩ := hT6.shape
                  have htl1 : (L.take (i + 1)).length = i + 1 := by rw [List.length_take]; omega
                  rw [htl1] at hT6 ⊢
                  have T6 := Lib.hid hT6
                  clear hT6 htl1
                  go_wp2_with fail
                  refine (tb_next_need T6.out HG.out rfl (by simp)).mono ?_
                  rintro e w7 ⟨rfl, hT7⟩
                  have HTZ : Hid (TbI w (w7.alloc (.cells #[.int .i64 0, .slice none 0 0] 32)) bl bd ⟨Fr.stream (L.take (i + 1)), [], bud, cut, false⟩ [] (.slice qa (i + 1) qc) (L.take (i + 1))) := Lib.hid (hT7.grow ((Below.refl _ _).alloc (Nat.le_refl _) _))
                  clear hT7
                  go_wp2_with fail
                  go_roundw
                  case rel => exact ⟨i + 1, by omega, by go_num, HMORE.out, HS2.out, HTZ.out⟩
                  case measure => simp [intOf]; omega
          · have ige : ¬ (i : Int) < (L.length : Int) := by omega
            obtain ⟨t, ht⟩ : ∃ t, (Fr.stream (L.take i)).length = t := ⟨_, rfl⟩
            have HSE := Lib.hid ht
            have HSR : Hid (t ≤ R) := Lib.hid (by rw [← ht]; exact HSL.out)
            have HFITR : Hid (Fr.fit L R = i) := Lib.hid (by have h := HFIT.out; rw [List.take_of_length_le (by omega)] at h; exact h)
            have HTZ := HT
            clear ht
            go_wp2_with fail
            go_meet
            exact ⟨i, _, _, _, _, hi, HFITR.out, by rw [HSE.out]; exact HSR.out, HTZ.out⟩
      case rest =>
        obtain ⟨i, S, W, dn, dl, hi, hfit, hsr, hT⟩ := hcut
        have htl : (L.take i).length = i := by rw [List.length_take]; omega
        obtain ⟨ga, gc, rfl, gc1, gc2⟩ := hT.shape
        unfold maxLen at gc2
        rw [htl] at hT gc1 ⊢
        obtain ⟨t, ht⟩ : ∃ t, S.length = t := ⟨_, rfl⟩
        rw [ht] at hsr
        have HSE := Lib.hid ht
        have HSR := Lib.hid hsr
        have HTL := Lib.hid htl
        have HFITR := Lib.hid hfit
        have HTZ := Lib.hid hT
        clear ht hsr htl hfit hT T4 T5 HBW HBX
        obtain ⟨iR, iT⟩ : (t : Int) ≤ (R : Int) ∧ (R : Int) ≤ (bud : Int) := ⟨by have := HSR.out; omega, by have := HRB.out; omega⟩
        by_cases hc0 : 0 ≤ cut
        · have hmin : (if cut < (bud : Int) then cut else (bud : Int)) = (R : Int) := by
            have := HRB.out
            split <;> omega
          go_wp2_with fail
          refine (fit_any (HL.out.same (w' := _) (fun k hk => HTZ.out.below.block k hk)) (R : Int) (by have := HRB.out; have := HBUD.out; omega)).mono ?_
          rintro e wf ⟨rfl, hbf⟩
          rw [FitV_ok HALL.out, HFITR.out]
          have TF := Lib.hid (HTZ.out.grow hbf)
          clear hbf
          go_wp2_with fail
          refine (tb_sent0 TF.out).mono ?_
          rintro e w' ⟨rfl, rfl⟩
          dsimp only
          rw [HSE.out]
          go_wp2_with fail
          refine (tb_sent1 TF.out).mono ?_
          rintro e w' ⟨rfl, rfl⟩
          go_wp2_with fail
          refine (tb_left TF.out (by dsimp only; rw [HSE.out]; have := HRB.out; have := HBUD.out; omega) HBUD.out).mono ?_
          rintro e w' ⟨rfl, nL, rfl⟩
          dsimp only
          rw [HSE.out]
          have TG := Lib.hid (TF.out.grow (below_drewN2 (Below.refl wf.heap.size wf) nL))
          go_wp2_with fail
          generalize wf.drewN nL = wg at *
          go_loopw [171] (fun s wr => ∃ j : Nat, j ≤ i ∧ s = .int .i64 (j : Int) ∧ Below wg.heap.size wg wr) (fun s _ => i - (intOf s).toNat)
          case atStart => exact ⟨0, by omega, rfl, Below.refl _ _⟩
          case round =>
            obtain ⟨j, hj, rfl, hbz⟩ := hrel
            have HBZ := Lib.hid hbz
            have HBV := Lib.hid (TG.out.below.trans (hbz.mono TG.out.below.size))
            clear hbz
            by_cases hjl : j < i
            · have ij : (j : Int) < (i : Int) := by omega
              obtain ⟨_, _, e1, _, _, hget1⟩ := (TG.out.grow HBZ.out).msv.get
              rw [HTL.out] at e1
              obtain ⟨rfl, rfl⟩ : _ ∧ _ := by simpa using e1
              obtain ⟨gb, go, gx, rfl, _, g0, g1, gbv⟩ := hget1 j (by rw [HTL.out]; exact hjl)
              obtain ⟨_, _, e2, _, _, hget2⟩ := (HL.out.same (w' := wr) (fun k hk => HBV.out.block k hk)).get
              obtain ⟨rfl, rfl⟩ : _ ∧ _ := by simpa using e2
              obtain ⟨lb, lo, lx, rfl, _, l0, l1, lbv⟩ := hget2 j (by omega)
              rw [List.getElem_take] at g0 gbv
              obtain ⟨m, hm⟩ : ∃ m, L[j]'(by omega) = m := ⟨_, rfl⟩
              rw [hm] at g0 gbv l0 lbv
              obtain ⟨gxa, gxc, rfl, _⟩ := gbv.get
              obtain ⟨lxa, lxc, rfl, _⟩ := lbv.get
              have hv1 := fun n => (gbv.same (w' := wr.drewN n) (fun _ _ => rfl)).convS
              have hv2 := fun n => (lbv.same (w' := wr.drewN n) (fun _ _ => rfl)).convS
              have im2 : (j : Int) < (L.length : Int) := by omega
              obtain ⟨X, hX⟩ : ∃ X : ByteArray, (⟨m.2.toArray⟩ : ByteArray) = X := ⟨_, rfl⟩
              simp only [hX] at hv1 hv2
              obtain ⟨kk, hkk⟩ : ∃ kk, m.1 = kk := ⟨_, rfl⟩
              rw [hkk] at g0 l0
              clear hget1 hget2 e1 e2 gbv lbv hm hX hkk
              go_wp2_with fail
              go_quiet (fail)
              go_wp2_with fail
              go_roundw
              case rel => exact ⟨j + 1, by omega, by go_num, below_drewN2 HBZ.out _⟩
              case measure => simp [intOf]; omega
            · have ij : ¬ (j : Int) < (i : Int) := by omega
              go_wp2_with fail
              go_ret
              exact ⟨rfl, HBV.out⟩
        · have hcb : cut < 0 := by omega
          obtain rfl : bud = R := by have := HRB.out; omega
          clear hc0
          go_wp2_with fail
          refine (fit_any (HL.out.same (w' := _) (fun k hk => HTZ.out.below.block k hk)) (bud : Int) (by have := HRB.out; have := HBUD.out; omega)).mono ?_
          rintro e wf ⟨rfl, hbf⟩
          rw [FitV_ok HALL.out, HFITR.out]
          have TF := Lib.hid (HTZ.out.grow hbf)
          clear hbf
          go_wp2_with fail
          refine (tb_sent0 TF.out).mono ?_
          rintro e w' ⟨rfl, rfl⟩
          dsimp only
          rw [HSE.out]
          go_wp2_with fail
          refine (tb_sent1 TF.out).mono ?_
          rintro e w' ⟨rfl, rfl⟩
          go_wp2_with fail
          refine (tb_left TF.out (by dsimp only; rw [HSE.out]; have := HRB.out; have := HBUD.out; omega) HBUD.out).mono ?_
          rintro e w' ⟨rfl, nL, rfl⟩
          dsimp only
          rw [HSE.out]
          have TG := Lib.hid (TF.out.grow (below_drewN2 (Below.refl wf.heap.size wf) nL))
          go_wp2_with fail
          generalize wf.drewN nL = wg at *
          go_loopw [171] (fun s wr => ∃ j : Nat, j ≤ i ∧ s = .int .i64 (j : Int) ∧ Below wg.heap.size wg wr) (fun s _ => i - (intOf s).toNat)
          case atStart => exact ⟨0, by omega, rfl, Below.refl _ _⟩
          case round =>
            obtain ⟨j, hj, rfl, hbz⟩ := hrel
            have HBZ := Lib.hid hbz
            have HBV := Lib.hid (TG.out.below.trans (hbz.mono TG.out.below.size))
            clear hbz
            by_cases hjl : j < i
            · have ij : (j : Int) < (i : Int) := by omega
              obtain ⟨_, _, e1, _, _, hget1⟩ := (TG.out.grow HBZ.out).msv.get
              rw [HTL.out] at e1
              obtain ⟨rfl, rfl⟩ : _ ∧ _ := by simpa using e1
              obtain ⟨gb, go, gx, rfl, _, g0, g1, gbv⟩ := hget1 j (by rw [HTL.out]; exact hjl)
              obtain ⟨_, _, e2, _, _, hget2⟩ := (HL.out.same (w' := wr) (fun k hk => HBV.out.block k hk)).get
              obtain ⟨rfl, rfl⟩ : _ ∧ _ := by simpa using e2
              obtain ⟨lb, lo, lx, rfl, _, l0, l1, lbv⟩ := hget2 j (by omega)
              rw [List.getElem_take] at g0 gbv
              obtain ⟨m, hm⟩ : ∃ m, L[j]'(by omega) = m := ⟨_, rfl⟩
              rw [hm] at g0 gbv l0 lbv
              obtain ⟨gxa, gxc, rfl, _⟩ := gbv.get
              obtain ⟨lxa, lxc, rfl, _⟩ := lbv.get
              have hv1 := fun n => (gbv.same (w' := wr.drewN n) (fun _ _ => rfl)).convS
              have hv2 := fun n => (lbv.same (w' := wr.drewN n) (fun _ _ => rfl)).convS
              have im2 : (j : Int) < (L.length : Int) := by omega
              obtain ⟨X, hX⟩ : ∃ X : ByteArray, (⟨m.2.toArray⟩ : ByteArray) = X := ⟨_, rfl⟩
              simp only [hX] at hv1 hv2
              obtain ⟨kk, hkk⟩ : ∃ kk, m.1 = kk := ⟨_, rfl⟩
              rw [hkk] at g0 l0
              clear hget1 hget2 e1 e2 gbv lbv hm hX hkk
              go_wp2_with fail
              go_quiet (fail)
              go_wp2_with fail
              go_roundw
              case rel => exact ⟨j + 1, by omega, by go_num, below_drewN2 HBZ.out _⟩
              case measure => simp [intOf]; omega
            · have ij : ¬ (j : Int) < (i : Int) := by omega
              go_wp2_with fail
              go_ret
              exact ⟨rfl, HBV.out⟩
end Go.Proofs.YtggiinfeiilogaaDoor
