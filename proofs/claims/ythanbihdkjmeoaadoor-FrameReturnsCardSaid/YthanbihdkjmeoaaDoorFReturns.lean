/- The walk of FrameReturns. -/
import Derived.Test.YthanbihdkjmeoaaDoorFrU
import Derived.StillTailTactics
namespace Go.Proofs.YthanbihdkjmeoaaDoor
open Go.RowKit
set_option maxRecDepth 100000 in
set_option maxHeartbeats 1000000 in
theorem frameReturns_walk (w : World) (hg : Glob w) (lv : Value) (L : List Fr.Msg) (hl : MsV w (fun k => k < w.heap.size) lv L) (cut : Int) (_ : -9223372036854775808 ≤ cut) (_ : cut ≤ 9223372036854775807) :
    Calls Tryd.prog 6 #[lv, .int .i64 cut] w fun e w' => e = .returned (.bool true) ∧ Below w.heap.size w w' := by
  obtain ⟨la, lc, rfl, lc1, lc2, _⟩ := hl.get
  unfold maxLen at lc2
  have HG := Lib.hid hg
  have HL := Lib.hid hl
  clear hg hl
  go_enter Tryd.func6, Tryd.ntmps6
  go_wp2_with fail
  refine (awake37_any w HG.out).mono ?_
  rintro e w1 ⟨rfl, hb1⟩
  have B1 := Lib.hid hb1; clear hb1
  go_wp2_with fail
  refine (few_any (HL.out.same (w' := w1) (fun k hk => B1.out.block k hk))).mono ?_
  rintro e w2 ⟨⟨bb, rfl, hfew⟩, rfl⟩
  cases bb with
  | false =>
    go_wp2_with fail
    go_ret
    exact ⟨rfl, B1.out⟩
  | true =>
  have HFEW := Lib.hid (hfew rfl)
  clear hfew
  go_wp2_with fail
  have hGw1 := HG.out.below B1.out HG.out.lt
  refine (streamed_any (HL.out.same (w' := w1) (fun k hk => B1.out.block k hk)) (fun k hk => Nat.lt_of_lt_of_le hk B1.out.size) hGw1 (by have := HFEW.out.1; omega)).mono ?_
  rintro e w2 ⟨sv, bb, rfl, hb2, hok⟩
  have B2 := Lib.hid (B1.out.trans (hb2.mono B1.out.size))
  cases bb with
  | false =>
    clear hok hb2
    go_wp2_with fail
    go_ret
    exact ⟨rfl, B2.out⟩
  | true =>
  obtain ⟨hall, hN2⟩ := hok rfl
  have HALL := Lib.hid hall
  have N2 := Lib.hid (hN2.rebase B1.out B1.out.size)
  have hsl := stream_le L hall
  have hsb : (Fr.stream L).length ≤ 1000000 := by have := HFEW.out.1; omega
  obtain ⟨S, hS⟩ : ∃ S, Fr.stream L = S := ⟨_, rfl⟩
  rw [hS] at N2 hsb
  have HS := Lib.hid hS
  obtain ⟨sa, sc, rfl, hsc1, hsc2, hsn, hsad⟩ := N2.out.2.1.form
  unfold maxLen at hsc2
  have HSB := Lib.hid hsb
  clear hall hok hN2 hsl hS hb2 hGw1
  by_cases hc0 : cut < 0
  · clear hsn hsad
    go_wp2_with fail
    go_ret
    exact ⟨rfl, B2.out⟩
  obtain ⟨c, rfl⟩ := Int.eq_ofNat_of_zero_le (by omega : 0 ≤ cut)
  have ic0 : (0 : Int) ≤ (c : Int) := by omega
  clear hc0
  obtain ⟨n, hn⟩ : ∃ n, S.length = n := ⟨_, rfl⟩
  rw [hn] at hsb hsc1 ⊢
  have HN := Lib.hid hn
  by_cases hcn : n < c
  · have icn : (n : Int) < (c : Int) := by omega
    clear hsn hsad hn
    go_wp2_with fail
    go_ret
    exact ⟨rfl, B2.out⟩
  have icn : (c : Int) ≤ (n : Int) := by omega
  have icn2 : ¬ (n : Int) < (c : Int) := by omega
  have icn3 : (c : Int) ≤ (sc : Int) := by omega
  have icn4 : (n : Int) ≤ (sc : Int) := by omega
  have hV2 : BV w2 (fun k => k < w2.heap.size) (.slice sa n sc) S := by rw [← HN.out]; exact N2.out.bvs
  have V2 := Lib.hid hV2
  have HCN : Hid (c ≤ n) := Lib.hid (by omega)
  have hcases : (sa = none ∧ n = 0 ∧ c = 0 ∧ sc = 0) ∨ (∃ g, sa = some ⟨g, 0, none⟩ ∧ sc = c) ∨ (∃ g, sa = some ⟨g, 0, none⟩ ∧ ¬ sc = c) := by
    cases sa with
    | none =>
      have := hsn rfl
      have hn0 : n = 0 := by rw [← hn, this]; rfl
      obtain ⟨a', c', e, _, _, h0, _⟩ := hV2
      injection e with e1 e2 e3
      have := h0 e1.symm
      exact .inl ⟨rfl, hn0, by omega, by omega⟩
    | some ad =>
      obtain ⟨g, hg, _, _⟩ := hsad ad rfl
      by_cases h : sc = c
      · exact .inr (.inl ⟨g, by rw [hg], h⟩)
      · exact .inr (.inr ⟨g, by rw [hg], h⟩)
  clear hsn hsad hn hV2 hcn
  rcases hcases with ⟨rfl, rfl, rfl, rfl⟩ | ⟨g, rfl, rfl⟩ | ⟨g, rfl, hne⟩
  · clear icn2
    go_wp2_with fail
    refine (newdec_any w2).mono ?_
    rintro e w4 ⟨rfl, hb4, hD4⟩
    have hwb := B2.out.size
    have hF4 : From w.heap.size (fun k => w2.heap.size ≤ k ∧ k < w4.heap.size) := fun k hk => Nat.le_trans hwb hk.1
    have hF4' : From w2.heap.size (fun k => w2.heap.size ≤ k ∧ k < w4.heap.size) := fun k hk => hk.1
    have hbb4 : Below w2.heap.size w2 w4 := hb4
    obtain ⟨b, hbq⟩ : ∃ b, w2.heap.size = b := ⟨_, rfl⟩
    generalize (fun k => w2.heap.size ≤ k ∧ k < w4.heap.size) = F4 at *
    rw [hbq] at hD4 ⊢
    have D4 := Lib.hid hD4
    have FR4 := Lib.hid hF4
    have FS4 := Lib.hid hF4'
    have BB4 := Lib.hid hbb4
    clear hb4 hD4 hF4 hF4' hbb4 hbq
    go_wp2_with fail
    have X4 : BV w4 (fun k => k < w2.heap.size) (.slice none 0 0) (S.take 0) := BV.take (V2.out.same (w' := w4) (fun k hk => BB4.out.block k hk)) HCN.out
    refine (feed_any D4.out X4 (by simp only [Fr.D.pend, List.length_nil, List.length_take]; omega)).mono ?_
    rintro e w5 ⟨rfl, hst5, hD5⟩
    have BB5 := Lib.hid (BB4.out.trans (hst5.below FS4.out BB4.out.size))
    have FR5 := Lib.hid (Plus.froms (w := w4) (w' := w5) FR4.out (Nat.le_trans hwb BB4.out.size))
    have FS5 := Lib.hid (Plus.froms (w := w4) (w' := w5) FS4.out BB4.out.size)
    have hD5' : DecAt w5 b (Plus F4 w4 w5) (.live (S.take 0)) := hD5
    generalize Plus F4 w4 w5 = F5 at *
    have D5 := Lib.hid hD5'
    clear hst5 hD5 hD5' X4
    have hG2 : Glob w2 := HG.out.below B2.out HG.out.lt
    have HG2 := Lib.hid hG2
    clear hG2
    have HGF5 : Hid (From (1 + 1) F5) := Lib.hid (fun k hk => by have := FR5.out k hk; have := HG.out.lt; omega)
    go_wp2_with fail
    refine (drained_any D5.out (HG2.out.below BB5.out (by have := HG.out.lt; have := B2.out.size; omega)) HGF5.out (by rw [List.length_take]; have := HN.out; omega)).mono ?_
    rintro e w6 ⟨ms, d, gv, er, rfl, hdr, hst6, hD6, hM6, _, her⟩
    have BB6 := Lib.hid (BB5.out.trans (hst6.below FS5.out BB5.out.size))
    obtain ⟨hms, rest, hd, hrest⟩ := Fr.drains_take L 0 HALL.out (by rw [HS.out]; have := HN.out; have := HCN.out; omega) (by rw [HS.out]; exact hdr)
    rw [HS.out] at hrest
    subst hd
    have her0 : er = 0 := by rcases her with ⟨h, _⟩ | ⟨_, n', h⟩; exact h; cases h
    subst her0
    obtain ⟨q, hq⟩ : ∃ q, Fr.fit L 0 = q := ⟨_, rfl⟩
    rw [hq] at hms hrest
    have hqL : q ≤ L.length := by rw [← hq]; exact Fr.fit_le L 0
    have hmq : ms.length = q := by rw [hms, List.length_take]; omega
    have M6 := Lib.hid hM6
    have D6 := Lib.hid hD6
    have HMS := Lib.hid hms
    have HREST := Lib.hid hrest
    have HQ := Lib.hid hq
    obtain ⟨ga, gc, rfl, gc1, gc2⟩ := hM6.shape
    unfold maxLen at gc2
    rw [hmq] at M6 ⊢
    rw [hmq] at gc1
    have HMQ := Lib.hid hmq
    have hB6 := B2.out.trans (BB6.out.mono hwb)
    have B6 := Lib.hid hB6
    clear hdr hst6 hD6 hM6 her hms hrest hq hmq hB6
    go_wp2_with fail
    refine (fit_any (HL.out.same (w' := w6) (fun k hk => B6.out.block k hk)) ((0 : Nat) : Int) (by omega)).mono ?_
    rintro e w7 ⟨rfl, hb7⟩
    rw [FitV_ok HALL.out, HQ.out]
    have BB7 := Lib.hid (BB6.out.trans (hb7.mono BB6.out.size))
    have B7 := Lib.hid (B6.out.trans (hb7.mono B6.out.size))
    have M7 := Lib.hid (M6.out.grow hb7)
    have D7 := Lib.hid (D6.out.grow hb7)
    clear hb7
    go_wp2_with fail
    have X7 : BV w7 (fun k => k < w2.heap.size) (.slice none (0 - 0) (0 - 0)) (S.drop 0) := (V2.out.same (w' := w7) (fun k hk => BB7.out.block k hk))
    have hrl : rest.length + (S.drop 0).length ≤ 1000000 := by
      have := congrArg List.length HREST.out
      rw [List.length_append] at this
      have e1 : (Fr.stream (L.drop q)).length ≤ (Fr.stream L).length := by
        conv => rhs; rw [← List.take_append_drop q L, Fr.stream_append, List.length_append]
        omega
      rw [HS.out] at e1
      have := HSB.out
      omega
    refine (feed_any D7.out X7 (by simp only [Fr.D.pend]; omega)).mono ?_
    rintro e w8 ⟨rfl, hst8, hD8⟩
    have BB8 := Lib.hid (BB7.out.trans (hst8.below FS5.out BB7.out.size))
    have FR8 := Lib.hid (Plus.froms (w := w7) (w' := w8) FR5.out (Nat.le_trans hwb BB7.out.size))
    have FS8 := Lib.hid (Plus.froms (w := w7) (w' := w8) FS5.out BB7.out.size)
    have hD8' : DecAt w8 b (Plus F5 w7 w8) (.live (Fr.stream (L.drop q))) := by rw [← HREST.out]; exact hD8
    have M8 : Hid (MsO w5.heap.size w8 (.slice ga q gc) ms) := Lib.hid (M7.out.stp (fun k hk => D5.out.2.1 k hk) hst8)
    have HF5b : Hid (∀ k, Plus F5 w7 w8 k → k < w5.heap.size ∨ w7.heap.size ≤ k) := Lib.hid (fun k hk => by rcases hk with hk | hk; exact .inl (D5.out.2.1 k hk); exact .inr hk.1)
    have HM7lt : Hid (∀ g, (Value.slice ga q gc).ownBlock = some g → g < w7.heap.size) := Lib.hid M7.out.lt
    have HST8 := Lib.hid hst8
    have D8 := Lib.hid hD8'
    clear hst8 hD8 hD8' X7 hrl
    generalize Plus F5 w7 w8 = F8 at *
    have HGF8 : Hid (From (1 + 1) F8) := Lib.hid (fun k hk => by have := FR8.out k hk; have := HG.out.lt; omega)
    have hsr : (Fr.stream (L.drop q)).length ≤ 1000000 := by
      have e1 : (Fr.stream (L.drop q)).length ≤ (Fr.stream L).length := by
        conv => rhs; rw [← List.take_append_drop q L, Fr.stream_append, List.length_append]
        omega
      rw [HS.out] at e1
      have := HSB.out
      omega
    go_wp2_with fail
    refine (drained_any D8.out (HG2.out.below BB8.out (by have := HG.out.lt; have := B2.out.size; omega)) HGF8.out (by omega)).mono ?_
    rintro e w9 ⟨ms2, d2, gv2, er2, rfl, hdr2, hst9, hD9, hM9, _, her2⟩
    have hdr2' : Fr.Drains (Fr.stream (L.drop q) ++ []) ms2 d2 := by rw [List.append_nil]; exact hdr2
    obtain ⟨ms3, hms2, hdr3⟩ := Fr.Drains.stream (L.drop q) (fun m hm => HALL.out m (List.mem_of_mem_drop hm)) hdr2'
    obtain ⟨rfl, hd2⟩ := hdr3.of_need Fr.step_nil
    rw [List.append_nil] at hms2
    subst hd2
    have her0 : er2 = 0 := by rcases her2 with ⟨h, _⟩ | ⟨_, n', h⟩; exact h; cases h
    subst her0
    have BB9 := Lib.hid (BB8.out.trans (hst9.below FS8.out BB8.out.size))
    have D9 := Lib.hid hD9
    have M9a : Hid (MsO w5.heap.size w9 (.slice ga q gc) ms) := Lib.hid (M7.out.same (fun k hk => (hst9.keep k (Nat.lt_of_lt_of_le hk.2 HST8.out.size) (fun e => by have := HF5b.out k e; omega)).trans (HST8.out.keep k hk.2 (fun e => by have := D5.out.2.1 k e; omega))) (Nat.le_trans HST8.out.size hst9.size))
    have hz78 := HST8.out.size
    have hz89 := hst9.size
    have hz57 : w5.heap.size ≤ w7.heap.size := by obtain ⟨_, _, _, h, _⟩ := M7.out; exact h
    obtain ⟨ha, hc, rfl, hc1, hc2⟩ := hM9.shape
    unfold maxLen at hc2
    have Y9 := Lib.hid hM9.msv
    have hms2l : ms2.length = L.length - q := by rw [hms2, List.length_drop]
    have HGG : Hid (∀ k, (w8.heap.size ≤ k ∧ k < w9.heap.size) → w5.heap.size ≤ k ∧ k < w9.heap.size ∧ (Value.slice ga q gc).ownBlock ≠ some k) := Lib.hid (fun k hk => ⟨by omega, hk.2, fun e => by have := HM7lt.out k e; omega⟩)
    have HDJ : Hid (∀ k, F8 k → (Value.slice ga q gc).ownBlock ≠ some k) := Lib.hid (fun k hk e => by
      have h1 := HM7lt.out k e
      have h2 := HF5b.out k hk
      obtain ⟨_, _, h3, _⟩ := M7.out
      have := h3 k e
      omega)
    have HMS2 := Lib.hid hms2
    have HLB : Hid (ms.length + ms2.length ≤ 1000000000 ∧ ms.length + ms2.length = L.length) := Lib.hid (by have := HFEW.out.1; have := HMQ.out; omega)
    clear hdr2 hdr2' hst9 hD9 hM9 her2 hms2 hdr3 hz78 hz89 hz57 hms2l
    obtain ⟨m2, hm2⟩ : ∃ m2, ms2.length = m2 := ⟨_, rfl⟩
    rw [hm2] at HLB hc1 Y9 ⊢
    have HM2 := Lib.hid hm2
    clear hm2
    go_wp2_with (at_builtin; refine wpList_append_ms rfl (.tmp 76) (.tmp 77) rfl (.slice ga q gc) (.slice ha m2 hc) (by rfl) (by rfl) M9a.out Y9.out HGG.out (by rw [HM2.out]; exact HLB.out.1) ?_; intro a10 c10 w10 hM10 hg10; rw [HM2.out, HLB.out.2] at hM10 ⊢; have M10 := Lib.hid hM10; have HG10 := Lib.hid hg10; clear hM10 hg10)
    have hall10 : ms ++ ms2 = L := by rw [HMS.out, HMS2.out, List.take_append_drop]
    rw [hall10] at M10
    have D10 : Hid (DecAt w10 b F8 (.live [])) := Lib.hid (D9.out.same (fun k hk => HG10.out.block k (D9.out.2.1 k hk) (fun e => HDJ.out k hk e.symm)) HG10.out.size)
    have BB10 : Hid (Below w2.heap.size w2 w10) := Lib.hid (by
      have st : Stp (fun y => (Value.slice ga q gc).ownBlock = some y) w9 w10 := (Stp.refl _ _).grown HG10.out (fun x hx => .inl hx)
      refine BB9.out.trans (st.below (fun y hy => ?_) BB9.out.size)
      obtain ⟨_, _, h3, _⟩ := M7.out
      have h4 := h3 y hy
      have h5 := BB5.out.size
      omega)
    refine (pend_any D10.out (by decide)).mono ?_
    rintro e w11 ⟨rfl, nq, rfl⟩
    have B11 : Hid (Below w.heap.size w (w10.drewN nq)) := Lib.hid (B2.out.trans ((below_drewN2 BB10.out nq).mono hwb))
    have M11 : Hid (MsV (w10.drewN nq) (fun k => w5.heap.size ≤ k ∧ k < w10.heap.size) (.slice a10 L.length c10) L) := Lib.hid M10.out.msv
    generalize w10.drewN nq = w11 at *
    have L11 := Lib.hid (HL.out.same (w' := w11) (fun k hk => B11.out.block k hk))
    rw [show (((Fr.D.live []).pend : Nat) : Int) = 0 from rfl]
    have ill : ((L.length : Int) != (L.length : Int)) = false := by simp
    have hc101 : L.length ≤ c10 ∧ c10 ≤ 9223372036854775807 := by
      obtain ⟨a', c', e, h1, h2⟩ := M10.out.shape
      injection e with e1 e2 e3
      unfold maxLen at h2
      omega
    obtain ⟨hc101, hc102⟩ := hc101
    go_wp2_with fail
    go_loopw [14] (fun s wz => ∃ j : Nat, j ≤ L.length ∧ s = .int .i64 (j : Int) ∧ Below w11.heap.size w11 wz) (fun s _ => L.length - (intOf s).toNat)
    case atStart => exact ⟨0, by omega, rfl, Below.refl _ _⟩
    case round =>
      obtain ⟨j, hj, rfl, hbz⟩ := hrel
      have HBZ := Lib.hid hbz
      clear hbz
      by_cases hjl : j < L.length
      · have ij : (j : Int) < (L.length : Int) := by omega
        obtain ⟨_, _, e1, _, _, hget1⟩ := (M11.out.grow HBZ.out).get
        obtain ⟨rfl, rfl⟩ : _ ∧ _ := by simpa using e1
        obtain ⟨gb, go, gx, rfl, _, g0, g1, gbv⟩ := hget1 j (by omega)
        obtain ⟨_, _, e2, _, _, hget2⟩ := (L11.out.grow HBZ.out).get
        obtain ⟨rfl, rfl⟩ : _ ∧ _ := by simpa using e2
        obtain ⟨lb, lo, lx, rfl, _, l0, l1, lbv⟩ := hget2 j (by omega)
        obtain ⟨m, hm⟩ : ∃ m, L[j]'(by omega) = m := ⟨_, rfl⟩
        rw [hm] at g0 gbv l0 lbv
        obtain ⟨gxa, gxc, rfl, _⟩ := gbv.get
        obtain ⟨lxa, lxc, rfl, _⟩ := lbv.get
        have GBV := Lib.hid gbv
        have LBV := Lib.hid lbv
        clear hget1 hget2 e1 e2 gbv lbv hm
        go_wp2_with fail
        go_still_tail 8, (by kernel_rfl)
        go_wp2_with fail
        refine (msame_is (show BV wr.drew _ _ _ from GBV.out) (show BV wr.drew _ _ _ from LBV.out)).mono ?_
        rintro e w20 ⟨rfl, hb20⟩
        have HB20 := Lib.hid (HBZ.out.trans ((show Below wr.heap.size wr w20 from ⟨hb20.1, hb20.2, hb20.3, hb20.4, hb20.5⟩).mono HBZ.out.size))
        clear hb20
        go_wp2_with fail
        go_roundw
        case rel => exact ⟨j + 1, by omega, by go_num, HB20.out⟩
        case measure => simp [intOf]; omega
      · have ij : ¬ (j : Int) < (L.length : Int) := by omega
        go_wp2_with fail
        go_ret
        exact ⟨rfl, B11.out.trans (HBZ.out.mono B11.out.size)⟩
  · clear icn2
    go_wp2_with fail
    refine (newdec_any w2).mono ?_
    rintro e w4 ⟨rfl, hb4, hD4⟩
    have hwb := B2.out.size
    have hF4 : From w.heap.size (fun k => w2.heap.size ≤ k ∧ k < w4.heap.size) := fun k hk => Nat.le_trans hwb hk.1
    have hF4' : From w2.heap.size (fun k => w2.heap.size ≤ k ∧ k < w4.heap.size) := fun k hk => hk.1
    have hbb4 : Below w2.heap.size w2 w4 := hb4
    obtain ⟨b, hbq⟩ : ∃ b, w2.heap.size = b := ⟨_, rfl⟩
    generalize (fun k => w2.heap.size ≤ k ∧ k < w4.heap.size) = F4 at *
    rw [hbq] at hD4 ⊢
    have D4 := Lib.hid hD4
    have FR4 := Lib.hid hF4
    have FS4 := Lib.hid hF4'
    have BB4 := Lib.hid hbb4
    clear hb4 hD4 hF4 hF4' hbb4 hbq
    go_wp2_with fail
    have X4 : BV w4 (fun k => k < w2.heap.size) (.slice (some ⟨g, 0, none⟩) sc sc) (S.take sc) := BV.take (V2.out.same (w' := w4) (fun k hk => BB4.out.block k hk)) HCN.out
    refine (feed_any D4.out X4 (by simp only [Fr.D.pend, List.length_nil, List.length_take]; omega)).mono ?_
    rintro e w5 ⟨rfl, hst5, hD5⟩
    have BB5 := Lib.hid (BB4.out.trans (hst5.below FS4.out BB4.out.size))
    have FR5 := Lib.hid (Plus.froms (w := w4) (w' := w5) FR4.out (Nat.le_trans hwb BB4.out.size))
    have FS5 := Lib.hid (Plus.froms (w := w4) (w' := w5) FS4.out BB4.out.size)
    have hD5' : DecAt w5 b (Plus F4 w4 w5) (.live (S.take sc)) := hD5
    generalize Plus F4 w4 w5 = F5 at *
    have D5 := Lib.hid hD5'
    clear hst5 hD5 hD5' X4
    have hG2 : Glob w2 := HG.out.below B2.out HG.out.lt
    have HG2 := Lib.hid hG2
    clear hG2
    have HGF5 : Hid (From (1 + 1) F5) := Lib.hid (fun k hk => by have := FR5.out k hk; have := HG.out.lt; omega)
    go_wp2_with fail
    refine (drained_any D5.out (HG2.out.below BB5.out (by have := HG.out.lt; have := B2.out.size; omega)) HGF5.out (by rw [List.length_take]; have := HN.out; omega)).mono ?_
    rintro e w6 ⟨ms, d, gv, er, rfl, hdr, hst6, hD6, hM6, _, her⟩
    have BB6 := Lib.hid (BB5.out.trans (hst6.below FS5.out BB5.out.size))
    obtain ⟨hms, rest, hd, hrest⟩ := Fr.drains_take L sc HALL.out (by rw [HS.out]; have := HN.out; have := HCN.out; omega) (by rw [HS.out]; exact hdr)
    rw [HS.out] at hrest
    subst hd
    have her0 : er = 0 := by rcases her with ⟨h, _⟩ | ⟨_, n', h⟩; exact h; cases h
    subst her0
    obtain ⟨q, hq⟩ : ∃ q, Fr.fit L sc = q := ⟨_, rfl⟩
    rw [hq] at hms hrest
    have hqL : q ≤ L.length := by rw [← hq]; exact Fr.fit_le L sc
    have hmq : ms.length = q := by rw [hms, List.length_take]; omega
    have M6 := Lib.hid hM6
    have D6 := Lib.hid hD6
    have HMS := Lib.hid hms
    have HREST := Lib.hid hrest
    have HQ := Lib.hid hq
    obtain ⟨ga, gc, rfl, gc1, gc2⟩ := hM6.shape
    unfold maxLen at gc2
    rw [hmq] at M6 ⊢
    rw [hmq] at gc1
    have HMQ := Lib.hid hmq
    have hB6 := B2.out.trans (BB6.out.mono hwb)
    have B6 := Lib.hid hB6
    clear hdr hst6 hD6 hM6 her hms hrest hq hmq hB6
    go_wp2_with fail
    refine (fit_any (HL.out.same (w' := w6) (fun k hk => B6.out.block k hk)) ((sc : Nat) : Int) (by omega)).mono ?_
    rintro e w7 ⟨rfl, hb7⟩
    rw [FitV_ok HALL.out, HQ.out]
    have BB7 := Lib.hid (BB6.out.trans (hb7.mono BB6.out.size))
    have B7 := Lib.hid (B6.out.trans (hb7.mono B6.out.size))
    have M7 := Lib.hid (M6.out.grow hb7)
    have D7 := Lib.hid (D6.out.grow hb7)
    clear hb7
    go_wp2_with fail
    have X7 : BV w7 (fun k => k < w2.heap.size) (.slice (some ⟨g, 0, none⟩) 0 0) (S.drop sc) := (by have e : n - sc = 0 := (by omega); have := ((V2.out.same (w' := w7) (fun k hk => BB7.out.block k hk)).from HN.out HCN.out).1 rfl; rwa [Nat.sub_self, e] at this)
    have hrl : rest.length + (S.drop sc).length ≤ 1000000 := by
      have := congrArg List.length HREST.out
      rw [List.length_append] at this
      have e1 : (Fr.stream (L.drop q)).length ≤ (Fr.stream L).length := by
        conv => rhs; rw [← List.take_append_drop q L, Fr.stream_append, List.length_append]
        omega
      rw [HS.out] at e1
      have := HSB.out
      omega
    refine (feed_any D7.out X7 (by simp only [Fr.D.pend]; omega)).mono ?_
    rintro e w8 ⟨rfl, hst8, hD8⟩
    have BB8 := Lib.hid (BB7.out.trans (hst8.below FS5.out BB7.out.size))
    have FR8 := Lib.hid (Plus.froms (w := w7) (w' := w8) FR5.out (Nat.le_trans hwb BB7.out.size))
    have FS8 := Lib.hid (Plus.froms (w := w7) (w' := w8) FS5.out BB7.out.size)
    have hD8' : DecAt w8 b (Plus F5 w7 w8) (.live (Fr.stream (L.drop q))) := by rw [← HREST.out]; exact hD8
    have M8 : Hid (MsO w5.heap.size w8 (.slice ga q gc) ms) := Lib.hid (M7.out.stp (fun k hk => D5.out.2.1 k hk) hst8)
    have HF5b : Hid (∀ k, Plus F5 w7 w8 k → k < w5.heap.size ∨ w7.heap.size ≤ k) := Lib.hid (fun k hk => by rcases hk with hk | hk; exact .inl (D5.out.2.1 k hk); exact .inr hk.1)
    have HM7lt : Hid (∀ g, (Value.slice ga q gc).ownBlock = some g → g < w7.heap.size) := Lib.hid M7.out.lt
    have HST8 := Lib.hid hst8
    have D8 := Lib.hid hD8'
    clear hst8 hD8 hD8' X7 hrl
    generalize Plus F5 w7 w8 = F8 at *
    have HGF8 : Hid (From (1 + 1) F8) := Lib.hid (fun k hk => by have := FR8.out k hk; have := HG.out.lt; omega)
    have hsr : (Fr.stream (L.drop q)).length ≤ 1000000 := by
      have e1 : (Fr.stream (L.drop q)).length ≤ (Fr.stream L).length := by
        conv => rhs; rw [← List.take_append_drop q L, Fr.stream_append, List.length_append]
        omega
      rw [HS.out] at e1
      have := HSB.out
      omega
    go_wp2_with fail
    refine (drained_any D8.out (HG2.out.below BB8.out (by have := HG.out.lt; have := B2.out.size; omega)) HGF8.out (by omega)).mono ?_
    rintro e w9 ⟨ms2, d2, gv2, er2, rfl, hdr2, hst9, hD9, hM9, _, her2⟩
    have hdr2' : Fr.Drains (Fr.stream (L.drop q) ++ []) ms2 d2 := by rw [List.append_nil]; exact hdr2
    obtain ⟨ms3, hms2, hdr3⟩ := Fr.Drains.stream (L.drop q) (fun m hm => HALL.out m (List.mem_of_mem_drop hm)) hdr2'
    obtain ⟨rfl, hd2⟩ := hdr3.of_need Fr.step_nil
    rw [List.append_nil] at hms2
    subst hd2
    have her0 : er2 = 0 := by rcases her2 with ⟨h, _⟩ | ⟨_, n', h⟩; exact h; cases h
    subst her0
    have BB9 := Lib.hid (BB8.out.trans (hst9.below FS8.out BB8.out.size))
    have D9 := Lib.hid hD9
    have M9a : Hid (MsO w5.heap.size w9 (.slice ga q gc) ms) := Lib.hid (M7.out.same (fun k hk => (hst9.keep k (Nat.lt_of_lt_of_le hk.2 HST8.out.size) (fun e => by have := HF5b.out k e; omega)).trans (HST8.out.keep k hk.2 (fun e => by have := D5.out.2.1 k e; omega))) (Nat.le_trans HST8.out.size hst9.size))
    have hz78 := HST8.out.size
    have hz89 := hst9.size
    have hz57 : w5.heap.size ≤ w7.heap.size := by obtain ⟨_, _, _, h, _⟩ := M7.out; exact h
    obtain ⟨ha, hc, rfl, hc1, hc2⟩ := hM9.shape
    unfold maxLen at hc2
    have Y9 := Lib.hid hM9.msv
    have hms2l : ms2.length = L.length - q := by rw [hms2, List.length_drop]
    have HGG : Hid (∀ k, (w8.heap.size ≤ k ∧ k < w9.heap.size) → w5.heap.size ≤ k ∧ k < w9.heap.size ∧ (Value.slice ga q gc).ownBlock ≠ some k) := Lib.hid (fun k hk => ⟨by omega, hk.2, fun e => by have := HM7lt.out k e; omega⟩)
    have HDJ : Hid (∀ k, F8 k → (Value.slice ga q gc).ownBlock ≠ some k) := Lib.hid (fun k hk e => by
      have h1 := HM7lt.out k e
      have h2 := HF5b.out k hk
      obtain ⟨_, _, h3, _⟩ := M7.out
      have := h3 k e
      omega)
    have HMS2 := Lib.hid hms2
    have HLB : Hid (ms.length + ms2.length ≤ 1000000000 ∧ ms.length + ms2.length = L.length) := Lib.hid (by have := HFEW.out.1; have := HMQ.out; omega)
    clear hdr2 hdr2' hst9 hD9 hM9 her2 hms2 hdr3 hz78 hz89 hz57 hms2l
    obtain ⟨m2, hm2⟩ : ∃ m2, ms2.length = m2 := ⟨_, rfl⟩
    rw [hm2] at HLB hc1 Y9 ⊢
    have HM2 := Lib.hid hm2
    clear hm2
    go_wp2_with (at_builtin; refine wpList_append_ms rfl (.tmp 76) (.tmp 77) rfl (.slice ga q gc) (.slice ha m2 hc) (by rfl) (by rfl) M9a.out Y9.out HGG.out (by rw [HM2.out]; exact HLB.out.1) ?_; intro a10 c10 w10 hM10 hg10; rw [HM2.out, HLB.out.2] at hM10 ⊢; have M10 := Lib.hid hM10; have HG10 := Lib.hid hg10; clear hM10 hg10)
    have hall10 : ms ++ ms2 = L := by rw [HMS.out, HMS2.out, List.take_append_drop]
    rw [hall10] at M10
    have D10 : Hid (DecAt w10 b F8 (.live [])) := Lib.hid (D9.out.same (fun k hk => HG10.out.block k (D9.out.2.1 k hk) (fun e => HDJ.out k hk e.symm)) HG10.out.size)
    have BB10 : Hid (Below w2.heap.size w2 w10) := Lib.hid (by
      have st : Stp (fun y => (Value.slice ga q gc).ownBlock = some y) w9 w10 := (Stp.refl _ _).grown HG10.out (fun x hx => .inl hx)
      refine BB9.out.trans (st.below (fun y hy => ?_) BB9.out.size)
      obtain ⟨_, _, h3, _⟩ := M7.out
      have h4 := h3 y hy
      have h5 := BB5.out.size
      omega)
    refine (pend_any D10.out (by decide)).mono ?_
    rintro e w11 ⟨rfl, nq, rfl⟩
    have B11 : Hid (Below w.heap.size w (w10.drewN nq)) := Lib.hid (B2.out.trans ((below_drewN2 BB10.out nq).mono hwb))
    have M11 : Hid (MsV (w10.drewN nq) (fun k => w5.heap.size ≤ k ∧ k < w10.heap.size) (.slice a10 L.length c10) L) := Lib.hid M10.out.msv
    generalize w10.drewN nq = w11 at *
    have L11 := Lib.hid (HL.out.same (w' := w11) (fun k hk => B11.out.block k hk))
    rw [show (((Fr.D.live []).pend : Nat) : Int) = 0 from rfl]
    have ill : ((L.length : Int) != (L.length : Int)) = false := by simp
    have hc101 : L.length ≤ c10 ∧ c10 ≤ 9223372036854775807 := by
      obtain ⟨a', c', e, h1, h2⟩ := M10.out.shape
      injection e with e1 e2 e3
      unfold maxLen at h2
      omega
    obtain ⟨hc101, hc102⟩ := hc101
    go_wp2_with fail
    go_loopw [14] (fun s wz => ∃ j : Nat, j ≤ L.length ∧ s = .int .i64 (j : Int) ∧ Below w11.heap.size w11 wz) (fun s _ => L.length - (intOf s).toNat)
    case atStart => exact ⟨0, by omega, rfl, Below.refl _ _⟩
    case round =>
      obtain ⟨j, hj, rfl, hbz⟩ := hrel
      have HBZ := Lib.hid hbz
      clear hbz
      by_cases hjl : j < L.length
      · have ij : (j : Int) < (L.length : Int) := by omega
        obtain ⟨_, _, e1, _, _, hget1⟩ := (M11.out.grow HBZ.out).get
        obtain ⟨rfl, rfl⟩ : _ ∧ _ := by simpa using e1
        obtain ⟨gb, go, gx, rfl, _, g0, g1, gbv⟩ := hget1 j (by omega)
        obtain ⟨_, _, e2, _, _, hget2⟩ := (L11.out.grow HBZ.out).get
        obtain ⟨rfl, rfl⟩ : _ ∧ _ := by simpa using e2
        obtain ⟨lb, lo, lx, rfl, _, l0, l1, lbv⟩ := hget2 j (by omega)
        obtain ⟨m, hm⟩ : ∃ m, L[j]'(by omega) = m := ⟨_, rfl⟩
        rw [hm] at g0 gbv l0 lbv
        obtain ⟨gxa, gxc, rfl, _⟩ := gbv.get
        obtain ⟨lxa, lxc, rfl, _⟩ := lbv.get
        have GBV := Lib.hid gbv
        have LBV := Lib.hid lbv
        clear hget1 hget2 e1 e2 gbv lbv hm
        go_wp2_with fail
        go_still_tail 8, (by kernel_rfl)
        go_wp2_with fail
        refine (msame_is (show BV wr.drew _ _ _ from GBV.out) (show BV wr.drew _ _ _ from LBV.out)).mono ?_
        rintro e w20 ⟨rfl, hb20⟩
        have HB20 := Lib.hid (HBZ.out.trans ((show Below wr.heap.size wr w20 from ⟨hb20.1, hb20.2, hb20.3, hb20.4, hb20.5⟩).mono HBZ.out.size))
        clear hb20
        go_wp2_with fail
        go_roundw
        case rel => exact ⟨j + 1, by omega, by go_num, HB20.out⟩
        case measure => simp [intOf]; omega
      · have ij : ¬ (j : Int) < (L.length : Int) := by omega
        go_wp2_with fail
        go_ret
        exact ⟨rfl, B11.out.trans (HBZ.out.mono B11.out.size)⟩
  · clear icn2
    go_wp2_with fail
    refine (newdec_any w2).mono ?_
    rintro e w4 ⟨rfl, hb4, hD4⟩
    have hwb := B2.out.size
    have hF4 : From w.heap.size (fun k => w2.heap.size ≤ k ∧ k < w4.heap.size) := fun k hk => Nat.le_trans hwb hk.1
    have hF4' : From w2.heap.size (fun k => w2.heap.size ≤ k ∧ k < w4.heap.size) := fun k hk => hk.1
    have hbb4 : Below w2.heap.size w2 w4 := hb4
    obtain ⟨b, hbq⟩ : ∃ b, w2.heap.size = b := ⟨_, rfl⟩
    generalize (fun k => w2.heap.size ≤ k ∧ k < w4.heap.size) = F4 at *
    rw [hbq] at hD4 ⊢
    have D4 := Lib.hid hD4
    have FR4 := Lib.hid hF4
    have FS4 := Lib.hid hF4'
    have BB4 := Lib.hid hbb4
    clear hb4 hD4 hF4 hF4' hbb4 hbq
    go_wp2_with fail
    have X4 : BV w4 (fun k => k < w2.heap.size) (.slice (some ⟨g, 0, none⟩) c sc) (S.take c) := BV.take (V2.out.same (w' := w4) (fun k hk => BB4.out.block k hk)) HCN.out
    refine (feed_any D4.out X4 (by simp only [Fr.D.pend, List.length_nil, List.length_take]; omega)).mono ?_
    rintro e w5 ⟨rfl, hst5, hD5⟩
    have BB5 := Lib.hid (BB4.out.trans (hst5.below FS4.out BB4.out.size))
    have FR5 := Lib.hid (Plus.froms (w := w4) (w' := w5) FR4.out (Nat.le_trans hwb BB4.out.size))
    have FS5 := Lib.hid (Plus.froms (w := w4) (w' := w5) FS4.out BB4.out.size)
    have hD5' : DecAt w5 b (Plus F4 w4 w5) (.live (S.take c)) := hD5
    generalize Plus F4 w4 w5 = F5 at *
    have D5 := Lib.hid hD5'
    clear hst5 hD5 hD5' X4
    have hG2 : Glob w2 := HG.out.below B2.out HG.out.lt
    have HG2 := Lib.hid hG2
    clear hG2
    have HGF5 : Hid (From (1 + 1) F5) := Lib.hid (fun k hk => by have := FR5.out k hk; have := HG.out.lt; omega)
    go_wp2_with fail
    refine (drained_any D5.out (HG2.out.below BB5.out (by have := HG.out.lt; have := B2.out.size; omega)) HGF5.out (by rw [List.length_take]; have := HN.out; omega)).mono ?_
    rintro e w6 ⟨ms, d, gv, er, rfl, hdr, hst6, hD6, hM6, _, her⟩
    have BB6 := Lib.hid (BB5.out.trans (hst6.below FS5.out BB5.out.size))
    obtain ⟨hms, rest, hd, hrest⟩ := Fr.drains_take L c HALL.out (by rw [HS.out]; have := HN.out; have := HCN.out; omega) (by rw [HS.out]; exact hdr)
    rw [HS.out] at hrest
    subst hd
    have her0 : er = 0 := by rcases her with ⟨h, _⟩ | ⟨_, n', h⟩; exact h; cases h
    subst her0
    obtain ⟨q, hq⟩ : ∃ q, Fr.fit L c = q := ⟨_, rfl⟩
    rw [hq] at hms hrest
    have hqL : q ≤ L.length := by rw [← hq]; exact Fr.fit_le L c
    have hmq : ms.length = q := by rw [hms, List.length_take]; omega
    have M6 := Lib.hid hM6
    have D6 := Lib.hid hD6
    have HMS := Lib.hid hms
    have HREST := Lib.hid hrest
    have HQ := Lib.hid hq
    obtain ⟨ga, gc, rfl, gc1, gc2⟩ := hM6.shape
    unfold maxLen at gc2
    rw [hmq] at M6 ⊢
    rw [hmq] at gc1
    have HMQ := Lib.hid hmq
    have hB6 := B2.out.trans (BB6.out.mono hwb)
    have B6 := Lib.hid hB6
    clear hdr hst6 hD6 hM6 her hms hrest hq hmq hB6
    go_wp2_with fail
    refine (fit_any (HL.out.same (w' := w6) (fun k hk => B6.out.block k hk)) ((c : Nat) : Int) (by omega)).mono ?_
    rintro e w7 ⟨rfl, hb7⟩
    rw [FitV_ok HALL.out, HQ.out]
    have BB7 := Lib.hid (BB6.out.trans (hb7.mono BB6.out.size))
    have B7 := Lib.hid (B6.out.trans (hb7.mono B6.out.size))
    have M7 := Lib.hid (M6.out.grow hb7)
    have D7 := Lib.hid (D6.out.grow hb7)
    clear hb7
    go_wp2_with fail
    have X7 : BV w7 (fun k => k < w2.heap.size) (.slice (some ⟨g, c, none⟩) (n - c) (sc - c)) (S.drop c) := (by have := ((V2.out.same (w' := w7) (fun k hk => BB7.out.block k hk)).from HN.out HCN.out).2 g 0 rfl; rwa [Nat.zero_add] at this)
    have hrl : rest.length + (S.drop c).length ≤ 1000000 := by
      have := congrArg List.length HREST.out
      rw [List.length_append] at this
      have e1 : (Fr.stream (L.drop q)).length ≤ (Fr.stream L).length := by
        conv => rhs; rw [← List.take_append_drop q L, Fr.stream_append, List.length_append]
        omega
      rw [HS.out] at e1
      have := HSB.out
      omega
    refine (feed_any D7.out X7 (by simp only [Fr.D.pend]; omega)).mono ?_
    rintro e w8 ⟨rfl, hst8, hD8⟩
    have BB8 := Lib.hid (BB7.out.trans (hst8.below FS5.out BB7.out.size))
    have FR8 := Lib.hid (Plus.froms (w := w7) (w' := w8) FR5.out (Nat.le_trans hwb BB7.out.size))
    have FS8 := Lib.hid (Plus.froms (w := w7) (w' := w8) FS5.out BB7.out.size)
    have hD8' : DecAt w8 b (Plus F5 w7 w8) (.live (Fr.stream (L.drop q))) := by rw [← HREST.out]; exact hD8
    have M8 : Hid (MsO w5.heap.size w8 (.slice ga q gc) ms) := Lib.hid (M7.out.stp (fun k hk => D5.out.2.1 k hk) hst8)
    have HF5b : Hid (∀ k, Plus F5 w7 w8 k → k < w5.heap.size ∨ w7.heap.size ≤ k) := Lib.hid (fun k hk => by rcases hk with hk | hk; exact .inl (D5.out.2.1 k hk); exact .inr hk.1)
    have HM7lt : Hid (∀ g, (Value.slice ga q gc).ownBlock = some g → g < w7.heap.size) := Lib.hid M7.out.lt
    have HST8 := Lib.hid hst8
    have D8 := Lib.hid hD8'
    clear hst8 hD8 hD8' X7 hrl
    generalize Plus F5 w7 w8 = F8 at *
    have HGF8 : Hid (From (1 + 1) F8) := Lib.hid (fun k hk => by have := FR8.out k hk; have := HG.out.lt; omega)
    have hsr : (Fr.stream (L.drop q)).length ≤ 1000000 := by
      have e1 : (Fr.stream (L.drop q)).length ≤ (Fr.stream L).length := by
        conv => rhs; rw [← List.take_append_drop q L, Fr.stream_append, List.length_append]
        omega
      rw [HS.out] at e1
      have := HSB.out
      omega
    go_wp2_with fail
    refine (drained_any D8.out (HG2.out.below BB8.out (by have := HG.out.lt; have := B2.out.size; omega)) HGF8.out (by omega)).mono ?_
    rintro e w9 ⟨ms2, d2, gv2, er2, rfl, hdr2, hst9, hD9, hM9, _, her2⟩
    have hdr2' : Fr.Drains (Fr.stream (L.drop q) ++ []) ms2 d2 := by rw [List.append_nil]; exact hdr2
    obtain ⟨ms3, hms2, hdr3⟩ := Fr.Drains.stream (L.drop q) (fun m hm => HALL.out m (List.mem_of_mem_drop hm)) hdr2'
    obtain ⟨rfl, hd2⟩ := hdr3.of_need Fr.step_nil
    rw [List.append_nil] at hms2
    subst hd2
    have her0 : er2 = 0 := by rcases her2 with ⟨h, _⟩ | ⟨_, n', h⟩; exact h; cases h
    subst her0
    have BB9 := Lib.hid (BB8.out.trans (hst9.below FS8.out BB8.out.size))
    have D9 := Lib.hid hD9
    have M9a : Hid (MsO w5.heap.size w9 (.slice ga q gc) ms) := Lib.hid (M7.out.same (fun k hk => (hst9.keep k (Nat.lt_of_lt_of_le hk.2 HST8.out.size) (fun e => by have := HF5b.out k e; omega)).trans (HST8.out.keep k hk.2 (fun e => by have := D5.out.2.1 k e; omega))) (Nat.le_trans HST8.out.size hst9.size))
    have hz78 := HST8.out.size
    have hz89 := hst9.size
    have hz57 : w5.heap.size ≤ w7.heap.size := by obtain ⟨_, _, _, h, _⟩ := M7.out; exact h
    obtain ⟨ha, hc, rfl, hc1, hc2⟩ := hM9.shape
    unfold maxLen at hc2
    have Y9 := Lib.hid hM9.msv
    have hms2l : ms2.length = L.length - q := by rw [hms2, List.length_drop]
    have HGG : Hid (∀ k, (w8.heap.size ≤ k ∧ k < w9.heap.size) → w5.heap.size ≤ k ∧ k < w9.heap.size ∧ (Value.slice ga q gc).ownBlock ≠ some k) := Lib.hid (fun k hk => ⟨by omega, hk.2, fun e => by have := HM7lt.out k e; omega⟩)
    have HDJ : Hid (∀ k, F8 k → (Value.slice ga q gc).ownBlock ≠ some k) := Lib.hid (fun k hk e => by
      have h1 := HM7lt.out k e
      have h2 := HF5b.out k hk
      obtain ⟨_, _, h3, _⟩ := M7.out
      have := h3 k e
      omega)
    have HMS2 := Lib.hid hms2
    have HLB : Hid (ms.length + ms2.length ≤ 1000000000 ∧ ms.length + ms2.length = L.length) := Lib.hid (by have := HFEW.out.1; have := HMQ.out; omega)
    clear hdr2 hdr2' hst9 hD9 hM9 her2 hms2 hdr3 hz78 hz89 hz57 hms2l
    obtain ⟨m2, hm2⟩ : ∃ m2, ms2.length = m2 := ⟨_, rfl⟩
    rw [hm2] at HLB hc1 Y9 ⊢
    have HM2 := Lib.hid hm2
    clear hm2
    go_wp2_with (at_builtin; refine wpList_append_ms rfl (.tmp 76) (.tmp 77) rfl (.slice ga q gc) (.slice ha m2 hc) (by rfl) (by rfl) M9a.out Y9.out HGG.out (by rw [HM2.out]; exact HLB.out.1) ?_; intro a10 c10 w10 hM10 hg10; rw [HM2.out, HLB.out.2] at hM10 ⊢; have M10 := Lib.hid hM10; have HG10 := Lib.hid hg10; clear hM10 hg10)
    have hall10 : ms ++ ms2 = L := by rw [HMS.out, HMS2.out, List.take_append_drop]
    rw [hall10] at M10
    have D10 : Hid (DecAt w10 b F8 (.live [])) := Lib.hid (D9.out.same (fun k hk => HG10.out.block k (D9.out.2.1 k hk) (fun e => HDJ.out k hk e.symm)) HG10.out.size)
    have BB10 : Hid (Below w2.heap.size w2 w10) := Lib.hid (by
      have st : Stp (fun y => (Value.slice ga q gc).ownBlock = some y) w9 w10 := (Stp.refl _ _).grown HG10.out (fun x hx => .inl hx)
      refine BB9.out.trans (st.below (fun y hy => ?_) BB9.out.size)
      obtain ⟨_, _, h3, _⟩ := M7.out
      have h4 := h3 y hy
      have h5 := BB5.out.size
      omega)
    refine (pend_any D10.out (by decide)).mono ?_
    rintro e w11 ⟨rfl, nq, rfl⟩
    have B11 : Hid (Below w.heap.size w (w10.drewN nq)) := Lib.hid (B2.out.trans ((below_drewN2 BB10.out nq).mono hwb))
    have M11 : Hid (MsV (w10.drewN nq) (fun k => w5.heap.size ≤ k ∧ k < w10.heap.size) (.slice a10 L.length c10) L) := Lib.hid M10.out.msv
    generalize w10.drewN nq = w11 at *
    have L11 := Lib.hid (HL.out.same (w' := w11) (fun k hk => B11.out.block k hk))
    rw [show (((Fr.D.live []).pend : Nat) : Int) = 0 from rfl]
    have ill : ((L.length : Int) != (L.length : Int)) = false := by simp
    have hc101 : L.length ≤ c10 ∧ c10 ≤ 9223372036854775807 := by
      obtain ⟨a', c', e, h1, h2⟩ := M10.out.shape
      injection e with e1 e2 e3
      unfold maxLen at h2
      omega
    obtain ⟨hc101, hc102⟩ := hc101
    go_wp2_with fail
    go_loopw [14] (fun s wz => ∃ j : Nat, j ≤ L.length ∧ s = .int .i64 (j : Int) ∧ Below w11.heap.size w11 wz) (fun s _ => L.length - (intOf s).toNat)
    case atStart => exact ⟨0, by omega, rfl, Below.refl _ _⟩
    case round =>
      obtain ⟨j, hj, rfl, hbz⟩ := hrel
      have HBZ := Lib.hid hbz
      clear hbz
      by_cases hjl : j < L.length
      · have ij : (j : Int) < (L.length : Int) := by omega
        obtain ⟨_, _, e1, _, _, hget1⟩ := (M11.out.grow HBZ.out).get
        obtain ⟨rfl, rfl⟩ : _ ∧ _ := by simpa using e1
        obtain ⟨gb, go, gx, rfl, _, g0, g1, gbv⟩ := hget1 j (by omega)
        obtain ⟨_, _, e2, _, _, hget2⟩ := (L11.out.grow HBZ.out).get
        obtain ⟨rfl, rfl⟩ : _ ∧ _ := by simpa using e2
        obtain ⟨lb, lo, lx, rfl, _, l0, l1, lbv⟩ := hget2 j (by omega)
        obtain ⟨m, hm⟩ : ∃ m, L[j]'(by omega) = m := ⟨_, rfl⟩
        rw [hm] at g0 gbv l0 lbv
        obtain ⟨gxa, gxc, rfl, _⟩ := gbv.get
        obtain ⟨lxa, lxc, rfl, _⟩ := lbv.get
        have GBV := Lib.hid gbv
        have LBV := Lib.hid lbv
        clear hget1 hget2 e1 e2 gbv lbv hm
        go_wp2_with fail
        go_still_tail 8, (by kernel_rfl)
        go_wp2_with fail
        refine (msame_is (show BV wr.drew _ _ _ from GBV.out) (show BV wr.drew _ _ _ from LBV.out)).mono ?_
        rintro e w20 ⟨rfl, hb20⟩
        have HB20 := Lib.hid (HBZ.out.trans ((show Below wr.heap.size wr w20 from ⟨hb20.1, hb20.2, hb20.3, hb20.4, hb20.5⟩).mono HBZ.out.size))
        clear hb20
        go_wp2_with fail
        go_roundw
        case rel => exact ⟨j + 1, by omega, by go_num, HB20.out⟩
        case measure => simp [intOf]; omega
      · have ij : ¬ (j : Int) < (L.length : Int) := by omega
        go_wp2_with fail
        go_ret
        exact ⟨rfl, B11.out.trans (HBZ.out.mono B11.out.size)⟩
end Go.Proofs.YthanbihdkjmeoaaDoor
