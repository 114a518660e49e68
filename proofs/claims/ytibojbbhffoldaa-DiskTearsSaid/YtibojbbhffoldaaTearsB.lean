/- The walk of DiskTears, the one list not longer than the other. -/
import Derived.Test.YtibojbbhffoldaaTearD
namespace Go.Proofs.Ytibojbbhffoldaa
open Go.RowKit Go.Maps
set_option maxRecDepth 100000 in
set_option maxHeartbeats 4000000 in
theorem diskTearsB_walk (w : World) (sectors : Int) (_ : -9223372036854775808 ≤ sectors) (_ : sectors ≤ 9223372036854775807) (size : Int) (_ : -9223372036854775808 ≤ size) (_ : size ≤ 9223372036854775807) (v : Value) (ops : List Op15) (hv : OpsV w (fun k => k < w.heap.size) v ops) (ov : Value) (order : List Int) (hov : IntsV w (fun k => k < w.heap.size) ov order) (xv : Value) (data : List (List UInt8)) (hxv : LV w (fun k => k < w.heap.size) xv data) (kv : Value) (keep : List Bool) (hkv : BoolsV w (fun k => k < w.heap.size) kv keep) (torn : Int) (_ : -9223372036854775808 ≤ torn) (_ : torn ≤ 9223372036854775807) (hcase : data.length < order.length) :
    Calls Try.prog 5 #[.int .i64 sectors, .int .i64 size, v, ov, xv, kv, .int .i64 torn] w fun e w' => e = .returned (.bool true) ∧ Below w.heap.size w w' := by
  have HC := Lib.hid hcase
  clear hcase
  obtain ⟨oa, oc, rfl, oa1, oa2, _⟩ := SV.get hov
  unfold maxLen at oa2
  obtain ⟨xa, xc, rfl, xa1, xa2, _⟩ := hxv.get
  unfold maxLen at xa2
  obtain ⟨ka, kc, rfl, ka1, ka2, _⟩ := SV.get hkv
  have VO := Lib.hid hov; clear hov
  have VX := Lib.hid hxv; clear hxv
  have VK := Lib.hid hkv; clear hkv
  obtain ⟨va, vc, rfl, va1, va2, _⟩ := hv.get
  unfold maxLen at va2
  have V0 := Lib.hid hv; clear hv
  by_cases hs : Small sectors size ops.length
  rotate_left
  go_enter Try.func5, Try.ntmps5
  go_wp2_with fail
  refine (awake_any w).mono ?_
  rintro e w1 ⟨rfl, hb1⟩
  go_wp2_with fail
  refine (small_no _ _ _ _ _ hs).mono ?_
  rintro e w' ⟨rfl, rfl⟩
  go_wp2_with fail
  go_ret
  exact ⟨rfl, hb1⟩
  obtain ⟨n, rfl⟩ := Int.eq_ofNat_of_zero_le (show 0 ≤ sectors by have := hs.1; omega)
  obtain ⟨m, rfl⟩ := Int.eq_ofNat_of_zero_le (show 0 ≤ size by have := hs.2.2.1; omega)
  have hs' := hs
  obtain ⟨hn1, hn2, hm1, hm2, hl40⟩ := hs'
  by_cases h8 : 8 < order.length
  · go_enter Try.func5, Try.ntmps5
    go_wp2_with fail
    refine (awake_any w).mono ?_
    rintro e w1 ⟨rfl, hb1⟩
    go_wp2_with fail
    refine (small_yes _ _ _ _ _ hs).mono ?_
    rintro e w' ⟨rfl, rfl⟩
    go_wp2_with fail
    go_ret
    exact ⟨rfl, hb1⟩
  go_enter Try.func5, Try.ntmps5
  go_wp2_with fail
  refine (awake_any w).mono ?_
  rintro e w1 ⟨rfl, hb1⟩
  have B1 := Lib.hid hb1
  clear hb1
  go_wp2_with fail
  refine (small_yes _ _ _ _ _ hs).mono ?_
  rintro e w' ⟨rfl, rfl⟩
  go_wp2_with fail
  refine (new_yes n m w1 (by omega) (by omega) (by omega) (by omega)).mono ?_
  rintro e w2 ⟨b, rfl, hb2, hD2⟩
  have P2 : PlayedR w (DSt.new n m) b ops 0 w2 := ⟨B1.out.trans (hb2.mono B1.out.size), DiskIn.of_new hD2 B1.out.size⟩
  have PP := Lib.hid P2
  clear P2 hb2 hD2
  go_wp2_with fail
  go_loopw [17] (fun i wr => ∃ k : Nat, k ≤ ops.length ∧ i = .int .i64 (k : Int) ∧ PlayedR w (DSt.new n m) b ops k wr) (fun i _ => ops.length - (intOf i).toNat)
  case atStart => exact ⟨0, Nat.zero_le _, rfl, PP.out⟩
  case round =>
    obtain ⟨k, hk, rfl, hpr⟩ := hrel
    by_cases hlt : k < ops.length
    · obtain ⟨_, _, e0, _, _, hget⟩ := (V0.out.same (fun x hx => hpr.1.block x hx)).get
      obtain ⟨rfl, rfl⟩ : _ ∧ _ := by simpa using e0
      obtain ⟨ob, oo, dv, kv, rfl, hFb, hfit, hdv, hkv, o0, o1, o2, o3, o4, o5⟩ := hget k hlt
      have hpn := hpr.pend (by omega)
      have Hpr := Lib.hid hpr
      have Hfit := Lib.hid hfit
      have Hdv := Lib.hid hdv
      have Hkv := Lib.hid hkv
      have Hlt := Lib.hid hlt
      obtain ⟨da, dc, rfl, _, _, _⟩ := hdv.get
      obtain ⟨ka, kc, rfl, _, _, _⟩ := SV.get hkv
      clear hget hpr hfit hdv hkv e0 hFb
      have ik : (k : Int) < (ops.length : Int) := by omega
      go_wp2_with fail
      refine (play_any Hpr.out.2 Hpr.out.1.size (by omega) ops[k] Hfit.out _ _ Hdv.out Hkv.out).mono ?_
      rintro e w3 ⟨rv, rfl, hb3, hD3, _⟩
      have P3 := Lib.hid (Hpr.out.step Hlt.out hb3 hD3)
      clear hb3 hD3 o0 o1 o2 o3 o4 o5
      go_wp2_with fail
      go_roundw
      case rel => exact ⟨k + 1, by omega, by go_num, P3.out⟩
      case measure => simp [intOf]; omega
    · obtain rfl : k = ops.length := by omega
      have hpn := hpr.pend (by omega)
      obtain ⟨hwr, hDr⟩ := hpr
      rw [List.take_length] at hDr hpn
      have hshape := DSt.plays_shape ops (DSt.new n m)
      have hs1 : ((DSt.new n m).plays ops).size = m := hshape.1
      have hs2 : ((DSt.new n m).plays ops).dur.length = n := hshape.2.1.trans (by simp [DSt.new])
      clear hshape
      generalize (DSt.new n m).plays ops = s at *
      have Hs1 := Lib.hid hs1
      have Hs2 := Lib.hid hs2
      have W0 := Lib.hid hwr
      have D0 := Lib.hid hDr
      clear hs1 hs2 hwr hDr PP
      obtain ⟨F, hDf, hFf⟩ := D0.out
      have hnF : n ≤ 65536 := by omega
      have FF := Lib.hid hFf
      have hde : (s.crash [] 0).down = false ∧ (s.crash [] 0).after = -1 ∧ (s.crash [] 0).pend = [] ∧ (s.crash [] 0).size = m ∧ (s.crash [] 0).dur.length = n := ⟨rfl, rfl, rfl, Hs1.out, by have := Hs2.out; simp [DSt.crash, DSt.crashGo_len, this]⟩
      go_wp2_with fail
      obtain ⟨bd, bm, dvs, pv, pvs, DD, hDD⟩ := hDf
      refine (crash_loop hDD (by omega) _ [] (BoolsV.empty _ (fun _ => False)) (fun _ h => h.elim) 0).mono ?_
      rintro e w3 ⟨rfl, hst3, hD3⟩
      have W3 := Lib.hid (W0.out.trans (hst3.below FF.out W0.out.size))
      have D3 := Lib.hid hD3
      have F3 := Lib.hid (Plus.froms (w' := w3) FF.out W0.out.size)
      have Hde := Lib.hid hde
      clear hst3 hD3 hDD hde D0 W0 FF Hs1 Hs2 hpn hFf
      generalize s.crash [] 0 = t0 at *
      generalize Plus F wr w3 = F3' at *
      go_wp2_with fail
      refine (image_any D3.out).mono ?_
      rintro e w4 ⟨iv, rfl, hb4, hv4⟩
      have I4 : Hid (Inn (fun k => w3.heap.size ≤ k ∧ k < w4.heap.size) w4) := fun k hk => hk.2
      have J4 : Hid (Dj (fun k => w3.heap.size ≤ k ∧ k < w4.heap.size) F3') := fun k hk hf => by have := D3.out.inn k hf; have := hk.1; omega
      have L4 := Lib.hid hv4.lv
      have D4 := Lib.hid (D3.out.below hb4)
      have W4 := Lib.hid (W3.out.trans (hb4.mono W3.out.size))
      clear hb4 hv4 D3 W3
      generalize (fun k => w3.heap.size ≤ k ∧ k < w4.heap.size) = G at *
      obtain ⟨ia, ic, rfl, _, _, _⟩ := L4.out.get
      go_wp2_with (at_make; refine wpList_make_n rfl _ _ _ rfl 22 (.slice none 0 0) 24 n n Try.underlying33 Try.infoRow rfl rfl rfl (Nat.le_refl _) (by omega) (by unfold maxLen; omega) ?_)
      have A0 := (Below.refl w4.heap.size w4).alloc (Nat.le_refl _) (.cells (Array.replicate n (.slice none 0 0)) 22)
      have y0 : Blk (w4.alloc (.cells (Array.replicate n (.slice none 0 0)) 22)) w4.heap.size (List.replicate n (.slice none 0 0)) 22 := by simpa using Blk.new w4 (List.replicate n (.slice none 0 0)) 22
      have W5 := Lib.hid (W4.out.alloc W4.out.size (.cells (Array.replicate n (.slice none 0 0)) 22))
      have hde := Hde.out
      have et0 : t0 = { t0 with pend := [] } := by rw [← hde.2.2.1]
      have T5 : Hid (TearR w w4.heap.size G (.slice ia t0.dur.length ic) b n m t0 [] (List.replicate n []) (w4.alloc (.cells (Array.replicate n (.slice none 0 0)) 22))) := by
        refine ⟨F3', _, W5.out, by rw [← et0]; exact D4.out.below A0, F3.out, fun k hk => Nat.lt_of_lt_of_le (I4.out k hk) A0.size, J4.out, L4.out.grow A0, y0, fun h => ?_, fun h => ?_, W4.out.size, ?_, DSt.Wrt.nil n m⟩
        · have := D4.out.inn _ h; omega
        · have := I4.out _ h; omega
        · refine ⟨by simp, fun i a b ha hb => ?_⟩
          simp only [List.getElem?_replicate] at ha hb
          split at ha
          · simp only [Option.some.injEq] at ha; subst ha
            rw [if_pos (by assumption)] at hb
            simp only [Option.some.injEq] at hb; subst hb
            exact BV.nil _ _
          · cases ha
      clear A0 y0 W5 et0 W4 D4 L4 J4 I4 F3 hde
      generalize w4.heap.size = kw at *
      generalize w4.alloc (.cells (Array.replicate n (.slice none 0 0)) 22) = w5 at *
      go_loopw [20] (fun i wr => ∃ (k : Nat) (ps : List (Nat × List UInt8)) (W : List (List UInt8)), k ≤ order.length ∧ k ≤ data.length ∧ i = .int .i64 (k : Int) ∧ ps.length ≤ k ∧ TearR w kw G (.slice ia t0.dur.length ic) b n m t0 ps W wr) (fun i _ => order.length - (intOf i).toNat)
      case atStart => exact ⟨0, [], _, Nat.zero_le _, Nat.zero_le _, rfl, Nat.le_refl _, T5.out⟩
      case round =>
        obtain ⟨k, ps, W, hk1, hk2, rfl, hpl, F, vs, hb, hD, hF, hI, hJ, hL, hB, hnF2, hnG, hkw, hall, hW⟩ := hrel
        by_cases hlt : k < order.length ∧ k < data.length
        · obtain ⟨lt1, lt2⟩ := hlt
          have s0 : Same (fun k => k < w.heap.size) w wr := fun x hx => hb.block x hx
          obtain ⟨_, _, e0, _, _, hget⟩ := SV.get (SV.same VO.out s0)
          obtain ⟨rfl, rfl⟩ : _ ∧ _ := by simpa using e0
          obtain ⟨ob, oo, rfl, hob, oc0⟩ := hget k lt1
          obtain ⟨_, _, e1, _, _, hgex⟩ := (VX.out.same s0).get
          obtain ⟨rfl, rfl⟩ : _ ∧ _ := by simpa using e1
          obtain ⟨xb, xo, dv, rfl, hxb, xc0, hdv⟩ := hgex k lt2
          obtain ⟨da, dc, rfl, _, _, _⟩ := hdv.get
          clear hget hgex e0 e1 s0
          generalize order[k] = z at *
          generalize data[k] = d at *
          have i1 : (k : Int) < (order.length : Int) := by omega
          have i2 : (k : Int) < (data.length : Int) := by omega
          have Hb := Lib.hid hb
          have HD := Lib.hid hD
          have HF := Lib.hid hF
          have HI := Lib.hid hI
          have HJ := Lib.hid hJ
          have HL := Lib.hid hL
          have HB := Lib.hid hB
          have HA := Lib.hid hall
          have HW := Lib.hid hW
          have Hd := Lib.hid hdv
          clear hb hD hF hI hJ hL hall hW hdv
          have hcase : z < 0 ∨ (0 ≤ z ∧ (n : Int) ≤ z) ∨ (0 ≤ z ∧ z < (n : Int)) := by omega
          rcases hcase with h | ⟨h, h'⟩ | ⟨h, h'⟩
          · go_wp2_with fail
            go_ret
            exact ⟨rfl, Hb.out⟩
          · go_wp2_with fail
            go_ret
            exact ⟨rfl, Hb.out⟩
          obtain ⟨zk, rfl⟩ := Int.eq_ofNat_of_zero_le h
          have hzk : zk < n := by omega
          have hzW : zk < W.length := by have := HW.out.len; omega
          obtain ⟨y, hy, hyv⟩ := HA.out.get (i := zk) (b := W[zk]) (by simp [hzW])
          have yc := hB.cell hy
          have yf := hB.free zk
          have yl := hB.lt
          obtain ⟨ya, yc2, rfl, _, _, _⟩ := hyv.get
          have hgW : W.getD zk [] = W[zk] := by simp [List.getD, hzW]
          have Hy := Lib.hid hy
          clear hy hyv hB
          generalize W[zk] = wz at *
          by_cases hdm : d.length = m
          rotate_left
          · have hdm' : ((d.length : Int) != (m : Int)) = true := by simp; omega
            clear hdm
            go_wp2_with fail
            go_ret
            exact ⟨rfl, Hb.out⟩
          have hdm' : ((d.length : Int) != (m : Int)) = false := by simp; omega
          have Hdm := Lib.hid hdm
          clear hdm
          by_cases hwz : 0 < wz.length
          · have hwz' : (0 : Int) < (wz.length : Int) := by omega
            go_wp2_with fail
            go_ret
            exact ⟨rfl, Hb.out⟩
          have hwz' : (wz.length : Int) ≤ 0 := by omega
          have hWp := Lib.hid (HW.out.push (by omega) hzk Hdm.out (by rw [hgW]; omega))
          have hdd := Hde.out
          have hwr := DSt.write_at hdd.1 hdd.2.1 hdd.2.2.2.1 hdd.2.2.2.2 ps hzk Hdm.out
          have Hgw := Lib.hid hgW
          clear hgW hwz hdd
          go_wp2_with fail
          refine (write_any HD.out (zk : Int) _ d Hd.out (by simp; omega)).mono ?_
          rintro e w6 ⟨rfl, hst6, hD6⟩
          rw [hwr] at hD6 ⊢
          have B6 := hst6.below HF.out Hb.out.size
          have oc6 := (B6.cell (p := ⟨ob, oo + k, none⟩) hob).trans oc0
          have xc6 := (B6.cell (p := ⟨xb, xo + k, none⟩) hxb).trans xc0
          have BB := HB.out.of_same (hst6.keep kw HB.out.lt hnF2)
          have yc6 := BB.cell Hy.out
          have bf6 := BB.free zk
          have bl6 := BB.lt
          have TT := fun w2 => TearR.stored (w2 := w2) (k := zk) (n := n) (m := m) Hb.out HF.out HI.out HJ.out HL.out HB.out hnF2 hnG hkw HA.out hst6 hD6 Hd.out hWp.out
          have TT' := Lib.hid TT
          clear oc0 xc0 yc yf yl hwr hst6 hD6 TT
          go_wp2_with fail
          go_roundw
          case rel => exact ⟨k + 1, ps ++ [(zk, d)], W.set zk d, by omega, by omega, by go_num, by simp; omega, TT'.out _ rfl⟩
          case measure => simp [intOf]; omega
        · have hlt' : (order.length = k) ∨ (k < order.length ∧ data.length = k) := by omega
          have s0 : Same (fun k => k < w.heap.size) w wr := fun x hx => hb.block x hx
          have hK := SV.same VK.out s0
          have hold : ∀ d ∈ t0.dur, d.length = m := fun d hd => (hD.ok.dur d hd).trans Hde.out.2.2.2.1
          have Hold := Lib.hid hold
          have HK := Lib.hid hK
          have Hb := Lib.hid hb
          have HD := Lib.hid hD
          have HF := Lib.hid hF
          have HI := Lib.hid hI
          have HJ := Lib.hid hJ
          have HL := Lib.hid hL
          have HB := Lib.hid hB
          have HA := Lib.hid hall
          have HW := Lib.hid hW
          clear hb hD hF hI hJ hL hall hW hB hlt s0 hK hold T5
          have hE : data.length = k := by have := HC.out; omega
          clear hlt'
          subst hE
          have hlt1' : (data.length : Int) < (order.length : Int) := by have := HC.out; omega
          · skip
            go_wp2_with fail
            obtain ⟨bd, bm, dvs, pv, pvs, DD, hDD⟩ := HD.out
            refine (crash_loop hDD (by simp; omega) _ keep HK.out (fun y hy hf => by have := HF.out y hf; omega) torn).mono ?_
            rintro e w6 ⟨rfl, hst6, hD6⟩
            have hb6 := hst6.below HF.out Hb.out.size
            have W6 := Lib.hid (Hb.out.trans hb6)
            have D6 := Lib.hid hD6
            have L6 := Lib.hid (HL.out.same (hst6.same HI.out HJ.out))
            have B6 := Lib.hid (HB.out.of_same (hst6.keep kw HB.out.lt hnF2))
            have A6 := Lib.hid (HA.out.mono (fun _ _ r => r.same (fun x hx => hb6.block x hx)))
            obtain ⟨c, hmix⟩ := HW.out.mix keep (({ t0 with pend := ps } : DSt).tornBytes torn) t0.dur Hde.out.2.2.2.2
            have htm : ({ t0 with pend := ps } : DSt).tornBytes torn ≤ m := by
              have := Hde.out.2.2.2.1
              simp only [DSt.tornBytes]; omega
            have hnow : (({ t0 with pend := ps } : DSt).crash keep torn).dur = DSt.crashGo keep (({ t0 with pend := ps } : DSt).tornBytes torn) 0 true t0.dur ps := rfl
            have hnl : (({ t0 with pend := ps } : DSt).crash keep torn).dur.length = n := by rw [hnow, DSt.crashGo_len]; exact Hde.out.2.2.2.2
            have hnz : (({ t0 with pend := ps } : DSt).crash keep torn).size = m := Hde.out.2.2.2.1
            rw [← hnow] at hmix
            generalize ({ t0 with pend := ps } : DSt).crash keep torn = t1 at *
            generalize ({ t0 with pend := ps } : DSt).tornBytes torn = tb at *
            have hnd : ∀ d ∈ t1.dur, d.length = m := fun d hd => (hD6.ok.dur d hd).trans hnz
            have Hnd := Lib.hid hnd
            have Hmix := Lib.hid hmix
            have Hnl := Lib.hid hnl
            have HWl := Lib.hid HW.out.len
            clear hDD hst6 hD6 hb6 hnow hnz hnd hmix hnl HK HF HI HJ HL HB HA HD HW Hb hnF2
            generalize Plus F wr w6 = F6 at *
            go_wp2_with fail
            refine (image_any D6.out).mono ?_
            rintro e w7 ⟨nv, rfl, hb7, hv7⟩
            have E7 : Hid (TearE w kw G (fun k => w6.heap.size ≤ k ∧ k < w7.heap.size) (.slice ia t0.dur.length ic) nv t0.dur t1.dur W vs w7) :=
              ⟨W6.out.trans (hb7.mono W6.out.size), L6.out.grow hb7, hv7.lv, B6.out.of_same (hb7.block _ B6.out.lt), A6.out.mono (fun _ _ r => r.grow hb7)⟩
            obtain ⟨na, nc, rfl, _, _, _⟩ := hv7.lv.get
            clear hb7 hv7 W6 L6 B6 A6 D6
            generalize (fun k => w6.heap.size ≤ k ∧ k < w7.heap.size) = G2 at *
            rw [Hde.out.2.2.2.2, Hnl.out] at E7 ⊢
            go_wp2_with fail
            go_loopw [24, 23] (fun i mx wx => TearE w kw G G2 (.slice ia n ic) (.slice na n nc) t0.dur t1.dur W vs wx ∧ ∃ p y : Nat, p ≤ n ∧ i = .int .i64 (p : Int) ∧ mx = .int .i64 (y : Int) ∧ y ≤ 1 ∧ (y = 1 → ∃ j, j < p ∧ c = some j)) (fun i _ _ => n - (intOf i).toNat)
            case atStart => exact ⟨E7.out, 0, 0, by omega, rfl, rfl, by omega, fun h => absurd h (by omega)⟩
            case round =>
              obtain ⟨hE, p, y, hp, rfl, rfl, hy1, hyc⟩ := hrel
              clear E7
              by_cases hlt : p < n
              · have ip : (p : Int) < (n : Int) := by omega
                have hpo : p < t0.dur.length := by have := Hde.out.2.2.2.2; omega
                have hpn : p < t1.dur.length := by have := Hnl.out; omega
                have hpW : p < W.length := by have := HWl.out; omega
                obtain ⟨_, _, e1, _, _, hgo⟩ := hE.old.get
                obtain ⟨rfl, -, rfl⟩ : _ ∧ _ ∧ _ := by simpa using e1
                obtain ⟨ib, io, xo', rfl, _, co, vo⟩ := hgo p hpo
                obtain ⟨_, _, e2, _, _, hgn⟩ := hE.now.get
                obtain ⟨rfl, -, rfl⟩ : _ ∧ _ ∧ _ := by simpa using e2
                obtain ⟨nb, no, xn', rfl, _, cn, vn⟩ := hgn p hpn
                obtain ⟨xw', hxw, vw⟩ := hE.all.get (i := p) (b := W[p]) (by simp [hpW])
                have cw := hE.blk.cell hxw
                have lw := hE.blk.lt
                have hM := Hmix.out p hlt
                have g0 : t0.dur.getD p [] = t0.dur[p] := by simp [List.getD, hpo]
                have g1 : t1.dur.getD p [] = t1.dur[p] := by simp [List.getD, hpn]
                have g2 : W.getD p [] = W[p] := by simp [List.getD, hpW]
                rw [g0, g1, g2] at hM
                have l0 := Hold.out _ (List.getElem_mem hpo)
                have l1 := Hnd.out _ (List.getElem_mem hpn)
                obtain ⟨roa, roc, rfl, _, roc2, hro⟩ := vo.get
                obtain ⟨rna, rnc, rfl, _, rnc2, hrn⟩ := vn.get
                obtain ⟨rwa, rwc, rfl, _, rwc2, hrw⟩ := vw.get
                have HE := Lib.hid hE
                have HWn : Hid (W.length = n) := HWl.out
                have hvl : vs.length = n := hE.all.1.trans HWn.out
                clear hE hgo hgn e1 e2 hxw g0 g1 g2
                have kp : (p : Int) < (vs.length : Int) := by omega
                have VO' := Lib.hid vo
                have VN' := Lib.hid vn
                have VW' := Lib.hid vw
                have Hro := Lib.hid hro
                have Hrn := Lib.hid hrn
                have Hrw := Lib.hid hrw
                have Hyc := Lib.hid hyc
                clear vo vn vw hro hrn hrw hyc
                generalize t0.dur[p] = old at *
                generalize t1.dur[p] = now at *
                generalize W[p] = wri at *
                rw [l0] at co VO'
                rw [l1] at cn VN'
                have L0 := Lib.hid l0
                have L1 := Lib.hid l1
                clear l0 l1
                by_cases q1 : (now == old) = true
                · clear hM
                  go_wp2_with fail
                  go_quiet (first | (go_at_call 15; refine Calls.quiet_of_same (same_is _ VN'.out VO'.out q1)))
                  go_wp2_with fail
                  go_roundw
                  case rel => exact ⟨HE.out.drewN _, p + 1, y, by omega, by go_num, rfl, hy1, fun h => by obtain ⟨j, hj, e⟩ := Hyc.out h; exact ⟨j, by omega, e⟩⟩
                  case measure => simp [intOf]; omega
                have q1f : (now == old) = false := by simpa using q1
                by_cases q2 : (now == wri) = true
                · clear hM
                  go_wp2_with fail
                  go_quiet (first | (go_at_call 15; refine Calls.quiet_of_same (same_is _ VN'.out VO'.out q1f)) | (go_at_call 15; refine Calls.quiet_of_same (same_is _ VN'.out VW'.out q2)))
                  go_wp2_with fail
                  go_roundw
                  case rel => exact ⟨HE.out.drewN _, p + 1, y, by omega, by go_num, rfl, hy1, fun h => by obtain ⟨j, hj, e⟩ := Hyc.out h; exact ⟨j, by omega, e⟩⟩
                  case measure => simp [intOf]; omega
                have q2f : (now == wri) = false := by simpa using q2
                have hc : c = some p := by
                  by_cases h : c = some p
                  · exact h
                  · rcases hM.2 h with h' | h'
                    · exact absurd h' (by simpa using q1)
                    · exact absurd h' (by simpa using q2)
                obtain ⟨lw2, htn⟩ := hM.1 hc
                have hy0 : y = 0 := by
                  by_cases h : y = 1
                  · obtain ⟨j, hj, e⟩ := Hyc.out h
                    rw [hc] at e
                    injection e with e
                    omega
                  · omega
                have hyz : (y : Int) = 0 := by omega
                rw [hyz]
                clear hyz hy0
                have Hc := Lib.hid hc
                have Htn := Lib.hid htn
                have L2 := Lib.hid lw2
                clear hc htn hM q1 q2
                rw [lw2] at cw VW'
                clear lw2
                go_wp2_with fail
                go_quiet (first | (go_at_call 15; refine Calls.quiet_of_same (same_is _ VN'.out VO'.out q1f)) | (go_at_call 15; refine Calls.quiet_of_same (same_is _ VN'.out VW'.out q2f)))
                go_wp2_with fail
                have K8 : Hid (TearK w kw G G2 (.slice (some ⟨ib, io, none⟩) n ic) (.slice (some ⟨nb, no, none⟩) n nc) t0.dur t1.dur W vs ⟨ib, io + p, none⟩ ⟨nb, no + p, none⟩ ⟨kw, p, none⟩ (.slice roa m roc) (.slice rna m rnc) (.slice rwa m rwc) old now wri (wr.drewN nq)) :=
                  (TearK.mk HE.out co cn cw VO'.out VN'.out VW'.out : TearK w kw G G2 (.slice (some ⟨ib, io, none⟩) n ic) (.slice (some ⟨nb, no, none⟩) n nc) t0.dur t1.dur W vs ⟨ib, io + p, none⟩ ⟨nb, no + p, none⟩ ⟨kw, p, none⟩ (.slice roa m roc) (.slice rna m rnc) (.slice rwa m rwc) old now wri wr).drewN nq
                clear VO' VN' VW' Hro Hrn Hrw co cn cw HE
                generalize wr.drewN nq = w8 at *
                obtain ⟨bo1, oo1, rfl⟩ := K8.out.vo.some_of (by have := L0.out; omega)
                obtain ⟨bn1, on1, rfl⟩ := K8.out.vn.some_of (by have := L1.out; omega)
                obtain ⟨bw1, ow1, rfl⟩ := K8.out.vw.some_of (by have := L2.out; omega)
                go_loopw [25] (fun kk wy => TearQ w8 m kk wy) (fun kk _ => m - (intOf kk).toNat)
                case atStart => exact ⟨⟨0, rfl⟩, 0, Nat.zero_le _, rfl⟩
                case round =>
                  obtain ⟨⟨q, rfl⟩, r, hr, rfl⟩ := hrel
                  have K9 := Lib.hid (K8.out.drewN q)
                  generalize hw9 : w8.drewN q = w9 at *
                  have Hw9 := Lib.hid hw9
                  clear hw9 K8
                  have co := K9.out.co
                  have cn := K9.out.cn
                  have cw := K9.out.cw
                  by_cases hrm : r < m
                  · have cb := K9.out.vn.cell1 (r := r) (by have := L1.out; omega)
                    have db := K9.out.vw.cell1 (r := r) (by have := L2.out; omega)
                    have ir : (r : Int) < (m : Int) := by omega
                    have Hl1 : Hid (now.getD r 0 = now.getD r 0) := rfl
                    by_cases hq : now.getD r 0 = wri.getD r 0
                    · rw [hq] at cb
                      have hq2 : (((wri.getD r 0).toNat : Int) == ((wri.getD r 0).toNat : Int)) = true := by simp
                      generalize wri.getD r 0 = zb at *
                      clear hq
                      go_wp2_with fail
                      go_quiet (fail)
                      go_wp2_with fail
                      go_roundw
                      case rel => exact ⟨⟨q + nq, by have := Hw9.out; rw [← this]; simp [World.drewN, Nat.add_assoc]⟩, r + 1, by omega, by go_num⟩
                      case measure => simp [intOf]; omega
                    · have hz : ((now.getD r 0).toNat : Int) ≠ ((wri.getD r 0).toNat : Int) := fun h => hq (UInt8.toNat_inj.1 (by omega))
                      have hz2 : (((now.getD r 0).toNat : Int) == ((wri.getD r 0).toNat : Int)) = false := by simpa using hz
                      have hq3 : Hid (r = m ∨ (DSt.torn tb wri old).getD r 0 ≠ wri.getD r 0) := .inr (by rw [← Htn.out]; exact hq)
                      obtain ⟨za, hza⟩ : ∃ z, now.getD r 0 = z := ⟨_, rfl⟩
                      obtain ⟨zb, hzb⟩ : ∃ z, wri.getD r 0 = z := ⟨_, rfl⟩
                      rw [hza] at cb hz2
                      rw [hzb] at db hz2
                      clear hz hq hza hzb
                      have hcn1 : now.length ≤ rnc := by assumption
                      have hcn2 : (m : Int) ≤ (rnc : Int) := by have := L1.out; omega
                      have hco1 : old.length ≤ roc := by assumption
                      have hco2 : (m : Int) ≤ (roc : Int) := by have := L0.out; omega
                      have hrest : (now.drop r == old.drop r) = true := by
                        have h := DSt.torn_rest (t := tb) (a := wri) (b := old) (k := r) (m := m) L2.out L0.out hr hq3.out
                        rw [← Htn.out] at h
                        simp [h]
                      have Hrest := Lib.hid hrest
                      clear hrest
                      go_wp2_with fail
                      go_quiet (fail)
                      go_wp2_with fail
                      have K10 := Lib.hid (K9.out.drewN nq)
                      generalize w9.drewN nq = w10 at *
                      have co0 := K10.out.co
                      have cn0 := K10.out.cn
                      have cw0 := K10.out.cw
                      have VNd := Lib.hid (K10.out.vn.drop L1.out hr)
                      have VOd := Lib.hid (K10.out.vo.drop L0.out hr)
                      clear co cn cw cb db K9
                      have ir0 : (r : Int) ≤ (m : Int) := by omega
                      go_quiet (first | (go_at_call 15; refine Calls.quiet_of_same (same_is _ VNd.out VOd.out Hrest.out)))
                      go_wp2_with fail
                      go_roundw
                      case rel => exact ⟨K10.out.e.drewN _, p + 1, 1, by omega, by go_num, by go_num, by omega, fun _ => ⟨p, by omega, Hc.out⟩⟩
                      case measure => simp [intOf]; omega
                  · have hrm2 : Hid (r = m) := Nat.le_antisymm hr (by omega)
                    have ir9 : (m : Int) ≤ (r : Int) := by omega
                    have cb := ()
                    have db := ()
                    have hcn1 : now.length ≤ rnc := by assumption
                    have hcn2 : (m : Int) ≤ (rnc : Int) := by have := L1.out; omega
                    have hco1 : old.length ≤ roc := by assumption
                    have hco2 : (m : Int) ≤ (roc : Int) := by have := L0.out; omega
                    have hrest : (now.drop r == old.drop r) = true := by
                      have h := DSt.torn_rest (t := tb) (a := wri) (b := old) (k := r) (m := m) L2.out L0.out hr (.inl hrm2.out)
                      rw [← Htn.out] at h
                      simp [h]
                    have Hrest := Lib.hid hrest
                    clear hrest
                    go_wp2_with fail
                    go_quiet (fail)
                    go_wp2_with fail
                    have K10 := Lib.hid (K9.out.drewN nq)
                    generalize w9.drewN nq = w10 at *
                    have co0 := K10.out.co
                    have cn0 := K10.out.cn
                    have cw0 := K10.out.cw
                    have VNd := Lib.hid (K10.out.vn.drop L1.out hr)
                    have VOd := Lib.hid (K10.out.vo.drop L0.out hr)
                    clear co cn cw cb db K9
                    have ir0 : (r : Int) ≤ (m : Int) := by omega
                    go_quiet (first | (go_at_call 15; refine Calls.quiet_of_same (same_is _ VNd.out VOd.out Hrest.out)))
                    go_wp2_with fail
                    go_roundw
                    case rel => exact ⟨K10.out.e.drewN _, p + 1, 1, by omega, by go_num, by go_num, by omega, fun _ => ⟨p, by omega, Hc.out⟩⟩
                    case measure => simp [intOf]; omega
              · obtain rfl : p = n := by omega
                go_wp2_with fail
                go_ret
                exact ⟨ret_bool (decide_eq_true (by omega)), hE.below⟩
end Go.Proofs.Ytibojbbhffoldaa
