/- The walk of DiskSpoils. -/
import Derived.Test.YtibojbbhffoldaaPlayF
namespace Go.Proofs.Ytibojbbhffoldaa
open Go.RowKit Go.Maps
namespace DSt
variable (s : DSt)
theorem spoil_bad {k o : Int} {x : UInt8} (h : s.spoilable k o = false) : s.spoil k o x = (1, s) := by simp [spoil, h]
/-- What Spoil does to the rows. -/
theorem spoil_good {k o : Nat} {x : UInt8} (hk : k < s.dur.length) (ho : o < s.size) (hl : ∀ d ∈ s.dur, d.length = s.size) :
    (s.spoil k o x).1 = 0 ∧ (s.spoil k o x).2.size = s.size ∧ (s.spoil k o x).2.pend = s.pend ∧ (s.spoil k o x).2.dur.length = s.dur.length ∧
    ∀ i, i < s.dur.length → ((s.spoil k o x).2.dur.getD i []).length = s.size ∧ ∀ j, j < s.size →
      ((s.spoil k o x).2.dur.getD i []).getD j 0 = if i = k ∧ j = o then ((s.dur.getD i []).getD j 0) ^^^ x else (s.dur.getD i []).getD j 0 := by
  have hlk := hl _ (List.getElem_mem hk)
  have e : (s.spoil k o x) = (0, { s with dur := s.dur.set k (s.dur[k].set o (s.dur[k][o]'(by omega) ^^^ x)) }) := by
    simp [spoil, spoilable, valid, hk, ho, hlk]
  rw [e]
  refine ⟨rfl, rfl, rfl, by simp, fun i hi => ?_⟩
  have hli := hl _ (List.getElem_mem hi)
  have hgi : s.dur.getD i [] = s.dur[i] := by simp [List.getD, hi]
  rw [hgi]
  by_cases hik : i = k
  · subst hik
    refine ⟨by simp [List.getD, hi, hli], fun j hj => ?_⟩
    by_cases hjo : j = o
    · subst hjo; simp [List.getD, hi, hli, hj]
    · simp [List.getD, hi, hli, hj, hjo, List.getElem_set_ne (Ne.symm hjo)]
  · refine ⟨by simp [List.getD, hi, List.getElem_set_ne (Ne.symm hik), hli], fun j hj => ?_⟩
    simp [List.getD, hi, hik, List.getElem_set_ne (Ne.symm hik)]
theorem spoil_back {k o : Nat} {x : UInt8} (hk : k < s.dur.length) (ho : o < s.size) (hl : ∀ d ∈ s.dur, d.length = s.size) :
    ((s.spoil k o x).2.spoil k o x).1 = 0 ∧ ((s.spoil k o x).2.spoil k o x).2.dur = s.dur := by
  have hlk := hl _ (List.getElem_mem hk)
  have e : (s.spoil k o x) = (0, { s with dur := s.dur.set k (s.dur[k].set o (s.dur[k][o]'(by omega) ^^^ x)) }) := by
    simp [spoil, spoilable, valid, hk, ho, hlk]
  rw [e]
  simp [spoil, spoilable, valid, hk, ho, hlk, UInt8.xor_assoc]
end DSt
set_option maxRecDepth 100000 in
set_option maxHeartbeats 4000000 in
theorem diskSpoils_walk (w : World) (sectors : Int) (_ : -9223372036854775808 ≤ sectors) (_ : sectors ≤ 9223372036854775807) (size : Int) (_ : -9223372036854775808 ≤ size) (_ : size ≤ 9223372036854775807) (v : Value) (ops : List Op15) (hv : OpsV w (fun k => k < w.heap.size) v ops) (sector : Int) (_ : -9223372036854775808 ≤ sector) (_ : sector ≤ 9223372036854775807) (offset : Int) (_ : -9223372036854775808 ≤ offset) (_ : offset ≤ 9223372036854775807) (x : UInt8) :
    Calls Try.prog 6 #[.int .i64 sectors, .int .i64 size, v, .int .i64 sector, .int .i64 offset, .int .u8 (x.toNat : Int)] w fun e w' => e = .returned (.bool true) ∧ Below w.heap.size w w' := by
  obtain ⟨va, vc, rfl, va1, va2, _⟩ := hv.get
  unfold maxLen at va2
  have V0 := Lib.hid hv; clear hv
  by_cases hs : Small sectors size ops.length
  rotate_left
  go_enter Try.func6, Try.ntmps6
  go_wp2_with fail
  refine (awake_any w).mono ?_
  rintro e w1 ⟨rfl, hb1⟩
  go_wp2_with fail
  refine (small_no _ _ _ _ _ hs).mono ?_
  rintro e w' ⟨rfl, rfl⟩
  go_wp2_with fail
  go_ret
  exact ⟨rfl, hb1⟩
  obtain ⟨n, rfl⟩ := Int.eq_ofNat_of_zero_le (show 0 ≤ sectors by have := hs.1; omega)
  obtain ⟨m, rfl⟩ := Int.eq_ofNat_of_zero_le (show 0 ≤ size by have := hs.2.2.1; omega)
  have hs' := hs
  obtain ⟨hn1, hn2, hm1, hm2, hl40⟩ := hs'
  go_enter Try.func6, Try.ntmps6
  go_wp2_with fail
  refine (awake_any w).mono ?_
  rintro e w1 ⟨rfl, hb1⟩
  have B1 := Lib.hid hb1
  clear hb1
  go_wp2_with fail
  refine (small_yes _ _ _ _ _ hs).mono ?_
  rintro e w' ⟨rfl, rfl⟩
  go_wp2_with fail
  refine (new_yes n m w1 (by omega) (by omega) (by omega) (by omega)).mono ?_
  rintro e w2 ⟨b, rfl, hb2, hD2⟩
  have P2 : PlayedR w (DSt.new n m) b ops 0 w2 := ⟨B1.out.trans (hb2.mono B1.out.size), DiskIn.of_new hD2 B1.out.size⟩
  have PP := Lib.hid P2
  clear P2 hb2 hD2
  go_wp2_with fail
  go_loopw [15] (fun i wr => ∃ k : Nat, k ≤ ops.length ∧ i = .int .i64 (k : Int) ∧ PlayedR w (DSt.new n m) b ops k wr) (fun i _ => ops.length - (intOf i).toNat)
  case atStart => exact ⟨0, Nat.zero_le _, rfl, PP.out⟩
  case round =>
    obtain ⟨k, hk, rfl, hpr⟩ := hrel
    by_cases hlt : k < ops.length
    · obtain ⟨_, _, e0, _, _, hget⟩ := (V0.out.same (fun x hx => hpr.1.block x hx)).get
      obtain ⟨rfl, rfl⟩ : _ ∧ _ := by simpa using e0
      obtain ⟨ob, oo, dv, kv, rfl, hFb, hfit, hdv, hkv, o0, o1, o2, o3, o4, o5⟩ := hget k hlt
      have hpn := hpr.pend (by omega)
      have Hpr := Lib.hid hpr
      have Hfit := Lib.hid hfit
      have Hdv := Lib.hid hdv
      have Hkv := Lib.hid hkv
      have Hlt := Lib.hid hlt
      obtain ⟨da, dc, rfl, _, _, _⟩ := hdv.get
      obtain ⟨ka, kc, rfl, _, _, _⟩ := SV.get hkv
      clear hget hpr hfit hdv hkv e0 hFb
      have ik : (k : Int) < (ops.length : Int) := by omega
      go_wp2_with fail
      refine (play_any Hpr.out.2 Hpr.out.1.size (by omega) ops[k] Hfit.out _ _ Hdv.out Hkv.out).mono ?_
      rintro e w3 ⟨rv, rfl, hb3, hD3, _⟩
      have P3 := Lib.hid (Hpr.out.step Hlt.out hb3 hD3)
      clear hb3 hD3 o0 o1 o2 o3 o4 o5
      go_wp2_with fail
      go_roundw
      case rel => exact ⟨k + 1, by omega, by go_num, P3.out⟩
      case measure => simp [intOf]; omega
    · obtain rfl : k = ops.length := by omega
      have hpn := hpr.pend (by omega)
      obtain ⟨hwr, hDr⟩ := hpr
      rw [List.take_length] at hDr hpn
      have hshape := DSt.plays_shape ops (DSt.new n m)
      have hs1 : ((DSt.new n m).plays ops).size = m := hshape.1
      have hs2 : ((DSt.new n m).plays ops).dur.length = n := hshape.2.1.trans (by simp [DSt.new])
      clear hshape
      generalize (DSt.new n m).plays ops = s at *
      have Hs1 := Lib.hid hs1
      have Hs2 := Lib.hid hs2
      have W0 := Lib.hid hwr
      have D0 := Lib.hid hDr
      clear hs1 hs2 hwr hDr PP
      obtain ⟨F, hDf, hFf⟩ := D0.out
      have hok := hDf.ok
      have hin := hDf.inn
      have DF := Lib.hid hDf
      have FF := Lib.hid hFf
      have IF := Lib.hid hin
      have OK := Lib.hid hok
      clear hDf hFf D0 hin hok
      go_wp2_with fail
      refine (image_any DF.out).mono ?_
      rintro e w3 ⟨iv, rfl, hb3, hv3⟩
      have L3 := Lib.hid hv3.lv
      have D3 := Lib.hid (DF.out.below hb3)
      have W3 := Lib.hid (W0.out.trans (hb3.mono W0.out.size))
      have I3 : Hid (Inn (fun k => wr.heap.size ≤ k ∧ k < w3.heap.size) w3) := fun k hk => hk.2
      have J3 : Hid (Dj (fun k => wr.heap.size ≤ k ∧ k < w3.heap.size) F) := fun k hk hf => by have := IF.out k hf; have := hk.1; omega
      clear hb3 hv3 DF W0 IF
      generalize (fun k => wr.heap.size ≤ k ∧ k < w3.heap.size) = G at *
      go_wp2_with fail
      refine (pending_any D3.out).mono ?_
      rintro e w' ⟨rfl, rfl⟩
      go_wp2_with fail
      refine (spoil_any D3.out sector offset x).mono ?_
      rintro e w4 ⟨rfl, hst4, hD4⟩
      have W4 := Lib.hid (W3.out.trans (hst4.below FF.out W3.out.size))
      have L4 := Lib.hid (L3.out.same (hst4.same I3.out J3.out))
      have I4 := Lib.hid (hst4.inn I3.out)
      have F4 := Lib.hid (Plus.froms (w' := w4) FF.out W3.out.size)
      have J4 := Lib.hid (Plus.dj (w' := w4) I3.out J3.out)
      have D4 := Lib.hid hD4
      clear hst4 hD4 D3 W3 L3 I3 J3 FF
      generalize Plus F w3 w4 = F4' at *
      have Hsp : Hid (s.spoilable sector offset = decide ((0 ≤ sector ∧ sector < (n : Int)) ∧ (0 ≤ offset ∧ offset < (m : Int)))) := by
        have h1 := Hs1.out
        have h2 := Hs2.out
        unfold Hid DSt.spoilable DSt.valid
        rw [h1, h2]
        simp
      by_cases hsp : (0 ≤ sector ∧ sector < (n : Int)) ∧ (0 ≤ offset ∧ offset < (m : Int))
      rotate_left
      · have e1 : s.spoil sector offset x = (1, s) := s.spoil_bad (by rw [Hsp.out]; simpa using hsp)
        rw [e1] at D4 ⊢
        simp only at D4 ⊢
        have hsp' : sector < 0 ∨ (0 ≤ sector ∧ (n : Int) ≤ sector) ∨ ((0 ≤ sector ∧ sector < (n : Int)) ∧ offset < 0) ∨ ((0 ≤ sector ∧ sector < (n : Int)) ∧ 0 ≤ offset ∧ (m : Int) ≤ offset) := by omega
        clear hsp e1
        go_wp2_with fail
        refine (image_any D4.out).mono ?_
        rintro e w5 ⟨iv5, rfl, hb5, hv5⟩
        have L5 := Lib.hid (L4.out.grow hb5)
        have M5 := Lib.hid hv5.lv
        have W5 := Lib.hid (W4.out.trans (hb5.mono W4.out.size))
        clear hb5 hv5 L4 W4
        rcases hsp' with h | ⟨h, h'⟩ | ⟨⟨h, h'⟩, h''⟩ | ⟨⟨h, h'⟩, h'', h'''⟩
        all_goals
          go_wp2_with fail
          refine (sameAll_any L5.out M5.out).mono ?_
          rintro e w6 ⟨rfl, hb6⟩
          have e6 : (s.dur == s.dur) = true := by simp
          rw [e6]
          have W6 := Lib.hid (W5.out.trans (hb6.mono W5.out.size))
          clear hb6
          go_wp2_with fail
          go_ret
          exact ⟨rfl, W6.out⟩
      obtain ⟨⟨h0, h1⟩, h2, h3⟩ := hsp
      obtain ⟨ks, rfl⟩ := Int.eq_ofNat_of_zero_le h0
      obtain ⟨ko, rfl⟩ := Int.eq_ofNat_of_zero_le h2
      have hG := s.spoil_good (k := ks) (o := ko) (x := x) (by have := Hs2.out; omega) (by have := Hs1.out; omega) OK.out.dur
      have hB := s.spoil_back (k := ks) (o := ko) (x := x) (by have := Hs2.out; omega) (by have := Hs1.out; omega) OK.out.dur
      have hL : ∀ d ∈ s.dur, d.length = m := fun d hd => (OK.out.dur d hd).trans Hs1.out
      obtain ⟨g1, g2, g3, g4, g5⟩ := hG
      rw [g1]
      rw [Hs1.out] at g2 g5
      have hpp : ((s.spoil (ks : Int) (ko : Int) x).2.pend.length : Int) = (s.pend.length : Int) := by rw [g3]
      have hn4 : (s.spoil (ks : Int) (ko : Int) x).2.dur.length = n := g4.trans Hs2.out
      have Hn4 := Lib.hid hn4
      have Hpp := Lib.hid hpp
      have HB := Lib.hid hB
      have HG := Lib.hid g5
      have HL := Lib.hid hL
      clear g1 g2 g3 g5 hpp hB hL hn4 Hsp
      generalize (s.spoil (ks : Int) (ko : Int) x).2 = s1 at *
      go_wp2_with fail
      refine (image_any D4.out).mono ?_
      rintro e w5 ⟨iv5, rfl, hb5, hv5⟩
      have L5 := Lib.hid (L4.out.grow hb5)
      have M5 := Lib.hid hv5.lv
      have D5 := Lib.hid (D4.out.below hb5)
      have I5 := Lib.hid (fun k hk => Nat.lt_of_lt_of_le (I4.out k hk) hb5.size : Inn G w5)
      have W5 := Lib.hid (W4.out.trans (hb5.mono W4.out.size))
      clear hb5 hv5 L4 W4 D4 I4
      obtain ⟨ba, bc, rfl, _, _, hgb⟩ := L5.out.get
      obtain ⟨aa, ac, rfl, _, _, hga⟩ := M5.out.get
      obtain ⟨bb, bo, _, rfl, _⟩ := hgb 0 (by have := Hs2.out; omega)
      obtain ⟨ab, ao, _, rfl, _⟩ := hga 0 (by have := Hn4.out; omega)
      rw [Hs2.out, Hn4.out]
      have HGA := Lib.hid hga
      have HGB := Lib.hid hgb
      clear hga hgb
      go_wp2_with fail
      refine (pending_any D5.out).mono ?_
      rintro e w' ⟨rfl, rfl⟩
      rw [Hpp.out]
      go_wp2_with fail
      go_loopw [20] (fun i wx => wx = w5 ∧ ∃ p : Nat, p ≤ n ∧ i = .int .i64 (p : Int)) (fun i _ => n - (intOf i).toNat)
      case atStart => exact ⟨rfl, 0, by omega, rfl⟩
      case round =>
        obtain ⟨hw, p, hp, rfl⟩ := hrel
        have hw2 := hw.symm; clear hw; subst hw2
        by_cases hlt : p < n
        · go_wp2_with fail
          go_loopw [21] (fun j wy => wy = w5 ∧ ∃ q : Nat, q ≤ m ∧ j = .int .i64 (q : Int)) (fun j _ => m - (intOf j).toNat)
          case atStart => exact ⟨rfl, 0, by omega, rfl⟩
          case round =>
            obtain ⟨hw, q, hq, rfl⟩ := hrel
            have hw2 := hw.symm; clear hw; subst hw2
            by_cases hqt : q < m
            · have ip : (p : Int) < (n : Int) := by omega
              have iq : (q : Int) < (m : Int) := by omega
              have hpa : p < s1.dur.length := by have := Hn4.out; omega
              have hpb : p < s.dur.length := by have := Hs2.out; omega
              obtain ⟨_, _, xa, e1, _, ca, va⟩ := HGA.out p hpa
              obtain ⟨rfl, rfl⟩ : _ ∧ _ := by simpa using e1
              obtain ⟨_, _, xb, e2, _, cb, vb⟩ := HGB.out p hpb
              obtain ⟨rfl, rfl⟩ : _ ∧ _ := by simpa using e2
              have hG := HG.out p hpb
              have ga : s1.dur.getD p [] = s1.dur[p] := by simp [List.getD, hpa]
              have gb : s.dur.getD p [] = s.dur[p] := by simp [List.getD, hpb]
              have hlb := HL.out _ (List.getElem_mem hpb)
              rw [ga, gb] at hG
              generalize s1.dur[p] = ra at *
              generalize s.dur[p] = rb at *
              obtain ⟨hla, hG⟩ := hG
              have hG := hG q hqt
              obtain ⟨_, _, rfl, _, _, hra⟩ := va.get
              obtain ⟨_, _, rfl, _, _, hrb⟩ := vb.get
              obtain ⟨rab, rao, rfl, _, da⟩ := hra q (by omega)
              obtain ⟨rbb, rbo, rfl, _, db⟩ := hrb q (by omega)
              have ya : ra.getD q 0 = ra[q] := by simp [List.getD, show q < ra.length from by omega]
              have yb : rb.getD q 0 = rb[q] := by simp [List.getD, show q < rb.length from by omega]
              rw [ya, yb] at hG
              generalize ra[q] = za at *
              generalize rb[q] = zb at *
              rw [hla] at ca
              rw [hlb] at cb
              clear hra hrb va vb e1 e2 ga gb ya yb hla hlb hpa hpb
              by_cases hpk : p = ks
              · by_cases hqk : q = ko
                · rw [if_pos ⟨hpk, hqk⟩] at hG
                  have hx := byte_xor zb x
                  rw [← hG] at hx
                  have i1 : ((p : Int) == (ks : Int)) = true := by simp; omega
                  have i2 : ((q : Int) == (ko : Int)) = true := by simp; omega
                  clear hpk hqk hG
                  go_wp2_with fail
                  go_roundw
                  case rel => exact ⟨by trivial, q + 1, by omega, by go_num⟩
                  case measure => simp [intOf]; omega
                · rw [if_neg (fun h => hqk h.2)] at hG
                  subst hG
                  have i1 : ((p : Int) == (ks : Int)) = true := by simp; omega
                  have i2 : ((q : Int) == (ko : Int)) = false := by simp; omega
                  clear hpk hqk
                  go_wp2_with fail
                  go_roundw
                  case rel => exact ⟨by trivial, q + 1, by omega, by go_num⟩
                  case measure => simp [intOf]; omega
              · rw [if_neg (fun h => hpk h.1)] at hG
                subst hG
                have i1 : ((p : Int) == (ks : Int)) = false := by simp; omega
                clear hpk
                go_wp2_with fail
                go_roundw
                case rel => exact ⟨by trivial, q + 1, by omega, by go_num⟩
                case measure => simp [intOf]; omega
            · obtain rfl : q = m := by omega
              go_wp2_with fail
              go_roundw
              case rel => exact ⟨by trivial, p + 1, by omega, by go_num⟩
              case measure => simp [intOf]; omega
        · obtain rfl : p = n := by omega
          go_wp2_with fail
          refine (spoil_any D5.out (ks : Int) (ko : Int) x).mono ?_
          rintro e w6 ⟨rfl, hst6, hD6⟩
          rw [HB.out.1]
          have L6 := Lib.hid (L5.out.same (hst6.same I5.out J4.out))
          have W6 := Lib.hid (W5.out.trans (hst6.below F4.out W5.out.size))
          have D6 := Lib.hid hD6
          have Hq := Lib.hid HB.out.2
          clear hst6 hD6 L5 W5 D5 HB
          generalize (s1.spoil (ks : Int) (ko : Int) x).2 = s2 at *
          generalize Plus F4' w5 w6 = F6 at *
          go_wp2_with fail
          refine (image_any D6.out).mono ?_
          rintro e w7 ⟨iv7, rfl, hb7, hv7⟩
          have L7 := Lib.hid (L6.out.grow hb7)
          have M7 := Lib.hid hv7.lv
          have W7 := Lib.hid (W6.out.trans (hb7.mono W6.out.size))
          rw [Hq.out] at M7
          rw [Hs2.out] at L7
          clear hb7 hv7 L6 W6 D6
          go_wp2_with fail
          refine (sameAll_any L7.out M7.out).mono ?_
          rintro e w8 ⟨rfl, hb8⟩
          have e8 : (s.dur == s.dur) = true := by simp
          rw [e8]
          have W8 := Lib.hid (W7.out.trans (hb8.mono W7.out.size))
          clear hb8
          go_wp2_with fail
          go_ret
          exact ⟨rfl, W8.out⟩
end Go.Proofs.Ytibojbbhffoldaa
