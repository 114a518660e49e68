/- The walk of DiskKeeps. -/
import Derived.Test.YtibojbbhffoldaaListO
namespace Go.Proofs.Ytibojbbhffoldaa
open Go.RowKit Go.Maps
theorem sync_cases (s : DSt) : (s.sync.1 = 0 ∧ s.sync.2.pend = [] ∧ s.sync.2.down = false) ∨ (s.sync.1 = 8 ∧ s.sync.2.down = true) := by
  unfold DSt.sync
  cases hd : s.down
  · by_cases ha : s.after = 0
    · right; simp [DSt.failing, ha, DSt.step]
    · left
      simp only [Bool.false_eq_true, if_false, DSt.failing, decide_eq_true_eq, if_neg ha]
      refine ⟨trivial, rfl, ?_⟩
      simp only [DSt.flush, DSt.step]
      split
      · exact hd
      · simp [ha]
  · right; simp [hd]
set_option maxRecDepth 100000 in
set_option maxHeartbeats 4000000 in
theorem diskKeeps_walk (w : World) (sectors : Int) (_ : -9223372036854775808 ≤ sectors) (_ : sectors ≤ 9223372036854775807) (size : Int) (_ : -9223372036854775808 ≤ size) (_ : size ≤ 9223372036854775807) (v : Value) (ops : List Op15) (hv : OpsV w (fun k => k < w.heap.size) v ops) (kv : Value) (keep : List Bool) (hkv : BoolsV w (fun k => k < w.heap.size) kv keep) (tn : Int) (_ : -9223372036854775808 ≤ tn) (_ : tn ≤ 9223372036854775807) :
    Calls Try.prog 9 #[.int .i64 sectors, .int .i64 size, v, kv, .int .i64 tn] w fun e w' => e = .returned (.bool true) ∧ Below w.heap.size w w' := by
  obtain ⟨va, vc, rfl, va1, va2, _⟩ := hv.get
  unfold maxLen at va2
  have V0 := Lib.hid hv; clear hv
  by_cases hs : Small sectors size ops.length
  rotate_left
  go_enter Try.func9, Try.ntmps9
  go_wp2_with fail
  refine (awake_any w).mono ?_
  rintro e w1 ⟨rfl, hb1⟩
  go_wp2_with fail
  refine (small_no _ _ _ _ _ hs).mono ?_
  rintro e w' ⟨rfl, rfl⟩
  go_wp2_with fail
  go_ret
  exact ⟨rfl, hb1⟩
  obtain ⟨n, rfl⟩ := Int.eq_ofNat_of_zero_le (show 0 ≤ sectors by have := hs.1; omega)
  obtain ⟨m, rfl⟩ := Int.eq_ofNat_of_zero_le (show 0 ≤ size by have := hs.2.2.1; omega)
  have hs' := hs
  obtain ⟨hn1, hn2, hm1, hm2, hl40⟩ := hs'
  go_enter Try.func9, Try.ntmps9
  go_wp2_with fail
  refine (awake_any w).mono ?_
  rintro e w1 ⟨rfl, hb1⟩
  have B1 := Lib.hid hb1
  clear hb1
  go_wp2_with fail
  refine (small_yes _ _ _ _ _ hs).mono ?_
  rintro e w' ⟨rfl, rfl⟩
  go_wp2_with fail
  refine (new_yes n m w1 (by omega) (by omega) (by omega) (by omega)).mono ?_
  rintro e w2 ⟨b, rfl, hb2, hD2⟩
  have P2 : PlayedR w (DSt.new n m) b ops 0 w2 := ⟨B1.out.trans (hb2.mono B1.out.size), DiskIn.of_new hD2 B1.out.size⟩
  have PP := Lib.hid P2
  clear P2 hb2 hD2
  go_wp2_with fail
  go_loopw [13] (fun i wr => ∃ k : Nat, k ≤ ops.length ∧ i = .int .i64 (k : Int) ∧ PlayedR w (DSt.new n m) b ops k wr) (fun i _ => ops.length - (intOf i).toNat)
  case atStart => exact ⟨0, Nat.zero_le _, rfl, PP.out⟩
  case round =>
    obtain ⟨k, hk, rfl, hpr⟩ := hrel
    by_cases hlt : k < ops.length
    · obtain ⟨_, _, e0, _, _, hget⟩ := (V0.out.same (fun x hx => hpr.1.block x hx)).get
      obtain ⟨rfl, rfl⟩ : _ ∧ _ := by simpa using e0
      obtain ⟨ob, oo, dv, kv, rfl, hFb, hfit, hdv, hkv, o0, o1, o2, o3, o4, o5⟩ := hget k hlt
      have hpn := hpr.pend (by omega)
      have Hpr := Lib.hid hpr
      have Hfit := Lib.hid hfit
      have Hdv := Lib.hid hdv
      have Hkv := Lib.hid hkv
      have Hlt := Lib.hid hlt
      obtain ⟨da, dc, rfl, _, _, _⟩ := hdv.get
      obtain ⟨ka, kc, rfl, _, _, _⟩ := SV.get hkv
      clear hget hpr hfit hdv hkv e0 hFb
      have ik : (k : Int) < (ops.length : Int) := by omega
      go_wp2_with fail
      refine (play_any Hpr.out.2 Hpr.out.1.size (by omega) ops[k] Hfit.out _ _ Hdv.out Hkv.out).mono ?_
      rintro e w3 ⟨rv, rfl, hb3, hD3, _⟩
      have P3 := Lib.hid (Hpr.out.step Hlt.out hb3 hD3)
      clear hb3 hD3 o0 o1 o2 o3 o4 o5
      go_wp2_with fail
      go_roundw
      case rel => exact ⟨k + 1, by omega, by go_num, P3.out⟩
      case measure => simp [intOf]; omega
    · obtain rfl : k = ops.length := by omega
      have hpn := hpr.pend (by omega)
      obtain ⟨hwr, hDr⟩ := hpr
      rw [List.take_length] at hDr hpn
      have hshape := DSt.plays_shape ops (DSt.new n m)
      have hs1 : ((DSt.new n m).plays ops).size = m := hshape.1
      have hs2 : ((DSt.new n m).plays ops).dur.length = n := hshape.2.1.trans (by simp [DSt.new])
      clear hshape
      generalize (DSt.new n m).plays ops = s at *
      have Hs1 := Lib.hid hs1
      have Hs2 := Lib.hid hs2
      have W0 := Lib.hid hwr
      have D0 := Lib.hid hDr
      clear hs1 hs2 hwr hDr PP
      obtain ⟨F, hD, hF⟩ := D0.out
      go_wp2_with fail
      refine (sync_any hD (by omega)).mono ?_
      rintro e w3 ⟨rfl, hst, hD3⟩
      have hb3 := hst.below hF W0.out.size
      have W3 := Lib.hid (W0.out.trans hb3)
      have F3 := Lib.hid (Plus.froms (w' := w3) hF W0.out.size)
      have sh := s.sync_shape
      have Sz := Lib.hid (sh.1.trans Hs1.out)
      have Sn := Lib.hid (sh.2.1.trans Hs2.out)
      have sc := sync_cases s
      clear hst hb3 sh hpn hD hF D0
      generalize s.sync.1 = code at *
      generalize s.sync.2 = t at *
      have D3 := Lib.hid hD3; clear hD3
      generalize Plus F wr w3 = F' at *
      rcases sc with ⟨rfl, hpe, hdn⟩ | ⟨rfl, hdn⟩
      rotate_left
      · go_wp2_with fail
        refine (down_any D3.out).mono ?_
        rintro e w' ⟨rfl, rfl⟩
        rw [hdn]
        go_wp2_with fail
        go_ret
        exact ⟨rfl, W3.out⟩
      have Hpe := Lib.hid hpe; clear hpe
      have Hdn := Lib.hid hdn; clear hdn
      go_wp2_with fail
      have lv0 : ListOwn w.heap.size (w3.alloc (.cells #[] 22)) F' (fun _ => False) (.slice (some ⟨w3.heap.size, 0, none⟩) 0 0) [] [] := by
        refine ⟨⟨rfl, .inr ⟨w3.heap.size, 0, #[], rfl, Nat.zero_le _, heap_alloc_new _ _, Nat.le_refl _, Nat.zero_le _, rfl, rfl⟩⟩, All2.nil, fun g hg => ?_, fun k h => h.elim, fun k h => h.elim, fun k h => h.elim⟩
        simp only [Value.ownBlock, Option.some.injEq] at hg
        subst hg
        exact ⟨id, fun h => by have := D3.out.inn _ h; omega, W3.out.size⟩
      have L0 := Lib.hid lv0; clear lv0
      have D4 := Lib.hid (D3.out.below ((Below.refl _ _).alloc (Nat.le_refl _) (.cells #[] 22)))
      have W4 := Lib.hid (W3.out.alloc W3.out.size (.cells #[] 22))
      clear D3 W3
      generalize hwx : w3.alloc (.cells #[] 22) = w4 at *
      go_loopw [15, 14] (fun i bv wr => ∃ (k : Nat) (G : Nat → Prop) (vs : List Value), k ≤ n ∧ i = .int .i64 (k : Int) ∧ Below w.heap.size w wr ∧ DiskAt wr t b F' ∧ ListOwn w.heap.size wr F' G bv (t.dur.take k) vs) (fun i _ _ => n - (intOf i).toNat)
      case atStart => exact ⟨0, fun _ => False, [], Nat.zero_le _, rfl, W4.out, D4.out, by simpa using L0.out⟩
      case round =>
        obtain ⟨k, G, vs, hk, rfl, hbl, hDk, hL⟩ := hrel
        obtain ⟨ba, bc, rfl⟩ := hL.shape
        by_cases hlt : k < n
        · have hkd : k < t.dur.length := by rw [Sn.out]; exact hlt
          have hrd : t.read (k : Int) = (0, t.dur[k]) := by
            have h1 := Hdn.out
            have h2 := Hpe.out
            simp [DSt.read, h1, DSt.valid, hkd, DSt.look, h2, DSt.lastIdx]
          have hll : (t.dur[k]).length = m := (hDk.ok.dur _ (List.getElem_mem hkd)).trans Sz.out
          have htl : (t.dur.take k).length = k := by simp; omega
          rw [htl] at hL
          rw [htl]
          have Hrd := Lib.hid hrd
          have Hll := Lib.hid hll
          have Hbl := Lib.hid hbl
          have HDk := Lib.hid hDk
          have HL := Lib.hid hL
          have Htl := Lib.hid htl
          clear hrd hll hbl hDk hL htl
          go_wp2_with fail
          refine (read_any HDk.out (k : Int)).mono ?_
          rintro e wr3 ⟨rv, rfl, hb3, hv3⟩
          rw [Hrd.out] at hv3 ⊢
          simp only at hv3 ⊢
          rcases hv3 with ⟨_, h0⟩ | ⟨k6, rfl, hk6, hkb6, hkl6⟩
          · have := Hll.out; rw [h0] at this; simp at this; omega
          have L3 := HL.out.below hb3
          have D3' := HDk.out.below hb3
          have X3 := (Below.refl wr3.heap.size wr3).alloc (Nat.le_refl _) (.cells #[.slice (some ⟨k6, 0, none⟩) (t.dur[k]).length (t.dur[k]).length] 22)
          have L4 := Lib.hid (L3.below X3)
          have D4' := Lib.hid (D3'.below X3)
          have W4' := Lib.hid (Hbl.out.trans ((hb3.mono Hbl.out.size).trans (X3.mono (Nat.le_trans Hbl.out.size hb3.size))))
          have V4 := Lib.hid ((BV.whole hkb6 (by omega)).alloc (.cells #[.slice (some ⟨k6, 0, none⟩) (t.dur[k]).length (t.dur[k]).length] 22))
          have l6 := hkb6.lt
          have hb3s := hb3.size
          have hk6F : Hid (¬ F' k6) := fun h => by have := HDk.out.inn k6 h; omega
          have hk6v : Hid ((Value.slice ba k bc).ownBlock ≠ some k6) := fun h => by have := HL.out.rowLt k6 h; omega
          have hB6 : Hid (w.heap.size ≤ k6) := Nat.le_trans Hbl.out.size hk6
          clear L3 D3' X3 hkb6 hb3
          obtain ⟨i0, hi0, hz0, hz1, hz2⟩ := info_parts Try.infoRow
          go_wp2_with (at_builtin; refine wpList_append_lies _ rfl (.tmp 62) (.tmp 64) _ rfl 0 22 i0 _ 1 24 Try.underlying33 hi0 hz0 hz1 hz2 rfl (by omega) (.slice ba k bc) k vs (by rfl) (by have := L4.out.row; rwa [Htl.out] at this) ⟨wr3.heap.size, 0, none⟩ 1 1 [.slice (some ⟨k6, 0, none⟩) (t.dur[k]).length (t.dur[k]).length] (by rfl) (by rfl) (World.news_of_block (heap_alloc_new _ _)) (by simp [Value.oneCell']) (by omega) (by have := Htl.out; unfold maxLen; omega) (by have := Htl.out; omega) (by omega) (wr3.heap.size + 1) (by simp) ?_)
          intro g cap wr5 hown hgrow hat _
          have L5 := L4.out.push V4.out (G' := fun x => x = k6) (fun x hx => by subst hx; simp; omega) (fun x hx => by subst hx; exact ⟨hB6.out, hk6F.out, hk6v.out⟩) D4'.out.inn W4'.out.size Htl.out hown hgrow (by simpa using hat)
          have P5 : Stp (fun x => (Value.slice ba k bc).ownBlock = some x) (wr3.alloc (.cells #[.slice (some ⟨k6, 0, none⟩) (t.dur[k]).length (t.dur[k]).length] 22)) wr5 := (Stp.refl _ _).grown hgrow (fun x hx => .inl hx)
          have D5 := Lib.hid (D4'.out.same (P5.same D4'.out.inn (fun x hx hv => (L4.out.apart x hv).2.1 hx)) P5.size)
          have W5 := Lib.hid (W4'.out.trans (P5.below (fun x hx => (L4.out.apart x hx).2.2) W4'.out.size))
          rw [← List.take_succ_eq_append_getElem hkd] at L5
          have L5' := Lib.hid L5
          clear hown hgrow hat L5 P5
          go_wp2_with fail
          go_roundw
          case rel => exact ⟨k + 1, _, _, by omega, by go_num, W5.out, D5.out, L5'.out⟩
          case measure => simp [intOf]; omega
        · obtain rfl : k = n := by omega
          have htk : t.dur.take k = t.dur := List.take_of_length_le (by rw [Sn.out]; exact Nat.le_refl _)
          rw [htk] at hL
          rw [htk]
          have Hbl := Lib.hid hbl
          have HDk := Lib.hid hDk
          have HL := Lib.hid hL
          clear hbl hDk hL htk
          go_wp2_with fail
          refine (image_any HDk.out).mono ?_
          rintro e w5 ⟨iv, rfl, hb5, hv5⟩
          have L5 := Lib.hid (HL.out.below hb5)
          have D5 := Lib.hid (HDk.out.below hb5)
          have W5 := Lib.hid (Hbl.out.trans (hb5.mono Hbl.out.size))
          have I5 := Lib.hid hv5.lv
          clear hb5 hv5 Hbl HDk HL
          go_wp2_with fail
          refine (sameAll_any L5.out.lv I5.out).mono ?_
          rintro e w6 ⟨rfl, hb6⟩
          have e6 : (t.dur == t.dur) = true := by simp
          rw [e6]
          have L6 := Lib.hid (L5.out.below hb6)
          have D6 := Lib.hid (D5.out.below hb6)
          have W6 := Lib.hid (W5.out.trans (hb6.mono W5.out.size))
          have K6 := Lib.hid (SV.same hkv (w' := w6) (fun x hx => W6.out.block x hx))
          clear hb6 L5 D5 W5 I5 e6
          go_wp2_with fail
          obtain ⟨bd, bm, dvs, pv, pvs, D, hD6⟩ := D6.out
          refine (crash_loop hD6 (by have := Hpe.out; rw [this]; simp) kv keep K6.out (fun x hx hf => by have := F3.out x hf; omega) tn).mono ?_
          rintro e w7 ⟨rfl, hst7, hD7⟩
          have hdur : (t.crash keep tn).dur = t.dur := by
            have := Hpe.out
            simp [DSt.crash, this, DSt.crashGo]
          have hdown : (t.crash keep tn).down = false := rfl
          generalize t.crash keep tn = t2 at *
          have W7 := Lib.hid (W6.out.trans (hst7.below F3.out W6.out.size))
          have L7 := Lib.hid (L6.out.stp hst7)
          have D7 := Lib.hid hD7
          generalize Plus F' w6 w7 = F7 at *
          have Hdur := Lib.hid hdur
          have Hdown := Lib.hid hdown
          clear hst7 hD7 hD6 L6 D6 W6 hdur hdown
          go_wp2_with fail
          refine (image_any D7.out).mono ?_
          rintro e w8 ⟨iv8, rfl, hb8, hv8⟩
          rw [Hdur.out] at hv8
          have L8 := Lib.hid (L7.out.below hb8)
          have D8 := Lib.hid (D7.out.below hb8)
          have W8 := Lib.hid (W7.out.trans (hb8.mono W7.out.size))
          have I8 := Lib.hid hv8.lv
          clear hb8 hv8 W7 D7 L7
          go_wp2_with fail
          refine (sameAll_any L8.out.lv I8.out).mono ?_
          rintro e w9 ⟨rfl, hb9⟩
          have e9 : (t.dur == t.dur) = true := by simp
          rw [e9]
          have D9 := Lib.hid (D8.out.below hb9)
          have W9 := Lib.hid (W8.out.trans (hb9.mono W8.out.size))
          clear hb9 e9 L8 D8 W8 I8
          go_wp2_with fail
          refine (down_any D9.out).mono ?_
          rintro e w' ⟨rfl, rfl⟩
          rw [Hdown.out]
          go_wp2_with fail
          go_ret
          exact ⟨rfl, W9.out⟩
end Go.Proofs.Ytibojbbhffoldaa
