/- The walk of DiskReads. -/
import Derived.Test.YtibojbbhffoldaaPlays
namespace Go.Proofs.Ytibojbbhffoldaa
open Go.RowKit Go.Maps
namespace DSt
theorem foldl_getD (k : Nat) : ∀ (ps : List (Nat × List UInt8)) (d : List (List UInt8)), (∀ p ∈ ps, p.1 < d.length) →
    (ps.foldl (fun d p => d.set p.1 p.2) d).getD k [] = match lastIdx k ps 0 with
      | some j => (ps.getD j (0, [])).2
      | none => d.getD k []
  | [], d, _ => by simp [lastIdx]
  | p :: ps, d, h => by
    have h1 := h p (by simp)
    have ih := foldl_getD k ps (d.set p.1 p.2) (fun q hq => by simpa using h q (by simp [hq]))
    have shift : ∀ (ps : List (Nat × List UInt8)) (i : Nat), lastIdx k ps (i + 1) = (lastIdx k ps i).map (· + 1) := by
      intro ps
      induction ps with
      | nil => intro i; rfl
      | cons q qs ih2 =>
        intro i
        simp only [lastIdx, ih2 (i + 1)]
        cases lastIdx k qs (i + 1) with
        | none => simp only [Option.map_none]; split <;> rfl
        | some j => rfl
    simp only [List.foldl_cons, ih, lastIdx, shift ps 0, Nat.zero_add]
    cases lastIdx k ps 0 with
    | some j => simp [List.getD]
    | none =>
      simp only [Option.map_none]
      by_cases hp : p.1 = k
      · subst hp; simp [List.getD, h1]
      · simp [hp, List.getD]
/-- Behind a write to sector k: what stays so by writes to other sectors, reads and syncs. -/
structure Holds (t : DSt) (n : Nat) (k : Nat) (data : List UInt8) : Prop where
  len : t.dur.length = n
  lt : k < n
  look : t.look k = data
theorem step_look (s : DSt) (k : Nat) : s.step.look k = s.look k := by unfold look; rw [step_pend, step_dur]
theorem push_look_other (s : DSt) {j k : Nat} (h : j ≠ k) (d : List UInt8) : (s.push j d).look k = s.look k := by
  have e : lastIdx k (s.push j d).pend 0 = lastIdx k s.pend 0 := by simp [push, lastIdx_snoc, h]
  simp only [look, e]
  cases hl : lastIdx k s.pend 0 with
  | none => rfl
  | some i =>
    obtain ⟨_, h2, _⟩ := lastIdx_some k s.pend 0 i hl
    simp only [push, List.getD]
    rw [List.getElem?_append_left (by omega)]
theorem push_look_same (s : DSt) (k : Nat) (d : List UInt8) : (s.push k d).look k = d := by
  simp [look, push, lastIdx_snoc]
theorem Holds.write {t : DSt} {n k : Nat} {data : List UInt8} (h : Holds t n k data) (j : Int) (d : List UInt8) (hj : j ≠ (k : Int)) : Holds (t.write j d).2 n k data := by
  unfold DSt.write
  split
  · exact h
  · split
    · exact h
    · rename_i hv
      simp [valid] at hv
      refine ⟨by simp [step_dur, push, h.len], h.lt, ?_⟩
      simp only [step_look]
      rw [push_look_other _ (by omega)]
      exact h.look
theorem Holds.sync {t : DSt} {n k : Nat} {data : List UInt8} (h : Holds t n k data) (ho : t.Ok) : Holds t.sync.2 n k data := by
  unfold DSt.sync
  split
  · exact h
  · split
    · exact ⟨by simp [step_dur, h.len], h.lt, by simp only [step_look]; exact h.look⟩
    · refine ⟨by simp [flush, foldl_set_len, step_dur, h.len], h.lt, ?_⟩
      have e := foldl_getD k t.step.pend t.step.dur (fun p hp => by rw [step_dur]; rw [step_pend] at hp; exact (ho.pend p hp).1)
      have : t.step.flush.look k = (t.step.pend.foldl (fun d p => d.set p.1 p.2) t.step.dur).getD k [] := rfl
      simp only [this, e]
      have := h.look
      unfold look at this
      rw [step_pend, step_dur]
      exact this
theorem Holds.play {t : DSt} {n k : Nat} {data : List UInt8} (h : Holds t n k data) (ho : t.Ok) (o : Op15) (hk : (o.kind = 0 ∧ o.sector ≠ (k : Int)) ∨ o.kind = 1 ∨ o.kind = 2) : Holds (t.play o).2 n k data := by
  unfold DSt.play
  rcases hk with ⟨h0, h1⟩ | h0 | h0
  · simp only [h0, if_true]; exact h.write _ _ h1
  · simp only [h0]; exact h
  · simp only [h0]; exact h.sync ho
theorem write_zero {s : DSt} {j : Int} {d : List UInt8} (h : (s.write j d).1 = 0) : ∃ k : Nat, j = (k : Int) ∧ Holds (s.write j d).2 s.dur.length k d := by
  unfold DSt.write at h ⊢
  split at h
  · simp at h
  · rename_i h1
    split at h
    · simp at h
    · rename_i h2
      simp [valid] at h2
      obtain ⟨k, rfl⟩ := Int.eq_ofNat_of_zero_le h2.1.1
      refine ⟨k, rfl, ?_⟩
      rw [if_neg h1, if_neg (by simp [valid]; omega)]
      exact ⟨by simp [step_dur, push], by omega, by simp only [step_look]; exact push_look_same _ _ _⟩
theorem Holds.read {t : DSt} {n k : Nat} {data : List UInt8} (h : Holds t n k data) : t.read (k : Int) = if t.down then (8, []) else (0, data) := by
  have h1 := h.len
  have h2 := h.lt
  have h3 := h.look
  cases hd : t.down
  · simp [DSt.read, hd, valid, h1, h2, h3]
  · simp [DSt.read, hd]
end DSt
set_option maxRecDepth 100000 in
set_option maxHeartbeats 4000000 in
theorem diskReads_walk (w : World) (sectors : Int) (_ : -9223372036854775808 ≤ sectors) (_ : sectors ≤ 9223372036854775807) (size : Int) (_ : -9223372036854775808 ≤ size) (_ : size ≤ 9223372036854775807) (v : Value) (ops : List Op15) (hv : OpsV w (fun k => k < w.heap.size) v ops) (sector : Int) (_ : -9223372036854775808 ≤ sector) (_ : sector ≤ 9223372036854775807) (dv : Value) (data : List UInt8) (hdat : BV w (fun k => k < w.heap.size) dv data) (bv : Value) (bl : List Op15) (hbv : OpsV w (fun k => k < w.heap.size) bv bl) :
    Calls Try.prog 8 #[.int .i64 sectors, .int .i64 size, v, .int .i64 sector, dv, bv] w fun e w' => e = .returned (.bool true) ∧ Below w.heap.size w w' := by
  obtain ⟨ba, bc, rfl, ba1, ba2, _⟩ := hbv.get
  unfold maxLen at ba2
  obtain ⟨da, dc, rfl, da1, da2, _⟩ := hdat.get
  unfold maxLen at da2
  have VB := Lib.hid hbv; clear hbv
  have VD := Lib.hid hdat; clear hdat
  obtain ⟨va, vc, rfl, va1, va2, _⟩ := hv.get
  unfold maxLen at va2
  have V0 := Lib.hid hv; clear hv
  by_cases hs : Small sectors size ops.length
  rotate_left
  go_enter Try.func8, Try.ntmps8
  go_wp2_with fail
  refine (awake_any w).mono ?_
  rintro e w1 ⟨rfl, hb1⟩
  go_wp2_with fail
  refine (small_no _ _ _ _ _ hs).mono ?_
  rintro e w' ⟨rfl, rfl⟩
  go_wp2_with fail
  go_ret
  exact ⟨rfl, hb1⟩
  obtain ⟨n, rfl⟩ := Int.eq_ofNat_of_zero_le (show 0 ≤ sectors by have := hs.1; omega)
  obtain ⟨m, rfl⟩ := Int.eq_ofNat_of_zero_le (show 0 ≤ size by have := hs.2.2.1; omega)
  have hs' := hs
  obtain ⟨hn1, hn2, hm1, hm2, hl40⟩ := hs'
  by_cases h20 : 20 < bl.length
  · go_enter Try.func8, Try.ntmps8
    go_wp2_with fail
    refine (awake_any w).mono ?_
    rintro e w1 ⟨rfl, hb1⟩
    go_wp2_with fail
    refine (small_yes _ _ _ _ _ hs).mono ?_
    rintro e w' ⟨rfl, rfl⟩
    go_wp2_with fail
    go_ret
    exact ⟨rfl, hb1⟩
  go_enter Try.func8, Try.ntmps8
  go_wp2_with fail
  refine (awake_any w).mono ?_
  rintro e w1 ⟨rfl, hb1⟩
  have B1 := Lib.hid hb1
  clear hb1
  go_wp2_with fail
  refine (small_yes _ _ _ _ _ hs).mono ?_
  rintro e w' ⟨rfl, rfl⟩
  go_wp2_with fail
  refine (new_yes n m w1 (by omega) (by omega) (by omega) (by omega)).mono ?_
  rintro e w2 ⟨b, rfl, hb2, hD2⟩
  have P2 : PlayedR w (DSt.new n m) b ops 0 w2 := ⟨B1.out.trans (hb2.mono B1.out.size), DiskIn.of_new hD2 B1.out.size⟩
  have PP := Lib.hid P2
  clear P2 hb2 hD2
  go_wp2_with fail
  go_loopw [15] (fun i wr => ∃ k : Nat, k ≤ ops.length ∧ i = .int .i64 (k : Int) ∧ PlayedR w (DSt.new n m) b ops k wr) (fun i _ => ops.length - (intOf i).toNat)
  case atStart => exact ⟨0, Nat.zero_le _, rfl, PP.out⟩
  case round =>
    obtain ⟨k, hk, rfl, hpr⟩ := hrel
    by_cases hlt : k < ops.length
    · obtain ⟨_, _, e0, _, _, hget⟩ := (V0.out.same (fun x hx => hpr.1.block x hx)).get
      obtain ⟨rfl, rfl⟩ : _ ∧ _ := by simpa using e0
      obtain ⟨ob, oo, dv, kv, rfl, hFb, hfit, hdv, hkv, o0, o1, o2, o3, o4, o5⟩ := hget k hlt
      have hpn := hpr.pend (by omega)
      have Hpr := Lib.hid hpr
      have Hfit := Lib.hid hfit
      have Hdv := Lib.hid hdv
      have Hkv := Lib.hid hkv
      have Hlt := Lib.hid hlt
      obtain ⟨da, dc, rfl, _, _, _⟩ := hdv.get
      obtain ⟨ka, kc, rfl, _, _, _⟩ := SV.get hkv
      clear hget hpr hfit hdv hkv e0 hFb
      have ik : (k : Int) < (ops.length : Int) := by omega
      go_wp2_with fail
      refine (play_any Hpr.out.2 Hpr.out.1.size (by omega) ops[k] Hfit.out _ _ Hdv.out Hkv.out).mono ?_
      rintro e w3 ⟨rv, rfl, hb3, hD3, _⟩
      have P3 := Lib.hid (Hpr.out.step Hlt.out hb3 hD3)
      clear hb3 hD3 o0 o1 o2 o3 o4 o5
      go_wp2_with fail
      go_roundw
      case rel => exact ⟨k + 1, by omega, by go_num, P3.out⟩
      case measure => simp [intOf]; omega
    · obtain rfl : k = ops.length := by omega
      have hpn := hpr.pend (by omega)
      obtain ⟨hwr, hDr⟩ := hpr
      rw [List.take_length] at hDr hpn
      have hshape := DSt.plays_shape ops (DSt.new n m)
      have hs1 : ((DSt.new n m).plays ops).size = m := hshape.1
      have hs2 : ((DSt.new n m).plays ops).dur.length = n := hshape.2.1.trans (by simp [DSt.new])
      clear hshape
      generalize (DSt.new n m).plays ops = s at *
      have Hs1 := Lib.hid hs1
      have Hs2 := Lib.hid hs2
      have W0 := Lib.hid hwr
      have D0 := Lib.hid hDr
      clear hs1 hs2 hwr hDr PP
      go_wp2_with fail
      refine (D0.out.write W0.out.size sector _ data (VD.out.same (fun x hx => W0.out.block x hx)) (by omega)).mono ?_
      rintro e w3 ⟨rfl, hb3, hD3⟩
      have W3 := Lib.hid (W0.out.trans hb3)
      have hpl := (s.write_shape sector data).2.2
      by_cases hc : (s.write sector data).1 = 0
      rotate_left
      · have hc' : ((s.write sector data).1 != 0) = true := by simpa using hc
        clear hc
        generalize (s.write sector data).1 = code at *
        go_wp2_with fail
        go_ret
        exact ⟨rfl, W3.out⟩
      obtain ⟨ks, rfl, hH⟩ := DSt.write_zero hc
      rw [hc]
      rw [Hs2.out] at hH
      have H0 := Lib.hid hH
      have D3 := Lib.hid hD3
      have hpl2 : (s.write (ks : Int) data).2.pend.length < 1001 := by omega
      clear hb3 hD3 hH hc hpl hpn D0 W0
      generalize (s.write (ks : Int) data).2 = t0 at *
      go_wp2_with fail
      go_loopw [16] (fun i wr => ∃ (k : Nat) (t : DSt), k ≤ bl.length ∧ i = .int .i64 (k : Int) ∧ Below w.heap.size w wr ∧ DiskIn w.heap.size wr t b ∧ DSt.Holds t n ks data ∧ t.pend.length ≤ 1000 + k) (fun i _ => bl.length - (intOf i).toNat)
      case atStart => exact ⟨0, t0, Nat.zero_le _, rfl, W3.out, D3.out, H0.out, by omega⟩
      case round =>
        obtain ⟨k, t, hk, rfl, hbl, hD, hH, hpt⟩ := hrel
        by_cases hlt : k < bl.length
        · obtain ⟨_, _, e0, _, _, hget⟩ := (VB.out.same (fun x hx => hbl.block x hx)).get
          obtain ⟨rfl, rfl⟩ : _ ∧ _ := by simpa using e0
          obtain ⟨ob, oo, odv, okv, rfl, hFb, hfit, hdv, hkv, o0, o1, o2, o3, o4, o5⟩ := hget k hlt
          obtain ⟨oda, odc, rfl, _, _, _⟩ := hdv.get
          obtain ⟨oka, okc, rfl, _, _, _⟩ := SV.get hkv
          have Hfit := Lib.hid hfit
          have Hdv := Lib.hid hdv
          have Hkv := Lib.hid hkv
          have HH := Lib.hid hH
          have HD := Lib.hid hD
          have Hbl := Lib.hid hbl
          have ik : (k : Int) < (bl.length : Int) := by omega
          clear hget hfit hdv hkv e0 hFb hH hD hbl
          generalize bl[k] = o at *
          obtain ⟨kind, sec, dat, nn, kp, x⟩ := o
          simp only at *
          have hcase : (kind = 0 ∧ sec ≠ (ks : Int)) ∨ (kind = 0 ∧ sec = (ks : Int)) ∨ kind = 1 ∨ kind = 2 ∨ (kind ≠ 0 ∧ kind ≠ 1 ∧ kind ≠ 2) := by omega
          rcases hcase with ⟨rfl, hne⟩ | ⟨rfl, rfl⟩ | rfl | rfl | ⟨h0, h1, h2⟩
          · have hneb : (sec != (ks : Int)) = true := by simpa using hne
            have Hne := Lib.hid hne
            clear hne
            go_wp2_with fail
            refine (play_any HD.out Hbl.out.size (by omega) ⟨0, sec, dat, nn, kp, x⟩ Hfit.out _ _ Hdv.out Hkv.out).mono ?_
            rintro e w4 ⟨rv, rfl, hb4, hD4, _⟩
            have W4 := Lib.hid (Hbl.out.trans hb4)
            have D4 := Lib.hid hD4
            have H4 := Lib.hid (HH.out.play HD.out.ok ⟨0, sec, dat, nn, kp, x⟩ (.inl ⟨rfl, Hne.out⟩))
            have hp4 := (t.play_shape ⟨0, sec, dat, nn, kp, x⟩).2.2
            clear hb4 hD4 o0 o1 o2 o3 o4 o5
            go_wp2_with fail
            go_roundw
            case rel => exact ⟨k + 1, _, by omega, by go_num, W4.out, D4.out, H4.out, by omega⟩
            case measure => simp [intOf]; omega
          · go_wp2_with fail
            go_roundw
            case rel => exact ⟨k + 1, t, by omega, by go_num, Hbl.out, HD.out, HH.out, by omega⟩
            case measure => simp [intOf]; omega
          · go_wp2_with fail
            refine (play_any HD.out Hbl.out.size (by omega) ⟨1, sec, dat, nn, kp, x⟩ Hfit.out _ _ Hdv.out Hkv.out).mono ?_
            rintro e w4 ⟨rv, rfl, hb4, hD4, _⟩
            have W4 := Lib.hid (Hbl.out.trans hb4)
            have D4 := Lib.hid hD4
            have H4 := Lib.hid (HH.out.play HD.out.ok ⟨1, sec, dat, nn, kp, x⟩ (.inr (.inl rfl)))
            have hp4 := (t.play_shape ⟨1, sec, dat, nn, kp, x⟩).2.2
            clear hb4 hD4 o0 o1 o2 o3 o4 o5
            go_wp2_with fail
            go_roundw
            case rel => exact ⟨k + 1, _, by omega, by go_num, W4.out, D4.out, H4.out, by omega⟩
            case measure => simp [intOf]; omega
          · go_wp2_with fail
            refine (play_any HD.out Hbl.out.size (by omega) ⟨2, sec, dat, nn, kp, x⟩ Hfit.out _ _ Hdv.out Hkv.out).mono ?_
            rintro e w4 ⟨rv, rfl, hb4, hD4, _⟩
            have W4 := Lib.hid (Hbl.out.trans hb4)
            have D4 := Lib.hid hD4
            have H4 := Lib.hid (HH.out.play HD.out.ok ⟨2, sec, dat, nn, kp, x⟩ (.inr (.inr rfl)))
            have hp4 := (t.play_shape ⟨2, sec, dat, nn, kp, x⟩).2.2
            clear hb4 hD4 o0 o1 o2 o3 o4 o5
            go_wp2_with fail
            go_roundw
            case rel => exact ⟨k + 1, _, by omega, by go_num, W4.out, D4.out, H4.out, by omega⟩
            case measure => simp [intOf]; omega
          · have hb0 : (kind == 0) = false := by simpa using h0
            have hb1 : (kind == 1) = false := by simpa using h1
            have hb2 : (kind == 2) = false := by simpa using h2
            clear h0 h1 h2
            go_wp2_with fail
            go_roundw
            case rel => exact ⟨k + 1, t, by omega, by go_num, Hbl.out, HD.out, HH.out, by omega⟩
            case measure => simp [intOf]; omega
        · obtain rfl : k = bl.length := by omega
          have HH := Lib.hid hH
          have HD := Lib.hid hD
          have Hbl := Lib.hid hbl
          clear hH hD hbl
          go_wp2_with fail
          refine (HD.out.read (ks : Int)).mono ?_
          rintro e w5 ⟨rv, rfl, hb5, hv5⟩
          rw [HH.out.read] at hv5 ⊢
          have D5 := Lib.hid (HD.out.below hb5)
          have W5 := Lib.hid (Hbl.out.trans (hb5.mono Hbl.out.size))
          cases hdn : t.down
          · rw [hdn] at hv5
            simp only [Bool.false_eq_true, if_false] at hv5 ⊢
            have V5 := Lib.hid hv5.bv
            have Hdn := Lib.hid hdn
            clear hb5 hv5 hdn
            go_wp2_with fail
            refine (D5.out.isDown).mono ?_
            rintro e w' ⟨rfl, rfl⟩
            rw [Hdn.out]
            go_wp2_with fail
            refine (same_any V5.out (VD.out.same (fun x hx => W5.out.block x hx))).mono ?_
            rintro e w' ⟨rfl, rfl⟩
            have ed : (data == data) = true := by simp
            rw [ed]
            go_wp2_with fail
            go_ret
            exact ⟨rfl, W5.out⟩
          · rw [hdn] at hv5
            simp only [if_true] at hv5 ⊢
            rcases hv5 with ⟨rfl, _⟩ | ⟨k6, rfl, _, _, _⟩
            all_goals
              have Hdn := Lib.hid hdn
              clear hb5 hdn
              go_wp2_with fail
              refine (D5.out.isDown).mono ?_
              rintro e w' ⟨rfl, rfl⟩
              rw [Hdn.out]
              go_wp2_with fail
              go_ret
              exact ⟨rfl, W5.out⟩
end Go.Proofs.Ytibojbbhffoldaa
