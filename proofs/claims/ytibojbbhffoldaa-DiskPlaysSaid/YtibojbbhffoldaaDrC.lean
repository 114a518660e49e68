/- Contract of the reference's Crash. -/
import Derived.Test.YtibojbbhffoldaaDrS
namespace Go.Proofs.Ytibojbbhffoldaa
open Go.RowKit Go.Maps
set_option linter.unusedSimpArgs false
section
variable {w w' : World} {s : DSt} {b : Nat} {F G : Nat → Prop} {dv lv v : Value} {dvs : List Value} {pvs : List (Nat × Value)} {left : Int} {l : List UInt8}
/-- Behind k rounds of Crash's loop. -/
def RCrashR (w : World) (s : DSt) (b : Nat) (F : Nat → Prop) (dv lv : Value) (pvs : List (Nat × Value)) (left : Int) (keep : List Bool) (t : Nat) (k : Nat) (first : Bool) (wr : World) : Prop :=
  Stp F w wr ∧ ∃ d dvs, DSt.crashGo keep t 0 true s.dur s.pend = DSt.crashGo keep t k first d (s.pend.drop k) ∧ ({ s with dur := d } : DSt).Ok ∧ d.length = s.dur.length ∧ RefRep wr { s with dur := d } b (Plus F w wr) dv dvs lv pvs left
theorem RefRep.crashed (h : RefRep w s b F dv dvs lv pvs left) :
    let w' := ((w.setCell ⟨b, 2, none⟩ (.slice none 0 0)).setCell ⟨b, 3, none⟩ (.bool false)).setCell ⟨b, 4, none⟩ (.int .i64 (-1))
    Stp F w w' ∧ RefRep w' { s with pend := [], after := -1, down := false } b F dv dvs (.slice none 0 0) [] (-1) := by
  intro w'
  have R1 := h.cleared
  have R2 := R1.2.setb 3 (.bool false) (s' := { s with pend := [], after := left, down := false }) (left' := left) rfl rfl (by simpa using R1.2.cells.set 3 (.bool false)) (fun _ => rfl)
  have R3 := R2.2.setb 4 (.int .i64 (-1)) (s' := { s with pend := [], after := -1, down := false }) (left' := -1) rfl rfl (by simpa using R2.2.cells.set 4 (.int .i64 (-1))) (fun _ => rfl)
  exact ⟨(R1.1.trans' R2.1).trans' R3.1, R3.2⟩
set_option maxRecDepth 100000 in
set_option maxHeartbeats 4000000 in
theorem rcrash_any (h : RefAt w s b F) (kv : Value) (keep : List Bool) (hk : BoolsV w G kv keep) (hkF : Dj G F) (tn : Int) :
    Calls Try.prog 39 #[.pointer (some ⟨b, 0, none⟩), kv, .int .i64 tn] w (RefP w b F (s.crash keep tn) (.tuple #[])) := by
  obtain ⟨ok, dv, dvs, lv, pvs, left, h⟩ := h
  obtain ⟨a, c, rfl⟩ := h.lvForm
  have q2 := h.cells.cell (i := 2) rfl
  have hss := ok.size2
  have htb : (tn < 0 ∧ s.tornBytes tn = 0) ∨ (0 ≤ tn ∧ tn ≤ (s.size : Int) ∧ s.tornBytes tn = tn.toNat) ∨ ((s.size : Int) < tn ∧ s.tornBytes tn = s.size) := by
    unfold DSt.tornBytes; omega
  have htl : s.tornBytes tn ≤ s.size := by unfold DSt.tornBytes; omega
  have OKC := Lib.hid (DSt.crash_ok ok keep tn)
  have ecr : s.crash keep tn = { s with dur := DSt.crashGo keep (s.tornBytes tn) 0 true s.dur s.pend, pend := [], after := -1, down := false } := rfl
  rw [ecr] at OKC ⊢
  clear ecr
  generalize s.tornBytes tn = tb at *
  have Hin := Lib.hid h.inn
  have hm : s.pend.length ≤ maxLen := by
    rcases h.pend.2 with ⟨_, h0⟩ | ⟨_, _, _, _, _, _, h1, h2, _⟩
    · unfold maxLen; omega
    · omega
  unfold maxLen at hm
  obtain ⟨ka, kc, rfl, kl1, kl2, hkc⟩ := hk.get
  have kin : Hid (∀ i, i < keep.length → ∃ bk o, ka = some ⟨bk, o, none⟩ ∧ ∀ wr, Stp F w wr → wr.cell? ⟨bk, o + i, none⟩ = some (.bool (keep.getD i false))) := fun i hi => by
    obtain ⟨bk, o, e, hg, hc⟩ := hkc i hi
    refine ⟨bk, o, e, fun wr st => ?_⟩
    rw [World.cell?_of_block (w := w) (a := ⟨bk, o + i, none⟩) (st.keep bk (block_lt_of_cell hc) (hkF bk hg)), hc]
    simp [List.getD, hi]
  have H := Lib.hid h
  have OK := Lib.hid ok
  clear h hk hkc ok
  unfold maxLen at kl2
  go_enter Try.func39, Try.ntmps39
  go_wp2_with fail
  clear q2
  go_loopw [6, 7] (fun f i wr => ∃ (k : Nat) (first : Bool), k ≤ s.pend.length ∧ i = .int .i64 (k : Int) ∧ f = .bool first ∧ RCrashR w s b F dv (.slice a s.pend.length c) pvs left keep tb k first wr) (fun _ i _ => s.pend.length - (intOf i).toNat)
  case atStart => exact ⟨0, true, Nat.zero_le _, rfl, rfl, Stp.refl _ _, s.dur, dvs, rfl, OK.out, rfl, H.out.plus⟩
  case round =>
    obtain ⟨k, first, hk, rfl, rfl, hst, d, dvs', hgo, ok2, hdl, hr⟩ := hrel
    by_cases hlt : k < s.pend.length
    · obtain ⟨g, cap, v, hpv, p1, p2, hdv, -⟩ := hr.pendAt k s.pend[k] (by simp [hlt])
      obtain ⟨rfl, rfl⟩ : a = some ⟨g, 0, none⟩ ∧ c = cap := by simpa using hpv
      have hq := OK.out.pend s.pend[k] (List.getElem_mem hlt)
      have c0 := hr.cells.cell (i := 0) rfl
      have c2 := hr.cells.cell (i := 2) rfl
      have V := Lib.hid (fun n hn => rput_any (hr.later (Below.refl _ _).drew) ok2 s.pend[k].1 (by show s.pend[k].1 < d.length; rw [hdl]; exact hq.1) v hdv.bv hq.2 n hn)
      have e1 : DSt.torn s.size s.pend[k].2 (d.getD s.pend[k].1 []) = s.pend[k].2 := DSt.torn_full hq.2 (ok2.dur _ (DSt.getD_mem (by show s.pend[k].1 < d.length; rw [hdl]; exact hq.1)))
      have Hdrop : Hid (s.pend.drop k = s.pend[k] :: s.pend.drop (k + 1)) := List.drop_eq_getElem_cons hlt
      have E1 := Lib.hid e1
      have Hq := Lib.hid hq
      have Hs := Lib.hid hst
      have Hr := Lib.hid hr
      have Hgo := Lib.hid hgo
      have OK2 := Lib.hid ok2
      have HDL := Lib.hid hdl
      clear hpv hq ok2 hr e1 hdv hgo hdl H
      generalize s.pend[k] = q at *
      obtain ⟨q, l⟩ := q
      simp only at *
      have hcase : (k < keep.length ∧ keep.getD k false = true) ∨ (k < keep.length ∧ keep.getD k false = false) ∨ ¬ k < keep.length := by
        by_cases h1 : k < keep.length
        · cases keep.getD k false
          · exact .inr (.inl ⟨h1, rfl⟩)
          · exact .inl ⟨h1, rfl⟩
        · exact .inr (.inr h1)
      rcases hcase with ⟨h1, hkb⟩ | hcase
      · obtain ⟨bk, o, rfl, hkc⟩ := kin.out k h1
        have kc1 := hkc wr hst
        rw [hkb] at kc1
        have Hkb := Lib.hid hkb
        have V1 := Lib.hid (V.out s.size (Nat.le_refl _))
        rw [E1.out] at V1
        have EK : Hid (DSt.crashGo keep tb k first d ((q, l) :: s.pend.drop (k + 1)) = DSt.crashGo keep tb (k + 1) first (d.set q l) (s.pend.drop (k + 1))) := Lib.hid (by rw [DSt.crashGo, if_pos Hkb.out])
        have O3 : Hid (({ s with dur := d.set q l } : DSt).Ok) := Lib.hid (OK2.out.durs (by simp) (fun x hx => by rcases DSt.mem_set' hx with rfl | hx; exact Hq.out.2; exact OK2.out.dur x hx))
        clear hst hkc hkb V
        go_wp2_with fail
        go_still_tail 12, (by kernel_rfl)
        go_wp2_with (go_at_call 43; refine (V1.out).mono ?_; rintro e w' ⟨rfl, hp1, dvs2, hp2⟩)
        have P := Lib.hid (RefRep.onward Hs.out.drew ⟨hp1, hp2⟩ Hin.out)
        clear hp1 hp2 V1 Hr
        go_wp2_with fail
        go_roundw
        case rel => exact ⟨k + 1, first, by omega, by go_num, rfl, P.out.1, d.set q l, _, by rw [Hgo.out, Hdrop.out, EK.out], O3.out, by simp [HDL.out], P.out.2⟩
        case measure => simp [intOf]; omega
      · have Hkb : Hid (keep.getD k false = false) := by
          rcases hcase with h1 | h1
          · exact h1.2
          · show keep.getD k false = false
            rw [List.getD, List.getElem?_eq_none (by omega)]; rfl
        have Hcase : Hid (k < keep.length → ∃ bk o, ka = some ⟨bk, o, none⟩ ∧ wr.cell? ⟨bk, o + k, none⟩ = some (.bool false)) := fun h1 => by
          obtain ⟨bk, o, e, hkc⟩ := kin.out k h1
          have kc1 := hkc wr hst
          rw [Hkb.out] at kc1
          exact ⟨bk, o, e, kc1⟩
        have hc2 : k < keep.length ∨ ¬ k < keep.length := by omega
        clear hcase hst
        rcases hc2 with h1 | h1
        rotate_left
        have kc1 : True := trivial
        rotate_left
        obtain ⟨bk, o, rfl, kc1⟩ := Hcase.out h1
        all_goals
          cases first
          · clear V
            have EK : Hid (DSt.crashGo keep tb k false d ((q, l) :: s.pend.drop (k + 1)) = DSt.crashGo keep tb (k + 1) false d (s.pend.drop (k + 1))) := Lib.hid (by rw [DSt.crashGo, if_neg (by rw [Hkb.out]; simp)]; simp)
            go_wp2_with fail
            go_roundw
            case rel => exact ⟨k + 1, false, by omega, by go_num, rfl, Hs.out, d, _, by rw [Hgo.out, Hdrop.out, EK.out], OK2.out, HDL.out, Hr.out⟩
            case measure => simp [intOf]; omega
          · have EK : Hid (DSt.crashGo keep tb k true d ((q, l) :: s.pend.drop (k + 1)) = DSt.crashGo keep tb (k + 1) false (d.set q (DSt.torn tb l (d.getD q []))) (s.pend.drop (k + 1))) := Lib.hid (by rw [DSt.crashGo, if_neg (by rw [Hkb.out]; simp), if_pos rfl])
            have O3 : Hid (({ s with dur := d.set q (DSt.torn tb l (d.getD q [])) } : DSt).Ok) := Lib.hid (OK2.out.durs (by simp) (fun x hx => by
              rcases DSt.mem_set' hx with rfl | hx
              · exact DSt.torn_length Hq.out.2 (OK2.out.dur _ (DSt.getD_mem (by show q < d.length; rw [HDL.out]; exact Hq.out.1)))
              · exact OK2.out.dur x hx))
            have V1 := Lib.hid (V.out tb htl)
            clear V
            rcases htb with ⟨ht, htb⟩ | ⟨ht1, ht2, htb⟩ | ⟨ht, htb⟩
            · have hz : ¬ ((s.size : Int) < 0) := by omega
              subst htb
              go_wp2_with fail
              go_still_tail 15, (by kernel_rfl)
              go_wp2_with (go_at_call 43; refine (V1.out).mono ?_; rintro e w' ⟨rfl, hp1, dvs2, hp2⟩)
              have P := Lib.hid (RefRep.onward Hs.out.drew ⟨hp1, hp2⟩ Hin.out)
              clear hp1 hp2 V1 Hr
              go_wp2_with fail
              go_roundw
              case rel => exact ⟨k + 1, false, by omega, by go_num, rfl, P.out.1, _, _, by rw [Hgo.out, Hdrop.out, EK.out], O3.out, by simp [HDL.out], P.out.2⟩
              case measure => simp [intOf]; omega
            · obtain ⟨m, rfl⟩ := Int.eq_ofNat_of_zero_le ht1
              have hm1 : tb = m := by omega
              subst hm1
              have hm2 : ¬ s.size < tb := by omega
              have hm3 : ¬ (s.size : Int) < (tb : Int) := by omega
              have hm4 : ¬ (tb : Int) < 0 := by omega
              clear htb
              go_wp2_with fail
              go_still_tail 15, (by kernel_rfl)
              go_wp2_with (go_at_call 43; refine (V1.out).mono ?_; rintro e w' ⟨rfl, hp1, dvs2, hp2⟩)
              have P := Lib.hid (RefRep.onward Hs.out.drew ⟨hp1, hp2⟩ Hin.out)
              clear hp1 hp2 V1 Hr
              go_wp2_with fail
              go_roundw
              case rel => exact ⟨k + 1, false, by omega, by go_num, rfl, P.out.1, _, _, by rw [Hgo.out, Hdrop.out, EK.out], O3.out, by simp [HDL.out], P.out.2⟩
              case measure => simp [intOf]; omega
            · subst htb
              have ht1 : 0 ≤ tn := by omega
              have hm4 : ¬ tn < 0 := by omega
              have hm5 : ¬ (s.size : Int) < 0 := by omega
              have hm6 : (0 : Int) ≤ (s.size : Int) := by omega
              go_wp2_with fail
              go_still_tail 15, (by kernel_rfl)
              go_wp2_with (go_at_call 43; refine (V1.out).mono ?_; rintro e w' ⟨rfl, hp1, dvs2, hp2⟩)
              have P := Lib.hid (RefRep.onward Hs.out.drew ⟨hp1, hp2⟩ Hin.out)
              clear hp1 hp2 V1 Hr
              go_wp2_with fail
              go_roundw
              case rel => exact ⟨k + 1, false, by omega, by go_num, rfl, P.out.1, _, _, by rw [Hgo.out, Hdrop.out, EK.out], O3.out, by simp [HDL.out], P.out.2⟩
              case measure => simp [intOf]; omega
    · obtain rfl : k = s.pend.length := by omega
      rw [List.drop_length, DSt.crashGo] at hgo
      have c2 := hr.cells.cell (i := 2) rfl
      have f2 := hr.cells.free 2
      have f3 := hr.cells.free 3
      have f4 := hr.cells.free 4
      have c3 := hr.cells.cell (i := 3) rfl
      have c4 := hr.cells.cell (i := 4) rfl
      have R := Lib.hid hr.crashed
      have Hs := Lib.hid hst
      have Hgo := Lib.hid hgo
      clear hr hst hgo
      go_wp2_with fail
      go_end0
      rw [Hgo.out] at OKC ⊢
      have st := Hs.out.trans R.out.1
      refine ⟨rfl, st, OKC.out, _, _, _, _, _, R.out.2.mono (fun x hx => ?_) (Plus.inn Hin.out st.size)⟩
      rcases hx with hx | hx
      · exact .inl hx
      · exact .inr ⟨hx.1, by simpa using hx.2⟩
end
end Go.Proofs.Ytibojbbhffoldaa
