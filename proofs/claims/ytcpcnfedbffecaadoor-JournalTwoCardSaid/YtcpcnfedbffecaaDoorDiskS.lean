/- Contract of (*Disk).Sync. -/
import Derived.Test.YtcpcnfedbffecaaDoorDiskP
namespace Go.Proofs.YtcpcnfedbffecaaDoor
open Go.RowKit Go.Maps
section
variable {w w' : World} {s : DSt} {b : Nat} {F G : Nat → Prop} {bd bm : Nat} {dvs : List Value} {pv : Value} {pvs : List (Nat × Value)} {D : DataW Unit}
/-- Behind k rounds of Sync's loop. -/
def SyncR (w : World) (s : DSt) (b : Nat) (F : Nat → Prop) (bd bm : Nat) (pv : Value) (pvs : List (Nat × Value)) (D : DataW Unit) (k : Nat) (wr : World) : Prop :=
  Stp F w wr ∧ ∃ dvs, DiskRep wr { s with dur := (s.pend.take k).foldl (fun d p => d.set p.1 p.2) s.dur } b F bd bm dvs pv pvs D
set_option maxRecDepth 100000 in
set_option maxHeartbeats 1000000 in
theorem sync_yes (h : DiskRep w s b F bd bm dvs pv pvs D) (hd : s.down = false) (ha : s.after ≠ 0) (hp : s.pend.length < 1000000) :
    Calls Tryd.prog 16 #[.pointer (some ⟨b, 0, none⟩)] w (DiskP w b F s.step.flush (.int .i64 0)) := by
  obtain ⟨a, c, rfl⟩ := h.pvForm
  have c4 := h.cells.cell (i := 4) rfl
  have c5 := h.cells.cell (i := 5) rfl
  have f4 := h.cells.free 4
  have f5 := h.cells.free 5
  rw [hd] at c5
  have ha1 := h.ok.a1
  have ha2 := h.ok.a2
  have V := Lib.hid (fails_any b s.after false w ha1 ha2 c4 c5 f4 f5)
  rw [decide_eq_false ha] at V
  have H := Lib.hid h.failed
  have Hin := Lib.hid h.inn
  have S0 := Lib.hid (failW_stp (F := F) w b s.after h.Fb)
  have q2o := h.failed.cells.cell (i := 2) rfl
  have hp' : s.step.pend.length < 1000000 := by rw [DSt.step_pend]; exact hp
  have q2 : (failW w b s.after).cell? ⟨b, 2, none⟩ = some (.slice a s.step.pend.length c) := by rw [DSt.step_pend]; exact q2o
  have e2 : (Value.slice a s.pend.length c) = .slice a s.step.pend.length c := by rw [DSt.step_pend]
  rw [e2] at H
  clear h hd ha c4 f4 f5 ha1 ha2 hp e2 q2o
  generalize failW w b s.after = w0 at *
  generalize s.step = t at *
  go_enter Tryd.func16, Tryd.ntmps16
  go_wp2_with (go_at_call 30; refine (V.out).mono ?_; rintro e w' ⟨rfl, rfl⟩)
  clear V c5 q2
  go_loopw [18] (fun i wr => ∃ k : Nat, k ≤ t.pend.length ∧ i = .int .i64 (k : Int) ∧ SyncR w0 t b F bd bm (.slice a t.pend.length c) pvs D k wr) (fun i _ => t.pend.length - (intOf i).toNat)
  case atStart => exact ⟨0, Nat.zero_le _, rfl, Stp.refl _ _, dvs, by simpa using H.out⟩
  case round =>
    obtain ⟨k, hk, rfl, hst, dvs', hr⟩ := hrel
    by_cases hlt : k < t.pend.length
    · obtain ⟨g, cap, v, hpv, p1, p2, hdv, hmx⟩ := hr.pendAt k t.pend[k] (by simp [hlt])
      obtain ⟨rfl, rfl⟩ : a = some ⟨g, 0, none⟩ ∧ c = cap := by simpa using hpv
      obtain ⟨kd, rfl⟩ : ∃ kd, v = .slice (some ⟨kd, 0, none⟩) t.size t.size := by obtain ⟨kd, e, _⟩ := hdv; exact ⟨kd, e⟩
      have hq := hr.ok.pend t.pend[k] (List.getElem_mem hlt)
      have q1 := hr.cells.cell (i := 1) rfl
      have lb := hr.cells.lt
      have lg := block_lt_of_cell p1
      have lbd := hr.durs.lt
      have hn2 := hr.ok.n2
      have dl := hr.dur.1
      have hx : (t.pend[k]).1 < dvs'.length := by rw [dl]; exact hq.1
      obtain ⟨old, hold⟩ : ∃ v, dvs'[(t.pend[k]).1]? = some v := ⟨_, List.getElem?_eq_getElem hx⟩
      have d1 := hr.durs.cell hold
      have fd := hr.durs.free (t.pend[k]).1
      have hq1 := hq.1
      simp only [DSt.foldl_set_len] at q1 hq1 hn2
      have Hk := Lib.hid (foldl_take_succ t.pend t.dur k t.pend[k] (by simp [hlt]))
      have Hr := Lib.hid hr; clear hr
      have Hd := Lib.hid hdv; clear hdv
      have Hq := Lib.hid hq; clear hq
      have Hs := Lib.hid hst; clear hst
      clear hpv hmx dl hx hold
      generalize hqq : t.pend[k] = q at *
      have Hqq := Lib.hid hqq; clear hqq
      obtain ⟨q, l⟩ := q
      simp only at *
      go_wp2
      go_region
      go_wp2
      go_roundw
      case rel =>
        refine ⟨k + 1, by omega, by go_num, ?_⟩
        refine ⟨((Hs.out.set (a := ⟨bd, q, none⟩) (.inl (.inl Hr.out.Fbd)) _).alloc _).drew, dvs'.set q (.slice (some ⟨kd, 0, none⟩) t.size t.size), ?_⟩
        rw [Hk.out]
        exact (Hr.out.put Hq.out.2 Hd.out).below (((Below.refl _ _).alloc (Nat.le_refl _) _).drew)
      case measure => simp [intOf]; omega
    · obtain rfl : k = t.pend.length := by omega
      rw [List.take_length] at hr
      have g2 := hr.cells.cell (i := 2) rfl
      have g3 := hr.cells.cell (i := 3) rfl
      have f2 := hr.cells.free 2
      have f3 := hr.cells.free 3
      have V := Lib.hid (forget_any b _ _ wr g2 g3 f2 f3)
      have R := Lib.hid hr.forgot
      have Hs := Lib.hid hst
      clear hr g2 g3 f2 f3 hst
      go_wp2_with (go_at_call 31; refine (V.out).mono ?_; rintro e w' ⟨rfl, rfl⟩)
      go_ret
      have st := S0.out.trans' (Hs.out.trans' R.out.1)
      refine ⟨rfl, st, DiskAt.mono ⟨_, _, _, _, _, _, R.out.2⟩ (fun x hx => ?_) (Plus.inn (fun x hx => ?_) st.size)⟩
      · have := S0.out.size
        have := Hs.out.size
        rcases hx with hx | hx
        · exact .inl hx
        · exact .inr ⟨by omega, hx.2⟩
      · exact Hin.out x hx
set_option maxRecDepth 100000 in
set_option maxHeartbeats 1000000 in
theorem sync_fails (h : DiskRep w s b F bd bm dvs pv pvs D) (hd : s.down = false) (ha : s.after = 0) :
    Calls Tryd.prog 16 #[.pointer (some ⟨b, 0, none⟩)] w fun e w' => e = .returned (.int .i64 8) ∧ failW w b s.after = w' := by
  have c4 := h.cells.cell (i := 4) rfl
  have c5 := h.cells.cell (i := 5) rfl
  have f4 := h.cells.free 4
  have f5 := h.cells.free 5
  rw [hd] at c5
  have V := Lib.hid (fails_any b s.after false w h.ok.a1 h.ok.a2 c4 c5 f4 f5)
  have e : decide (s.after = 0) = true := decide_eq_true ha
  rw [e] at V
  clear h hd ha c4 f4 f5 e
  go_enter Tryd.func16, Tryd.ntmps16
  go_wp2_with (go_at_call 30; refine (V.out).mono ?_; rintro e w' ⟨rfl, rfl⟩)
  go_ret
  exact ⟨rfl, rfl⟩
set_option maxRecDepth 100000 in
set_option maxHeartbeats 1000000 in
theorem sync_down (h : DiskAt w s b F) (hd : s.down = true) :
    Calls Tryd.prog 16 #[.pointer (some ⟨b, 0, none⟩)] w fun e w' => e = .returned (.int .i64 8) ∧ w = w' := by
  obtain ⟨bd, bm, dvs, pv, pvs, D, h⟩ := h
  have c5 := h.cells.cell (i := 5) rfl
  rw [hd] at c5
  clear h hd
  go_enter Tryd.func16, Tryd.ntmps16
  go_wp2_with fail
  go_ret
  exact ⟨rfl, rfl⟩
theorem sync_any (h : DiskAt w s b F) (hp : s.pend.length < 1000000) :
    Calls Tryd.prog 16 #[.pointer (some ⟨b, 0, none⟩)] w (DiskP w b F s.sync.2 (.int .i64 s.sync.1)) := by
  cases hd : s.down
  · obtain ⟨bd, bm, dvs, pv, pvs, D, h⟩ := h
    by_cases ha : s.after = 0
    · have e : s.sync = (8, s.step) := by simp [DSt.sync, hd, DSt.failing, ha]
      rw [e]
      refine (sync_fails h hd ha).mono ?_
      rintro e w' ⟨rfl, rfl⟩
      have st := failW_stp (F := F) w b s.after h.Fb
      exact ⟨rfl, st, DiskAt.mono ⟨_, _, _, _, _, _, h.failed⟩ (fun _ hk => .inl hk) (Plus.inn h.inn st.size)⟩
    · have e : s.sync = (0, s.step.flush) := by simp [DSt.sync, hd, DSt.failing, ha]
      rw [e]
      exact sync_yes h hd ha hp
  · have e : s.sync = (8, s) := by simp [DSt.sync, hd]
    rw [e]
    refine (sync_down h hd).mono ?_
    rintro e w' ⟨rfl, rfl⟩
    exact ⟨rfl, Stp.refl _ _, h.plus⟩
end
end Go.Proofs.YtcpcnfedbffecaaDoor
