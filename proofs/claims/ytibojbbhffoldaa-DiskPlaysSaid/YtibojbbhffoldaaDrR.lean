/- Contracts of the reference's Sync, Fail, Spoil. -/
import Derived.Test.YtibojbbhffoldaaDrQ
import Derived.Laws.BitsAllLaws
namespace Go.Proofs.Ytibojbbhffoldaa
open Go.RowKit Go.Maps
set_option linter.unusedSimpArgs false
theorem DSt.Ok.durs {t : DSt} (h : t.Ok) {d : List (List UInt8)} (h1 : d.length = t.dur.length) (h2 : ∀ x ∈ d, x.length = t.size) : ({ t with dur := d } : DSt).Ok :=
  ⟨h.size1, h.size2, by rw [show ({ t with dur := d } : DSt).dur.length = t.dur.length from h1]; exact h.n1, by rw [show ({ t with dur := d } : DSt).dur.length = t.dur.length from h1]; exact h.n2, h2, fun p hp => by rw [show ({ t with dur := d } : DSt).dur.length = t.dur.length from h1]; exact h.pend p hp, h.a1, h.a2⟩
theorem DSt.torn_full {l old : List UInt8} {n : Nat} (h1 : l.length = n) (h2 : old.length = n) : DSt.torn n l old = l := by
  unfold DSt.torn
  rw [List.take_of_length_le (by omega), List.drop_of_length_le (by omega), List.append_nil]
section
variable {w w' : World} {s : DSt} {b : Nat} {F G : Nat → Prop} {dv lv v : Value} {dvs : List Value} {pvs : List (Nat × Value)} {left : Int} {l : List UInt8}
theorem RefAt.plus (h : RefAt w s b F) : RefAt w s b (Plus F w w) := h.mono (fun _ hk => .inl hk) (Plus.inn h.inn (Nat.le_refl _))
theorem RefRep.pendAt (h : RefRep w s b F dv dvs lv pvs left) (j : Nat) (q : Nat × List UInt8) (hq : s.pend[j]? = some q) :
    ∃ g cap v, lv = .slice (some ⟨g, 0, none⟩) s.pend.length cap ∧ w.cell? ⟨g, j * 2, none⟩ = some (.int .i64 (q.1 : Int)) ∧ w.cell? ⟨g, j * 2 + 1, none⟩ = some v ∧ OwnF w F v q.2 ∧ s.pend.length ≤ maxLen := by
  have hj : j < s.pend.length := (List.getElem?_eq_some_iff.1 hq).1
  obtain ⟨p, hp, hp1, hp2⟩ := h.pnd.get hq
  obtain ⟨g, cap, rfl, _⟩ := World.ownsRow.form h.pend (by omega)
  have hc := pcells_get pvs j p hp
  have hm : s.pend.length ≤ maxLen := by
    rcases h.pend.2 with ⟨h', _⟩ | ⟨g', cap', cur, _, _, _, h1, h2, _⟩
    · simp at h'
    · omega
  refine ⟨g, cap, p.2, rfl, ?_, ?_, hp2, hm⟩
  · rw [h.pend.cellAt (j * 2) (by omega), hc.1, hp1]
  · rw [h.pend.cellAt (j * 2 + 1) (by omega), hc.2]
/-- Behind k rounds of Sync's loop. -/
def RSyncR (w : World) (s : DSt) (b : Nat) (F : Nat → Prop) (dv lv : Value) (pvs : List (Nat × Value)) (left : Int) (k : Nat) (wr : World) : Prop :=
  Stp F w wr ∧ ∃ dvs, RefRep wr { s with dur := (s.pend.take k).foldl (fun d p => d.set p.1 p.2) s.dur } b (Plus F w wr) dv dvs lv pvs left
set_option maxRecDepth 100000 in
set_option maxHeartbeats 1000000 in
theorem rsync_yes (h : RefRep w s b F dv dvs lv pvs left) (ok : s.Ok) (hd : s.down = false) (ha : s.after ≠ 0) :
    Calls Try.prog 37 #[.pointer (some ⟨b, 0, none⟩)] w (RefP w b F s.step.flush (.int .i64 0)) := by
  obtain ⟨a, c, rfl⟩ := h.lvForm
  have hle := h.lft hd
  have c4 := h.cells.cell (i := 4) rfl
  have c3 := h.cells.cell (i := 3) rfl
  have f4 := h.cells.free 4
  have f3 := h.cells.free 3
  rw [hd] at c3
  have V := Lib.hid (rfails_any b left false w (by rw [hle]; exact ok.a1) (by rw [hle]; exact ok.a2) c4 c3 f4 f3)
  rw [decide_eq_false (show left ≠ 0 by rw [hle]; exact ha)] at V
  obtain ⟨st0, left', R0⟩ := h.failed hd
  have S0 := Lib.hid st0
  have Hin := Lib.hid h.inn
  have e2 : (Value.slice a s.pend.length c) = .slice a s.step.pend.length c := by rw [DSt.step_pend]
  rw [e2] at R0
  have H := Lib.hid R0
  have q2 := R0.cells.cell (i := 2) rfl
  have HOK := Lib.hid (DSt.step_ok ok)
  clear h hd ha c4 f4 f3 e2 hle st0 R0 ok
  generalize rfailW w b left = w0 at *
  generalize s.step = t at *
  go_enter Try.func37, Try.ntmps37
  go_wp2_with (go_at_call 42; refine (V.out).mono ?_; rintro e w' ⟨rfl, rfl⟩)
  clear V c3 q2
  go_loopw [3] (fun i wr => ∃ k : Nat, k ≤ t.pend.length ∧ i = .int .i64 (k : Int) ∧ RSyncR w0 t b F dv (.slice a t.pend.length c) pvs left' k wr) (fun i _ => t.pend.length - (intOf i).toNat)
  case atStart => exact ⟨0, Nat.zero_le _, rfl, Stp.refl _ _, dvs, by simpa using H.out.plus⟩
  case round =>
    obtain ⟨k, hk, rfl, hst, dvs', hr⟩ := hrel
    by_cases hlt : k < t.pend.length
    · obtain ⟨g, cap, v, hpv, p1, p2, hdv, hmx⟩ := hr.pendAt k t.pend[k] (by simp [hlt])
      obtain ⟨rfl, rfl⟩ : a = some ⟨g, 0, none⟩ ∧ c = cap := by simpa using hpv
      have hq := HOK.out.pend t.pend[k] (List.getElem_mem hlt)
      have ok2 : ({ t with dur := (t.pend.take k).foldl (fun d p => d.set p.1 p.2) t.dur } : DSt).Ok := HOK.out.durs (DSt.foldl_set_len _ _) (DSt.foldl_set_mem _ _ HOK.out.dur (fun p hp => (HOK.out.pend p (List.mem_of_mem_take hp)).2))
      have c0 := hr.cells.cell (i := 0) rfl
      have c2 := hr.cells.cell (i := 2) rfl
      have lb := hr.cells.lt
      have V := Lib.hid (rput_any (hr.later (Below.refl _ _).drew) ok2 t.pend[k].1 (by rw [DSt.foldl_set_len]; exact hq.1) v hdv.bv hq.2 t.size (Nat.le_refl _))
      have e1 : DSt.torn t.size t.pend[k].2 (((t.pend.take k).foldl (fun d p => d.set p.1 p.2) t.dur).getD t.pend[k].1 []) = t.pend[k].2 := DSt.torn_full hq.2 (ok2.dur _ (DSt.getD_mem (by rw [DSt.foldl_set_len]; exact hq.1)))
      simp only [e1, ← foldl_take_succ t.pend t.dur k t.pend[k] (by simp [hlt])] at V
      have Hs := Lib.hid hst
      have Hr := Lib.hid hr.inn
      unfold maxLen at hmx
      simp only at hmx
      clear hpv hq ok2 hr hst e1 hdv
      generalize hqq : t.pend[k] = q at *
      obtain ⟨q, l⟩ := q
      simp only at *
      clear hqq
      go_wp2_with fail
      go_still_tail 12, (by kernel_rfl)
      go_wp2_with (go_at_call 43; refine (V.out).mono ?_; rintro e w' ⟨rfl, hp1, dvs2, hp2⟩)
      have P := Lib.hid (RefRep.onward Hs.out.drew ⟨hp1, hp2⟩ (S0.out.inn Hin.out))
      clear hp1 hp2 V
      go_wp2_with fail
      go_roundw
      case rel => exact ⟨k + 1, by omega, by go_num, P.out.1, _, P.out.2⟩
      case measure => simp [intOf]; omega
    · obtain rfl : k = t.pend.length := by omega
      rw [List.take_length] at hr
      have g2 := hr.cells.cell (i := 2) rfl
      have f2 := hr.cells.free 2
      have hok := Lib.hid (DSt.flush_ok HOK.out)
      have R := Lib.hid hr.cleared
      have Hs := Lib.hid hst
      clear hr hst
      go_wp2_with fail
      go_ret
      have st1 : Stp F w0 (wr.setCell ⟨b, 2, none⟩ (.slice none 0 0)) := Hs.out.trans R.out.1
      have st := S0.out.trans' st1
      refine ⟨rfl, st, hok.out, _, _, _, _, _, R.out.2.mono (fun x hx => ?_) (Plus.inn Hin.out st.size)⟩
      have := S0.out.size
      rcases hx with hx | hx
      · exact .inl hx
      · exact .inr ⟨by omega, by simpa using hx.2⟩
set_option maxRecDepth 100000 in
set_option maxHeartbeats 1000000 in
theorem rsync_any (h : RefAt w s b F) :
    Calls Try.prog 37 #[.pointer (some ⟨b, 0, none⟩)] w (RefP w b F s.sync.2 (.int .i64 s.sync.1)) := by
  have h0 := h
  obtain ⟨ok, dv, dvs, lv, pvs, left, h⟩ := h
  have c3 := h.cells.cell (i := 3) rfl
  cases hd : s.down
  · by_cases ha : s.after = 0
    · have e : s.sync = (8, s.step) := by simp [DSt.sync, hd, DSt.failing, ha]
      rw [e]
      have hle := h.lft hd
      have c4 := h.cells.cell (i := 4) rfl
      have f4 := h.cells.free 4
      have f3 := h.cells.free 3
      rw [hd] at c3
      have V := Lib.hid (rfails_any b left false w (by rw [hle]; exact ok.a1) (by rw [hle]; exact ok.a2) c4 c3 f4 f3)
      rw [decide_eq_true (show left = 0 by rw [hle]; exact ha)] at V
      obtain ⟨st0, left', R0⟩ := h.failed hd
      have R := Lib.hid (And.intro st0 (And.intro (DSt.step_ok ok) R0))
      have Hin := Lib.hid h.inn
      clear h h0 hd ha c4 f4 f3 e hle st0 R0 ok
      go_enter Try.func37, Try.ntmps37
      go_wp2_with (go_at_call 42; refine (V.out).mono ?_; rintro e w' ⟨rfl, rfl⟩)
      go_ret
      exact ⟨rfl, R.out.1, R.out.2.1, _, _, _, _, _, R.out.2.2.mono (fun _ hk => .inl hk) (Plus.inn Hin.out R.out.1.size)⟩
    · have e : s.sync = (0, s.step.flush) := by simp [DSt.sync, hd, DSt.failing, ha]
      rw [e]
      exact rsync_yes h ok hd ha
  · have e : s.sync = (8, s) := by simp [DSt.sync, hd]
    rw [e]
    rw [hd] at c3
    have H0 := Lib.hid h0
    clear h h0 hd ok e
    go_enter Try.func37, Try.ntmps37
    go_wp2_with fail
    go_ret
    exact ⟨rfl, Stp.refl _ _, H0.out.plus⟩
end
end Go.Proofs.Ytibojbbhffoldaa
