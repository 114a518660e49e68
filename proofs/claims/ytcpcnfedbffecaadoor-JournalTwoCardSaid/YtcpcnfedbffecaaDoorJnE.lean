/- Contracts of the journal's AppendAll, Append and Records. -/
import Derived.Test.YtcpcnfedbffecaaDoorJnD
namespace Go.Proofs.YtcpcnfedbffecaaDoor
open Go.RowKit Go.Maps
set_option linter.unusedSimpArgs false
/-- What every journal on a disk of n sectors is. -/
structure JSt.Ok (t : JSt) (n : Nat) : Prop where
  r0 : t.f0 + t.room ≤ n
  r1 : t.f1 + t.room ≤ n
  used : t.used ≤ t.room
  room : t.room ≤ 65536
  epoch : t.epoch ≤ 100000
  recs : t.recs.length ≤ 100000
  last : t.last.length ≤ 100000
theorem JSt.Ok.first {t : JSt} {n : Nat} (h : t.Ok n) : t.first + t.room ≤ n := by
  unfold JSt.first; split
  · exact h.r0
  · exact h.r1
def JSt.fits (t : JSt) (size : Nat) (l : List (List UInt8)) : Prop := l ≠ [] ∧ Jn.need size (Jn.flen l) ≤ t.room - t.used
instance (t : JSt) (size : Nat) (l : List (List UInt8)) : Decidable (t.fits size l) := by unfold JSt.fits; infer_instance
def JSt.app (t : JSt) (size : Nat) (l : List (List UInt8)) : JSt :=
  if t.fits size l then { t with used := t.used + Jn.need size (Jn.flen l), recs := t.recs ++ l, last := Sha.sum (t.last ++ Jn.body t.epoch l) } else t
def JSt.appErr (t : JSt) (size : Nat) (l : List (List UInt8)) : Int := if l = [] then 1 else if t.fits size l then 0 else 7
def JSt.appImg (t : JSt) (size : Nat) (l : List (List UInt8)) (f : Nat → List UInt8) : Nat → List UInt8 :=
  if t.fits size l then Jn.put f (t.first + t.used) size (Jn.data t.last t.epoch l) else f
/-- What an operation of a journal leaves. -/
def JP (w : World) (b bd : Nat) (FJ FD : Nat → Prop) (r : Int) (t' : JSt) (s : DSt) (f : Nat → List UInt8) (e : Ending) (w' : World) : Prop :=
  e = .returned (.int .i64 r) ∧ Stp (fun k => FJ k ∨ FD k) w w' ∧ ∃ FJ' FD' s', (∀ k, FJ' k → Plus FJ w w' k) ∧ (∀ k, FD' k → Plus FD w w' k) ∧ Dj FD' FJ' ∧ DiskAt w' s' bd FD' ∧ s.Turned s' f ∧ s'.pend.length ≤ s.pend.length ∧ JAt w' t' b bd FJ'
section
variable {w w' : World} {F G FJ FD FX : Nat → Prop} {t : JSt} {s : DSt} {b bd : Nat} {l : List (List UInt8)} {xv : Value} {x : List UInt8}
theorem JAt.below (h : JAt w t b bd FJ) (hb : Below w.heap.size w w') : JAt w' t b bd FJ := HalfAt.below h hb
theorem JAt.same (h : JAt w t b bd FJ) (hs : Same FJ w w') (hw : w.heap.size ≤ w'.heap.size) : JAt w' t b bd FJ := HalfAt.same h hs hw
theorem JAt.mono (h : JAt w t b bd FJ) (hs : ∀ k, FJ k → G k) (hG : Inn G w) : JAt w t b bd G := HalfAt.mono h hs hG
theorem JP.still {r : Int} {k : Nat} (h : JAt w t b bd FJ) (hD : DiskAt w s bd FD) (hc : s.Calm) (hdj : Dj FD FJ) : JP w b bd FJ FD r t s s.look (.returned (.int .i64 r)) (w.drewN k) :=
  ⟨rfl, Stp.of_below _ (below_drewN w k), FJ, FD, s, fun _ h => .inl h, fun _ h => .inl h, hdj, hD.below (below_drewN w k), ⟨rfl, rfl, hc, fun _ _ => rfl⟩, Nat.le_refl _, h.below (below_drewN w k)⟩
/-- The same, seen from a world before. -/
theorem JP.back {w0 : World} {r : Int} {t' : JSt} {f : Nat → List UInt8} {e : Ending} (h : JP w b bd FJ FD r t' s f e w') (hb : Below w0.heap.size w0 w) : JP w0 b bd FJ FD r t' s f e w' := by
  obtain ⟨he, hst, FJ', FD', s', h1, h2, h3⟩ := h
  have e1 := hb.size
  refine ⟨he, (Stp.of_below _ hb).trans' hst, FJ', FD', s', fun k hk => ?_, fun k hk => ?_, h3⟩
  · rcases h1 k hk with h | h
    · exact .inl h
    · exact .inr ⟨by omega, h.2⟩
  · rcases h2 k hk with h | h
    · exact .inl h
    · exact .inr ⟨by omega, h.2⟩
set_option maxRecDepth 100000 in
set_option maxHeartbeats 2000000 in
theorem appendall_any (h : JAt w t b bd FJ) (hD : DiskAt w s bd FD) (hc : s.Calm) (hpn : s.pend.length ≤ 1000) (hdj : Dj FD FJ) (hg : Glob w) (ok : t.Ok s.dur.length)
    (hx : LV w FX xv l) (hXI : Inn FX w) (hXD : Dj FX FD) (hXJ : Dj FX FJ) (hl1 : l.length ≤ 100000) (hfl : Jn.flen l ≤ 1000000) :
    Calls Tryd.prog 21 #[.pointer (some ⟨b, 0, none⟩), xv] w (JP w b bd FJ FD (t.appErr s.size l) (t.app s.size l) s (t.appImg s.size l s.look)) := by
  obtain ⟨xa, xc, rfl, xc1, xc2, -⟩ := hx.get
  unfold maxLen at xc2
  have hss1 := hD.ok.size1
  have hnn2 := hD.ok.n2
  have HA := Lib.hid (available_any h hD hc.on)
  have HC := Lib.hid (current_any h (by have := ok.epoch; omega))
  have HJ := Lib.hid h
  have HD := Lib.hid hD
  have HCA := Lib.hid hc
  have HDJ := Lib.hid hdj
  have HG := Lib.hid hg
  have HX := Lib.hid hx
  have HXI := Lib.hid hXI
  have HXD := Lib.hid hXD
  have HXJ := Lib.hid hXJ
  have OK := Lib.hid ok
  have HFLE := Lib.hid hfl
  by_cases h0 : l = []
  · subst h0
    have e1 : t.appErr s.size [] = 1 := by simp [JSt.appErr]
    have nf : ¬ t.fits s.size [] := fun h => h.1 rfl
    have e2 : t.app s.size [] = t := by unfold JSt.app; rw [if_neg nf]
    have e3 : t.appImg s.size [] s.look = s.look := by unfold JSt.appImg; rw [if_neg nf]
    rw [e1, e2, e3]
    have hll : (([] : List (List UInt8)).length : Int) = 0 := rfl
    clear h hD hc hdj hg hx hXI hXD hXJ ok e1 e2 e3 nf
    go_enter Tryd.func21, Tryd.ntmps21
    go_wp2_with (go_at_call 33; refine (HA.out).mono ?_; rintro e w' ⟨rfl, rfl⟩)
    go_ret
    exact JP.still (k := 0) HJ.out HD.out HCA.out HDJ.out
  · have hl0 : 0 < l.length := List.length_pos_iff.2 h0
    have il0 : ¬ (l.length : Int) = 0 := by omega
    obtain ⟨rv, hB, -⟩ := h.rep
    obtain ⟨c0, c1, c2, c3⟩ := hB.journal
    obtain ⟨d0, d1, d2, d3, d4⟩ := hB.half rfl
    have HO := Lib.hid (show (t.pre bd).length = (t.pre bd).length from rfl)
    have hu := ok.used
    have hrm := ok.room
    obtain ⟨nd, hnd⟩ : ∃ nd, Jn.need s.size (Jn.flen l) = nd := ⟨_, rfl⟩
    have hndb : nd ≤ 2000000 := by
      rw [← hnd]; unfold Jn.need
      have := Nat.div_le_self (Jn.flen l + s.size - 1) s.size
      have := hD.ok.size2
      omega
    have HND := Lib.hid hnd
    have V := Lib.hid (fun (W : World) (hW : Below w.heap.size w W) (n : Nat) => jneed_any (w := W.drewN n) (b := b) (bd := bd) (s := s) (G := FD) (((hW.trans ((below_drewN W n).mono hW.size)).cell (p := ⟨b, 0, none⟩) hB.lt).trans c0) (hD.below (hW.trans ((below_drewN W n).mono hW.size))) (hx.grow (hW.trans ((below_drewN W n).mono hW.size))) (by omega) (by omega))
    rw [hnd] at V
    have ir : (t.room : Int) - (t.used : Int) = ((t.room - t.used : Nat) : Int) := by omega
    obtain ⟨free, hfr⟩ : ∃ free, t.room - t.used = free := ⟨_, rfl⟩
    rw [hfr] at ir
    have HFR := Lib.hid hfr
    have hF0 : t.fits s.size l ↔ nd ≤ free := ⟨fun q => by have := q.2; rwa [hnd, hfr] at this, fun q => ⟨h0, by rw [hnd, hfr]; exact q⟩⟩
    have hE : t.appErr s.size l = if nd ≤ free then 0 else 7 := by
      unfold JSt.appErr
      rw [if_neg h0]
      by_cases h : nd ≤ free
      · rw [if_pos (hF0.2 h), if_pos h]
      · rw [if_neg (fun q => h (hF0.1 q)), if_neg h]
    obtain ⟨o, ho⟩ : ∃ o, (t.pre bd).length = o := ⟨_, rfl⟩
    have HO2 := Lib.hid ho
    rw [ho] at d0 d1 d2 d3 d4 HC
    have HLTB := Lib.hid hB.lt
    clear hx hXI hXD hXJ hfl h hD hg hdj hc hB HO hfr ok ho hnd
    by_cases hfit : nd ≤ free
    · have hF := hF0.2 hfit
      have eA : t.app s.size l = { t with used := t.used + nd, recs := t.recs ++ l, last := Sha.sum (t.last ++ Jn.body t.epoch l) } := by unfold JSt.app; rw [if_pos hF, HND.out]
      have eI : t.appImg s.size l s.look = Jn.put s.look (t.first + t.used) s.size (Jn.data t.last t.epoch l) := by unfold JSt.appImg; rw [if_pos hF]
      rw [hE, if_pos hfit, eA, eI]
      have hfit2 : ¬ free < nd := by omega
      have HFIT := Lib.hid hfit
      clear hE eA eI hF h0 hF0
      go_enter Tryd.func21, Tryd.ntmps21
      go_wp2_with (first | (go_at_call 33; refine (HA.out).mono ?_; rintro e w' ⟨rfl, rfl⟩) | (go_at_call 27; refine (HC.out).mono ?_; rintro e w' ⟨rfl, k1, rfl⟩))
      obtain ⟨W1, hW1⟩ : ∃ W1, w.drewN k1 = W1 := ⟨_, rfl⟩
      have b1 : Below w.heap.size w W1 := by rw [← hW1]; exact below_drewN w k1
      rw [hW1]
      have c1' := (b1.cell (p := ⟨b, 1, none⟩) HLTB.out).trans c1
      have d2' := (b1.cell (p := ⟨b, o + 2, none⟩) HLTB.out).trans d2
      have V1 := Lib.hid (fun n => V.out W1 b1 n)
      have HB1 := Lib.hid b1
      clear c0 c1 c2 c3 d0 d1 d2 d3 d4 V hW1 b1
      go_quiet (first | (go_at_call 34; refine quiet_drewn (V1.out _)))
      have hbw : Below w.heap.size w (W1.drewN nq) := HB1.out.trans ((below_drewN W1 nq).mono HB1.out.size)
      generalize W1.drewN nq = w2 at *
      have HB2 := Lib.hid hbw
      clear hbw c1' d2' V1 HA HC
      have VA := add_any (hrl := by have := OK.out.recs; omega) (HJ.out.below HB2.out) HO2.out (by
          obtain ⟨rv, hB, -⟩ := JAt.rep (JAt.below HJ.out HB2.out)
          exact hB.journal.1) (fun hf => HDJ.out b hf HJ.out.2.1) (HD.out.below HB2.out) HCA.out hpn HDJ.out (HG.out.below HB2.out HG.out.lt) (HX.out.grow HB2.out) (fun k hk => Nat.lt_of_lt_of_le (HXI.out k hk) HB2.out.size) HXD.out HXJ.out hl1 (by have := HFLE.out; exact this) (by have := OK.out.epoch; omega) (by have := OK.out.last; omega) (by have h1 := OK.out.first; rw [HND.out]; have h2 := HFR.out; have h3 := HFIT.out; omega)
      have HVA := Lib.hid VA
      clear VA
      go_wp2_with (go_at_call 35; refine (HVA.out).mono ?_; rintro e w' ⟨rfl, hs, FJ', FD', s', h1, h2, h3, h4, h5, h6, h7⟩)
      rw [HND.out] at h7
      go_ret
      exact JP.back ⟨rfl, hs, FJ', FD', s', h1, h2, h3, h4, h5, by rw [h6]; exact Nat.zero_le _, h7⟩ HB2.out
    · have hF : ¬ t.fits s.size l := fun q => hfit (hF0.1 q)
      have eA : t.app s.size l = t := by unfold JSt.app; rw [if_neg hF]
      have eI : t.appImg s.size l s.look = s.look := by unfold JSt.appImg; rw [if_neg hF]
      rw [hE, if_neg hfit, eA, eI]
      have hfit2 : free < nd := by omega
      clear hE eA eI hF h0 hF0
      go_enter Tryd.func21, Tryd.ntmps21
      go_wp2_with (first | (go_at_call 33; refine (HA.out).mono ?_; rintro e w' ⟨rfl, rfl⟩) | (go_at_call 27; refine (HC.out).mono ?_; rintro e w' ⟨rfl, k1, rfl⟩))
      obtain ⟨W1, hW1⟩ : ∃ W1, w.drewN k1 = W1 := ⟨_, rfl⟩
      have b1 : Below w.heap.size w W1 := by rw [← hW1]; exact below_drewN w k1
      rw [hW1]
      have c1' := (b1.cell (p := ⟨b, 1, none⟩) HLTB.out).trans c1
      have d2' := (b1.cell (p := ⟨b, o + 2, none⟩) HLTB.out).trans d2
      have V1 := Lib.hid (fun n => V.out W1 b1 n)
      have HB1 := Lib.hid b1
      clear c0 c1 c2 c3 d0 d1 d2 d3 d4 V hW1 b1
      go_quiet (first | (go_at_call 34; refine quiet_drewn (V1.out _)))
      go_wp2_with fail
      go_ret
      exact JP.back (JP.still (k := nq) (HJ.out.below HB1.out) (HD.out.below HB1.out) HCA.out HDJ.out) HB1.out
end
end Go.Proofs.YtcpcnfedbffecaaDoor
