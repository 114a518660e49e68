/- Contracts of the journal's Reset in every case, and of Records. -/
import Derived.Test.YtcpcnfedbffecaaDoorJnF
namespace Go.Proofs.YtcpcnfedbffecaaDoor
open Go.RowKit Go.Maps
set_option linter.unusedSimpArgs false
section
variable {w w' : World} {F G FJ FD FX : Nat → Prop} {t : JSt} {s : DSt} {b bd : Nat} {l : List (List UInt8)} {xv : Value} {x : List UInt8}
set_option maxRecDepth 100000 in
set_option maxHeartbeats 2000000 in
theorem reset_no (h : JAt w t b bd FJ) (hD : DiskAt w s bd FD) (hc : s.Calm) (hdj : Dj FD FJ) (ok : t.Ok s.dur.length) (hx : BV w FX xv x) (hfl : x.length ≤ 100000) (hfit : ¬ t.resFits s.size x) :
    Calls Tryd.prog 22 #[.pointer (some ⟨b, 0, none⟩), xv] w (JP w b bd FJ FD 7 t s s.look) := by
  obtain ⟨xa, xc, rfl, xc1, xc2, -⟩ := hx.get
  unfold maxLen at xc2
  have hss1 := hD.ok.size1
  have hss2 := hD.ok.size2
  have hb1 : Below w.heap.size w (w.alloc (.cells #[.slice xa x.length xc] 39)) := (Below.refl _ _).alloc (Nat.le_refl _) _
  have HA := Lib.hid (available_any h hD hc.on)
  have HLV := Lib.hid (LV.one hx)
  obtain ⟨w1, hw1⟩ : ∃ w1, w.alloc (.cells #[.slice xa x.length xc] 39) = w1 := ⟨_, rfl⟩
  rw [hw1] at hb1 HLV
  have hflb : Jn.flen [x] ≤ 1000000 := by simp [Jn.flen, Jn.recs]; omega
  obtain ⟨rv, hB, hR⟩ := (h.below hb1).rep
  obtain ⟨c0, c1, -, -⟩ := hB.journal
  have V := Lib.hid (fun n => jneed_any (w := w1.drewN n) (b := b) (bd := bd) (s := s) (G := FD) c0 (hD.below (hb1.trans ((below_drewN w1 n).mono hb1.size))) (HLV.out.grow (below_drewN w1 n)) (by omega) (by simp))
  obtain ⟨nd, hnd⟩ : ∃ nd, Jn.need s.size (Jn.flen [x]) = nd := ⟨_, rfl⟩
  have hndb : nd ≤ 2000000 := by
    rw [← hnd]; unfold Jn.need
    have := Nat.div_le_self (Jn.flen [x] + s.size - 1) s.size
    omega
  rw [hnd] at V
  unfold JSt.resFits at hfit
  rw [hnd] at hfit
  have hfit2 : t.room < nd := by omega
  have hrm := ok.room
  have HST := Lib.hid (fun k => JP.back (JP.still (r := 7) (k := k) (h.below hb1) (hD.below hb1) hc hdj) hb1)
  clear h hD hc hdj ok hx hb1 hB hR hnd c0 hfit
  go_enter Tryd.func22, Tryd.ntmps22
  go_wp2_with (go_at_call 33; refine (HA.out).mono ?_; rintro e w' ⟨rfl, rfl⟩)
  clear HA hw1
  go_quiet (first | (go_at_call 34; refine quiet_drewn (V.out _)))
  go_wp2_with fail
  go_ret
  exact HST.out nq
theorem reset_any (h : JAt w t b bd FJ) (hD : DiskAt w s bd FD) (hc : s.Calm) (hpn : s.pend.length ≤ 1000) (hdj : Dj FD FJ) (hg : Glob w) (ok : t.Ok s.dur.length)
    (hx : BV w FX xv x) (hXI : Inn FX w) (hXD : Dj FX FD) (hXJ : Dj FX FJ) (hfl : x.length ≤ 100000) :
    Calls Tryd.prog 22 #[.pointer (some ⟨b, 0, none⟩), xv] w (JP w b bd FJ FD (t.resErr s.size x) (t.reset s.size x) s (t.resImg s.size x s.look)) := by
  by_cases hf : t.resFits s.size x
  · have e1 : t.resErr s.size x = 0 := by unfold JSt.resErr; rw [if_pos hf]
    rw [e1]
    unfold JSt.resImg JSt.other
    rw [if_pos hf]
    rcases (show t.epoch % 2 = 0 ∨ t.epoch % 2 = 1 by omega) with hm | hm
    · rw [if_pos hm]
      exact reset_yes h hD hc hpn hdj hg ok hx hXI hXD hXJ hfl hm hf
    · rw [if_neg (by omega)]
      exact reset_odd h hD hc hpn hdj hg ok hx hXI hXD hXJ hfl hm hf
  · have e1 : t.resErr s.size x = 7 := by unfold JSt.resErr; rw [if_neg hf]
    have e2 : t.reset s.size x = t := by unfold JSt.reset; rw [if_neg hf]
    have e3 : t.resImg s.size x s.look = s.look := by unfold JSt.resImg; rw [if_neg hf]
    rw [e1, e2, e3]
    exact reset_no h hD hc hdj ok hx hfl hf
/-- One row more on a list of its own. -/
theorem RecsV.push1 {w0 w1 w2 : World} {B : Nat} {rv v : Value} {rvs : List Value} (hB : B ≤ w0.heap.size) (hR : RecsR w0 (fun k => B ≤ k ∧ k < w0.heap.size) rv rvs l) (hb : Below w0.heap.size w0 w1) (hv : OwnB w1 v x) (hv2 : ∀ g, v.ownBlock = some g → w0.heap.size ≤ g) {n gg cap : Nat} (hn : l.length = n)
    (hown : w2.ownsRow 0 39 1 (.slice (some ⟨gg, 0, none⟩) (n + 1) cap) (n + 1) (rvs ++ [v])) (hgrow : w1.grownBy w2 rv.ownBlock) (hat : rv.ownBlock = some gg ∨ gg = w1.heap.size) (hlt : gg < w2.heap.size) :
    Below B w0 w2 ∧ RecsR w2 (fun k => B ≤ k ∧ k < w2.heap.size) (.slice (some ⟨gg, 0, none⟩) (n + 1) cap) (rvs ++ [v]) (l ++ [x]) := by
  have h1 : RecsR w1 (fun k => B ≤ k ∧ k < w1.heap.size) rv rvs l := (hR.below (fun k hk => hk.2) hb).mono (fun k hk => ⟨hk.1, Nat.lt_of_lt_of_le hk.2 hb.size⟩)
  obtain ⟨st, R⟩ := h1.push (xs := [v]) (m := [x]) (All2.cons ⟨hv, fun g hg => ⟨Nat.le_trans hB (hv2 g hg), hv.lt g hg⟩⟩ All2.nil) hn rfl hown hgrow hat hlt
  refine ⟨(hb.mono hB).trans (st.below (fun k hk => (h1.2.2 k hk).1) (Nat.le_trans hB hb.size)), R.mono (fun k hk => ?_)⟩
  rcases hk with hk | hk
  · exact ⟨hk.1, Nat.lt_of_lt_of_le hk.2 st.size⟩
  · exact ⟨by have := hb.size; omega, hk.2⟩
set_option maxRecDepth 100000 in
set_option maxHeartbeats 2000000 in
theorem records_any (h : JAt w t b bd FJ) (he : t.epoch < 1000000000) (hl : t.recs.length ≤ 100000) (hr : ∀ r ∈ t.recs, r.length ≤ 1000000) :
    Calls Tryd.prog 13 #[.pointer (some ⟨b, 0, none⟩)] w fun e w' => ∃ rv, e = .returned rv ∧ Below w.heap.size w w' ∧ RecsV w' (fun k => w.heap.size ≤ k ∧ k < w'.heap.size) rv t.recs := by
  have HC := Lib.hid (current_any h he)
  obtain ⟨rv, hB, hR⟩ := h.rep
  obtain ⟨d0, d1, d2, d3, d4⟩ := hB.half rfl
  obtain ⟨ra, rc, rfl, _, _, -⟩ := hR.form
  have HLV := Lib.hid hR.lv
  have HI := Lib.hid h.1
  have HRL := Lib.hid hr
  obtain ⟨L, hL⟩ : ∃ L, t.recs = L := ⟨_, rfl⟩
  rw [hL] at d3 HLV HRL hl ⊢
  generalize (t.pre bd).length = o at *
  obtain ⟨i0, hi0, hz0, hz1, hz2⟩ := info_parts Tryd.infoRow
  clear h hB hR hr hL
  go_enter Tryd.func13, Tryd.ntmps13
  go_wp2_with (go_at_call 27; refine (HC.out).mono ?_; rintro e w' ⟨rfl, kk, rfl⟩)
  go_loopw [3, 12] (fun v i wr => ∃ k : Nat, k ≤ L.length ∧ i = .int .i64 (k : Int) ∧ Below w.heap.size w wr ∧ ∃ rvs, RecsR wr (fun k => w.heap.size ≤ k ∧ k < wr.heap.size) v rvs (L.take k)) (fun _ i _ => L.length - (intOf i).toNat)
  case atStart => exact ⟨0, Nat.zero_le _, rfl, below_drewN w kk, [], by rw [List.take_zero]; exact RecsR.nil⟩
  case round =>
    obtain ⟨k, hk, rfl, hbel, rvs, hR⟩ := hrel
    obtain ⟨va, vc, rfl, -, -, -⟩ := RecsV.form ⟨rvs, hR⟩
    have hnk : (L.take k).length = k := by rw [List.length_take]; omega
    rw [hnk] at hR ⊢
    by_cases hlt : k < L.length
    · have ik : (k : Int) < (L.length : Int) := by omega
      obtain ⟨_, _, e0, _, _, hget⟩ := (HLV.out.same (fun x hx => hbel.block x (HI.out x hx))).get
      obtain ⟨rfl, rfl⟩ : _ ∧ _ := by simpa using e0
      obtain ⟨pb, po, y, rfl, hpF, hpc, hpv⟩ := hget k hlt
      obtain ⟨ya, yc, rfl, _, _, -⟩ := hpv.get
      have hyb := HRL.out L[k] (List.getElem_mem _)
      have htk : L.take (k + 1) = L.take k ++ [L[k]] := List.take_succ_eq_append_getElem hlt
      obtain ⟨r, hr⟩ : ∃ r, L[k] = r := ⟨_, rfl⟩
      rw [hr] at hpc hpv hyb htk
      have HPV := Lib.hid hpv
      have HTK := Lib.hid htk
      have HR := Lib.hid hR
      have HB := Lib.hid hbel
      have HNK := Lib.hid hnk
      have VC := Lib.hid (clone_any HPV.out (by omega))
      clear hget e0 hr hpv htk hR hbel hpF hnk
      go_wp2_with (first | (go_at_call 29; refine (VC.out).mono ?_; rintro e w3 ⟨cv, rfl, hN3⟩; obtain ⟨ca, cc, rfl, -⟩ := hN3.2.1.form; have N3 := Lib.hid hN3; clear hN3) | (at_builtin; refine wpList_append_lies _ (by rfl) _ _ _ (by rfl) 0 39 i0 _ 1 24 Tryd.underlying32 hi0 hz0 hz1 hz2 rfl (by omega) (.slice va k vc) k rvs (by rfl) (by have h := HR.out.1; rw [HNK.out] at h; exact Same.row (G := fun x => x < wr.heap.size) (fun x hx => (N3.out.alloc (.cells #[.slice ca r.length cc] 39)).1.block x hx) h (fun g hg => (HR.out.2.2 g hg).2)) ⟨w3.heap.size, 0, none⟩ 1 1 [.slice ca r.length cc] (by rfl) (by rfl) (World.news_of_block (cs := #[.slice ca r.length cc]) (t := 39) (fr := (0, 0)) (heap_alloc_new w3 _)) (by simp [Value.oneCell']) (by omega) (by unfold maxLen; omega) (by omega) (by omega) _ rfl ?_))
      intro gg cap w5 hown hgrow hat hlt5
      have P := Lib.hid (RecsV.push1 HB.out.size HR.out (N3.out.alloc (.cells #[.slice ca r.length cc] 39)).1 (N3.out.alloc (.cells #[.slice ca r.length cc] 39)).2.1 N3.out.2.2.2 HNK.out hown hgrow (hat.imp id (fun e => e.trans (by simp))) hlt5)
      clear hown hgrow hat hlt5
      go_wp2_with fail
      go_roundw
      case rel => exact ⟨k + 1, by omega, by go_num, HB.out.trans P.out.1, _, by rw [HTK.out]; exact P.out.2⟩
      case measure => simp [intOf]; omega
    · obtain rfl : k = L.length := by omega
      rw [List.take_length] at hR
      have HR := Lib.hid hR
      have HB := Lib.hid hbel
      have ik : ¬ (L.length : Int) < (L.length : Int) := by omega
      clear hR hbel
      go_wp2_with fail
      go_ret
      exact ⟨_, rfl, HB.out, _, HR.out⟩
end
end Go.Proofs.YtcpcnfedbffecaaDoor
