/- Contract of the journal's 'add'. -/
import Derived.Test.YtcpcnfedbffecaaDoorJnC
import Derived.Deep.RegionHeld3
import Derived.Deep.RegionLaw
import Derived.Deep.DrawnRows
namespace Go.Proofs.YtcpcnfedbffecaaDoor
open Go.RowKit Go.Maps
set_option linter.unusedSimpArgs false
namespace Jn
/-- The padded batch, and its sector number i. -/
def pad (size : Nat) (d : List UInt8) : List UInt8 := d ++ List.replicate (need size d.length * size - d.length) 0
def chunk (size : Nat) (d : List UInt8) (i : Nat) : List UInt8 := ((pad size d).drop (i * size)).take size
def put (f : Nat → List UInt8) (start size : Nat) (d : List UInt8) (k : Nat) : List UInt8 := if start ≤ k ∧ k < start + need size d.length then chunk size d (k - start) else f k
theorem pad_length (size : Nat) (d : List UInt8) (h : 0 < size) : (pad size d).length = need size d.length * size := by
  have := need_mul size d.length h
  simp only [pad, List.length_append, List.length_replicate]; omega
theorem chunk_length (size : Nat) (d : List UInt8) (i : Nat) (h : 0 < size) (hi : i < need size d.length) : (chunk size d i).length = size := by
  have h1 := pad_length size d h
  have h2 : (i + 1) * size ≤ need size d.length * size := Nat.mul_le_mul_right _ hi
  rw [Nat.add_mul, Nat.one_mul] at h2
  simp only [chunk, List.length_take, List.length_drop]; omega
end Jn
def AddP (w : World) (hb : Nat) (P Q : List Value) (T : TypeId) (first epoch used : Nat) (recs : List (List UInt8)) (last : List UInt8) (FJ FD : Nat → Prop) (s : DSt) (bd : Nat) (l : List (List UInt8)) (e : Ending) (w' : World) : Prop :=
  e = .returned (.int .i64 0) ∧ Stp (fun k => FJ k ∨ FD k) w w' ∧ ∃ FJ' FD' s', (∀ k, FJ' k → Plus FJ w w' k) ∧ (∀ k, FD' k → Plus FD w w' k) ∧ Dj FD' FJ' ∧ DiskAt w' s' bd FD' ∧ s.Turned s' (Jn.put s.look (first + used) s.size (Jn.data last epoch l)) ∧ s'.pend = [] ∧
    HalfAt w' FJ' hb P Q T first epoch (used + Jn.need s.size (Jn.flen l)) (recs ++ l) (Sha.sum (last ++ Jn.body epoch l))
/-- Behind k sectors of the batch (the first one left out). -/
def AddR (w : World) (s : DSt) (bd : Nat) (FD : Nat → Prop) (start : Nat) (d : List UInt8) (k : Nat) (wr : World) : Prop :=
  Stp FD w wr ∧ ∃ s', DiskAt wr s' bd (Plus FD w wr) ∧ s'.Calm ∧ s'.size = s.size ∧ s'.dur.length = s.dur.length ∧ s'.pend.length + 1 ≤ s.pend.length + k ∧ ∀ j, s'.look j = if start + 1 ≤ j ∧ j < start + k then Jn.chunk s.size d (j - start) else s.look j
theorem Plus.plus {F : Nat → Prop} {w W W' : World} (h1 : w.heap.size ≤ W.heap.size) (h2 : W.heap.size ≤ W'.heap.size) : ∀ k, Plus (Plus F w W) W W' k → Plus F w W' k := by
  intro k hk
  rcases hk with (hk | hk) | hk
  · exact .inl hk
  · exact .inr ⟨hk.1, by omega⟩
  · exact .inr ⟨by omega, hk.2⟩
theorem AddR.write {w wr w2 : World} {s s' : DSt} {bd start k n : Nat} {FD : Nat → Prop} {d : List UInt8} (hst : Stp FD w wr) (hI : Inn FD w) (hcal : s'.Calm) (hsz : s'.size = s.size) (hlen : s'.dur.length = s.dur.length) (hpn : s'.pend.length + 1 ≤ n) (hlk : ∀ j, s'.look j = if start + 1 ≤ j ∧ j < start + k then Jn.chunk s.size d (j - start) else s.look j)
    (hst2 : Stp (Plus FD w wr) wr w2) (hD2 : DiskAt w2 (s'.push (start + k) (Jn.chunk s.size d k)) bd (Plus (Plus FD w wr) wr w2)) (hk : 1 ≤ k) (hn : n = s.pend.length + k) : AddR w s bd FD start d (k + 1) w2 := by
  have s1 := hst.trans hst2
  refine ⟨s1, _, hD2.mono (Plus.plus hst.size hst2.size) (Plus.inn hI s1.size), hcal.push _ _, hsz, hlen, ?_, fun j => ?_⟩
  · simp only [DSt.push, List.length_append, List.length_cons, List.length_nil]; omega
  · by_cases hj : start + k = j
    · subst hj
      rw [DSt.push_look_same, if_pos (by omega), Nat.add_sub_cancel_left]
    · rw [DSt.push_look_other _ hj, hlk j]
      by_cases h1 : start + 1 ≤ j ∧ j < start + k
      · rw [if_pos h1, if_pos (by omega)]
      · rw [if_neg h1, if_neg (by omega)]
theorem Stp.undrew {F : Nat → Prop} {w w' : World} (h : Stp F w.drew w') : Stp F w w' := ⟨h.os, h.tape, h.output, h.size, h.keep⟩
theorem NewB.later {w w3 w4 : World} {B : Nat} {acc : List UInt8} {sv : Value} (h : NewB B w acc sv w3) (hb : Below w3.heap.size w3 w4) : NewB B w acc sv w4 :=
  ⟨h.1.trans (hb.mono h.2.2.1), h.2.1.grow hb, Nat.le_trans h.2.2.1 hb.size, h.2.2.2⟩
abbrev AdS (W : World) (hb o : Nat) (lv : Value) (sv : Value) (bs : ByteArray) (w' : World) : Prop :=
  Below W.heap.size W w' ∧ w'.cell? ⟨hb, o + 4, none⟩ = some lv ∧ (convert 39 9 sv).run Tryd.prog w' = .ok (.string bs) w'
theorem AdS.next {W w' w2 : World} {hb o : Nat} {lv sv : Value} {B : List UInt8} {bs : ByteArray} {F : Nat → Prop} (hl : hb < W.heap.size) (hv : BV W F sv B) (hB : (⟨B.toArray⟩ : ByteArray) = bs) (h : AdS W hb o lv sv bs w') (h2 : Below W.heap.size W w2) : AdS W hb o lv sv bs w2 :=
  ⟨h2, ((h2.cell (p := ⟨hb, o + 4, none⟩) hl).trans (h.1.cell (p := ⟨hb, o + 4, none⟩) hl).symm).trans h.2.1, hB ▸ (hv.grow h2).convS⟩
section
variable {w w' : World} {F G FJ FD FX : Nat → Prop} {b bd hb o first epoch used : Nat} {P Q : List Value} {T : TypeId} {recs l : List (List UInt8)} {last : List UInt8} {rv xv : Value} {s : DSt}
set_option maxRecDepth 100000 in
set_option maxHeartbeats 8000000 in
theorem add_any (hH : HalfAt w FJ hb P Q T first epoch used recs last) (ho : P.length = o) (hc : w.cell? ⟨b, 0, none⟩ = some (.pointer (some ⟨bd, 0, none⟩))) (hbD : ¬ FD b)
    (hD : DiskAt w s bd FD) (hcal : s.Calm) (hpn : s.pend.length ≤ 1000) (hdj : Dj FD FJ) (hg : Glob w)
    (hx : LV w FX xv l) (hXI : Inn FX w) (hXD : Dj FX FD) (hXJ : Dj FX FJ)
    (hl1 : l.length ≤ 100000) (hfl : Jn.flen l ≤ 1000000) (hep : epoch < 2147483648) (hla : last.length ≤ 1000000) (hro : first + used + Jn.need s.size (Jn.flen l) ≤ s.dur.length) (hrl : recs.length ≤ 1000000) :
    Calls Tryd.prog 35 #[.pointer (some ⟨b, 0, none⟩), .pointer (some ⟨hb, o, none⟩), xv] w (AddP w hb P Q T first epoch used recs last FJ FD s bd l) := by
  have hss1 := hD.ok.size1
  have hss2 := hD.ok.size2
  have hnn2 := hD.ok.n2
  obtain ⟨xa, xc, rfl, xc1, xc2, hgx⟩ := hx.get
  have HXG := Lib.hid hgx
  unfold maxLen at xc2
  have HRL : Hid (∀ k, (Jn.recs (l.take k)).length ≤ (Jn.recs l).length) := Lib.hid (fun k => by
    conv => rhs; rw [← List.take_append_drop k l]
    unfold Jn.recs
    rw [List.flatMap_append, List.length_append]
    omega)
  have HFL : Hid ((Jn.recs l).length + 40 ≤ 1000000) := Lib.hid (by unfold Jn.flen at hfl; omega)
  have HXI := Lib.hid hXI
  have HXD := Lib.hid hXD
  have HXJ := Lib.hid hXJ
  have HH := Lib.hid hH
  have HD := Lib.hid hD
  have HC := Lib.hid hcal
  have HDJ := Lib.hid hdj
  have HG := Lib.hid hg
  have HO := Lib.hid ho
  have HCB := Lib.hid hc
  have HBD := Lib.hid hbD
  have HRO := Lib.hid hro
  obtain ⟨rv0, hB0, -⟩ := hH.2.2.2.2
  obtain ⟨d0, d1, d2, d3, d4⟩ := hB0.half ho
  have hbl := hB0.lt
  have HBL := Lib.hid hbl
  clear hx hgx hXI hXD hXJ hH hD hcal hdj hg ho hc hbD hB0 hfl hro
  go_enter Tryd.func35, Tryd.ntmps35
  go_wp2_with fail
  refine (appnum_any (NewB.none w) epoch hep (by simp)).mono ?_
  rintro e w1 ⟨sv1, rfl, hN1⟩
  obtain ⟨a1, c1, rfl, -⟩ := hN1.2.1.form
  have N1 := Lib.hid hN1
  clear hN1
  go_wp2_with fail
  refine (appnum_any N1.out l.length (by omega) (by simp)).mono ?_
  rintro e w2 ⟨sv2, rfl, hN2⟩
  have N2 : Hid (NewB w.heap.size w ((([] ++ Jn.num epoch) ++ Jn.num l.length) ++ Jn.recs (l.take 0)) sv2 w2) := Lib.hid (by
    have : Jn.recs (l.take 0) = [] := rfl
    rw [this, List.append_nil]; exact hN2)
  clear hN2 N1
  go_wp2_with fail
  go_loopw [7, 29] (fun sv i wr => ∃ k : Nat, k ≤ l.length ∧ i = .int .i64 (k : Int) ∧ NewB w.heap.size w ((([] ++ Jn.num epoch) ++ Jn.num l.length) ++ Jn.recs (l.take k)) sv wr) (fun _ i _ => l.length - (intOf i).toNat)
  case atStart => exact ⟨0, Nat.zero_le _, rfl, N2.out⟩
  case round =>
    obtain ⟨k, hk, rfl, hN⟩ := hrel
    clear N2
    obtain ⟨sa, sc, rfl, -⟩ := hN.2.1.form
    by_cases hlt : k < l.length
    · have ik : (k : Int) < (l.length : Int) := by omega
      obtain ⟨pb, po, x, rfl, hpF, hpc0, hpv⟩ := HXG.out k hlt
      have hpc := (hN.1.cell (p := ⟨pb, po + k, none⟩) (HXI.out pb hpF)).trans hpc0
      obtain ⟨ra, rc, rfl, _, _, -⟩ := hpv.get
      have hrs := Jn.recs_snoc l k hlt
      have hle1 := HRL.out (k + 1)
      rw [hrs, List.length_append, List.length_append, Jn.num_length] at hle1
      have HRS := Lib.hid hrs
      obtain ⟨r, hr⟩ : ∃ r, l[k] = r := ⟨_, rfl⟩
      rw [hr] at hpc hpv HRS hle1
      clear hpc0
      obtain ⟨acc, hacc⟩ : ∃ acc, (([] ++ Jn.num epoch) ++ Jn.num l.length) ++ Jn.recs (l.take k) = acc := ⟨_, rfl⟩
      have hal : acc.length + r.length + 4 ≤ 1000000 := by
        have := HFL.out
        rw [← hacc]
        simp only [List.length_append, Jn.num_length, List.length_nil]
        omega
      have HAL := Lib.hid hal
      have HRL1 : Hid (r.length ≤ 1000000) := Lib.hid (by omega)
      rw [hacc] at hN ⊢
      have HAC := Lib.hid hacc
      have N := Lib.hid hN
      have HPV := Lib.hid hpv
      clear hr hle1 hrs hacc hN hpv hpF hal
      go_wp2_with fail
      refine (appnum_any N.out r.length (by have := HRL1.out; omega) (by have := HAL.out; omega)).mono ?_
      rintro e w4 ⟨sv4, rfl, hN4⟩
      obtain ⟨ua, uc, rfl, -⟩ := hN4.2.1.form
      have el4 : (acc ++ Jn.num r.length).length = acc.length + 4 := by rw [List.length_append, Jn.num_length]
      rw [el4] at hN4 ⊢
      have N4 := Lib.hid hN4
      clear hN4
      go_wp2_with (at_builtin; refine wpList_append_bytes rfl (.tmp 36) (.tmp 37) rfl (.slice ua (acc.length + 4) uc) (.slice ra r.length rc) r (by rfl) (by rfl) N4.out.2.1 (HPV.out.grow N4.out.1) (by rw [el4]; have := HAL.out; omega) ?_)
      intro oa oc w5 hO5 hg5 ho5
      rw [← List.append_assoc] at hO5
      have N5 := Lib.hid (N4.out.push hO5 hg5 ho5)
      clear hO5 hg5 ho5 N4 hpc
      go_wp2_with fail
      go_roundw
      case rel =>
        refine ⟨k + 1, by omega, by go_num, ?_⟩
        rw [HRS.out, ← List.append_assoc, HAC.out, ← List.append_assoc]
        exact N5.out
      case measure => simp [intOf]; omega
    · obtain rfl : k = l.length := by omega
      have eB : (([] ++ Jn.num epoch) ++ Jn.num l.length) ++ Jn.recs l = Jn.body epoch l := by simp [Jn.body]
      have hbL : (Jn.body epoch l).length + 32 = Jn.flen l := by simp [Jn.body, Jn.flen]; omega
      obtain ⟨BD, hBD⟩ : ∃ BD, Jn.body epoch l = BD := ⟨_, rfl⟩
      rw [List.take_length, eB, hBD] at hN ⊢
      rw [hBD] at hbL
      have HBD2 := Lib.hid hBD
      have hBl : BD.length ≤ 1000000 := by have := HFL.out; unfold Jn.flen at hbL; omega
      have HBL2 := Lib.hid hBl
      have hbs : Hid (BD.length + 32 = Jn.flen l) := Lib.hid hbL
      obtain ⟨bs, hbsd⟩ : ∃ bs : ByteArray, (⟨BD.toArray⟩ : ByteArray) = bs := ⟨_, rfl⟩
      have HBS := Lib.hid hbsd
      have N := Lib.hid hN
      have ik : ¬ (l.length : Int) < (l.length : Int) := by omega
      obtain ⟨ls, hls⟩ : ∃ ls : ByteArray, (⟨last.toArray⟩ : ByteArray) = ls := ⟨_, rfl⟩
      have eS : Str last = .string ls := by rw [← hls]; rfl
      have HLS := Lib.hid hls
      have d4' : wr.cell? ⟨hb, o + 4, none⟩ = some (.string ls) := (hN.1.cell (p := ⟨hb, o + 4, none⟩) hbl).trans (by rw [← eS]; exact d4)
      have D4 := Lib.hid d4'
      have hcv := hN.2.1.bv.convS
      rw [hbsd] at hcv
      have hcvd : (convert 39 9 (.slice sa BD.length sc)).run Tryd.prog wr.drew = .ok (.string bs) wr.drew := by
        have := (show BV wr.drew _ _ _ from hN.2.1.bv).convS
        rwa [hbsd] at this
      have HS : Hid (AdS wr hb o (.string ls) (.slice sa BD.length sc) bs wr.drew) := Lib.hid ⟨(Below.refl _ _).drew, d4', hcvd⟩
      have HLT : Hid (hb < wr.heap.size) := Lib.hid (by have := hN.1.size; omega)
      have HE : Hid (eS = eS) := Lib.hid rfl
      clear hN hbL hBl hBD hbsd hls hcv hcvd d4' eB
      go_wp2_with fail
      refine wp_region_held_drew (S := (AdS wr hb o (.string ls) (.slice sa BD.length sc) bs)) (by kernel_rfl) HS.out (fun hS => ?_)
      refine wpAnyH_take (i := 0) (oi := ⟨some 40, _, _, _, _, _⟩) (v := .pointer (some ⟨hb, o, none⟩)) rfl (by kernel_rfl) (by kernel_rfl) (by kernel_rfl) (fun _ _ _ h => h) (Or.inl ⟨by rfl, fun w hSw => by obtain ⟨_, s1, s2⟩ := hSw; go_simp⟩) hS ?_
      try simp only [Act.put, List.setIfInBounds_toArray, List.set_cons_zero, List.set_cons_succ]
      refine wpAnyH_take (i := 1) (oi := ⟨some 41, _, _, _, _, _⟩) (v := .pointer (some ⟨hb, o, none⟩)) rfl (by kernel_rfl) (by kernel_rfl) (by kernel_rfl) (fun _ _ _ h => h) (Or.inl ⟨by rfl, fun w hSw => by obtain ⟨_, s1, s2⟩ := hSw; go_simp⟩) hS ?_
      try simp only [Act.put, List.setIfInBounds_toArray, List.set_cons_zero, List.set_cons_succ]
      refine wpAnyH_take (i := 2) (oi := ⟨some 42, _, _, _, _, _⟩) (v := .pointer (some ⟨hb, o + 4, none⟩)) rfl (by kernel_rfl) (by kernel_rfl) (by kernel_rfl) (fun _ _ _ h => h) (Or.inl ⟨by rfl, fun w hSw => by obtain ⟨_, s1, s2⟩ := hSw; go_simp⟩) hS ?_
      try simp only [Act.put, List.setIfInBounds_toArray, List.set_cons_zero, List.set_cons_succ]
      refine wpAnyH_take (i := 3) (oi := ⟨some 43, _, _, _, _, _⟩) (v := .string ls) rfl (by kernel_rfl) (by kernel_rfl) (by kernel_rfl) (fun _ _ _ h => h) (Or.inl ⟨by rfl, fun w hSw => by obtain ⟨_, s1, s2⟩ := hSw; go_simp⟩) hS ?_
      try simp only [Act.put, List.setIfInBounds_toArray, List.set_cons_zero, List.set_cons_succ]
      refine wpAnyH_take (i := 4) (oi := ⟨some 44, _, _, _, _, _⟩) (v := .slice sa BD.length sc) rfl (by kernel_rfl) (by kernel_rfl) (by kernel_rfl) (fun _ _ _ h => h) (Or.inl ⟨by rfl, fun w hSw => by obtain ⟨_, s1, s2⟩ := hSw; go_simp⟩) hS ?_
      try simp only [Act.put, List.setIfInBounds_toArray, List.set_cons_zero, List.set_cons_succ]
      refine wpAnyH_take (i := 5) (oi := ⟨some 45, _, _, _, _, _⟩) (v := .string bs) rfl (by kernel_rfl) (by kernel_rfl) (by kernel_rfl) (fun _ _ _ h => h) (Or.inl ⟨by rfl, fun w hSw => by obtain ⟨_, s1, s2⟩ := hSw; go_simp⟩) hS ?_
      try simp only [Act.put, List.setIfInBounds_toArray, List.set_cons_zero, List.set_cons_succ]
      refine wpAnyH_ready (rs := [6]) (by kernel_rfl) (by simp) ?_
      refine AllReadyH.cons (o := ⟨some 46, _, _, _, _, _⟩) rfl (fun K hK => ?_) AllReadyH.nil
      go_simp
      have hb6 : Below wr.heap.size wr (wr.drew.alloc (.cells #[.string ls, .string bs] 9)) := (Below.refl _ _).drew.alloc (Nat.le_refl _) _
      have hS1 := AdS.next HLT.out N.out.2.1.bv HBS.out HS.out hb6
      refine hK.out _ _ hS1 (fun _ => ?_)
      clear hK K
      try simp only [Act.put, List.setIfInBounds_toArray, List.set_cons_zero, List.set_cons_succ]
      refine wpAnyH_ready (rs := [7]) (by kernel_rfl) (by simp) ?_
      refine AllReadyH.cons (o := ⟨some 47, _, _, _, _, _⟩) rfl (fun K hK => ?_) AllReadyH.nil
      go_simp
      refine (shajoin_any (StringsV.two wr.drew ls bs) (HG.out.below (N.out.1.trans (hb6.mono N.out.1.size)) HG.out.lt) (by have e1 : (Cat [ls, bs]).length = last.length + BD.length := (by rw [← HLS.out, ← HBS.out]; simp [Cat]); rw [e1]; have := HBL2.out; omega)).mono ?_
      rintro e w6 ⟨rfl, hb7⟩
      obtain ⟨ss, hss⟩ : ∃ ss : ByteArray, (⟨(Sha.sum (Cat [ls, bs])).toArray⟩ : ByteArray) = ss := ⟨_, rfl⟩
      rw [hss]
      have HSS := Lib.hid hss
      clear hss
      have hB6 := hb6.trans (hb7.mono hb6.size)
      have hS2 := AdS.next HLT.out N.out.2.1.bv HBS.out HS.out hB6
      refine hK.out _ _ hS2 (fun _ => ?_)
      clear hK K
      try simp only [Act.put, List.setIfInBounds_toArray, List.set_cons_zero, List.set_cons_succ]
      refine wpAnyH_take (i := 8) (oi := ⟨some 10, _, _, _, _, _⟩) (v := .string ss) rfl (by kernel_rfl) (by kernel_rfl) (by kernel_rfl) (fun _ _ _ h => h) (Or.inl ⟨by rfl, fun w hSw => by obtain ⟨_, s1, s2⟩ := hSw; go_simp⟩) hS2 ?_
      try simp only [Act.put, List.setIfInBounds_toArray, List.set_cons_zero, List.set_cons_succ]
      refine wpAnyH_done (by kernel_rfl) ?_ _
      have HSL : Hid (ss.data.toList = Sha.sum (last ++ BD)) := Lib.hid (by
        rw [← HSS.out]
        have : Cat [ls, bs] = last ++ BD := by rw [← HLS.out, ← HBS.out]; simp [Cat]
        rw [this])
      have hs32 : ss.size = 32 := by
        have : ss.data.toList.length = 32 := by rw [HSL.out]; rfl
        exact this
      obtain ⟨c7, w7, hconv, hrow, hsz7⟩ := conv_row w6 ss (by omega)
      rw [hs32] at hconv hrow
      have N7 := Lib.hid (N.out.later (hB6.trans (hrow.1.mono hB6.size)))
      have R7 := Lib.hid hrow
      clear hS hS1 hS2 HS hb6 hb7 hrow hsz7
      have B7 : Hid (Below w.heap.size w w6) := Lib.hid (N.out.1.trans (hB6.mono N.out.1.size))
      clear hB6 N D4
      go_wp2_with (at_builtin; refine wpList_append_rowC rfl (.tmp 49) (.tmp 50) rfl (.slice (some ⟨w6.heap.size, 0, none⟩) 32 c7) (.slice sa BD.length sc) (by rfl) (by rfl) R7.out N7.out.2.1.bv (by have := hbs.out; have := HBL2.out; unfold Jn.flen at *; omega) (by have := HBL2.out; have : ss.data.toList.length = 32 := hs32; omega) ?_)
      intro da dc w8 hR8
      have hDT : ss.data.toList ++ BD = Jn.data last epoch l := by rw [HSL.out, ← HBD2.out]; rfl
      obtain ⟨DT, hdt⟩ : ∃ DT, Jn.data last epoch l = DT := ⟨_, rfl⟩
      rw [hdt] at hDT
      have HDT := Lib.hid hdt
      have hdl : DT.length = Jn.flen l := by rw [← hdt]; exact Jn.data_length _ _ _
      obtain ⟨D, hDD⟩ : ∃ D, Jn.flen l = D := ⟨_, rfl⟩
      have HDD := Lib.hid hDD
      rw [hDD] at hdl
      have HDL := Lib.hid hdl
      have eL : 32 + BD.length = D := by
        have h1 : (ss.data.toList ++ BD).length = D := by rw [hDT, hdl]
        rw [List.length_append, show ss.data.toList.length = 32 from hs32] at h1
        exact h1
      rw [eL] at hR8 ⊢
      rw [hDT] at hR8
      clear eL
      have hDb : D ≤ 1000000 := by have := HFL.out; unfold Jn.flen at hDD; omega
      have hD1 : 40 ≤ D := by unfold Jn.flen at hDD; omega
      have R8 := Lib.hid hR8
      have B8 : Hid (Below w.heap.size w w8) := Lib.hid (B7.out.trans (hR8.1.mono B7.out.size))
      have HR2 : Hid (first + used + Jn.need s.size D ≤ s.dur.length) := Lib.hid (by have := HRO.out; rwa [hDD] at this)
      clear hR8 hDT hdt hdl hDD
      have hbW : b < w.heap.size := block_lt_of_cell HCB.out
      have hc8 : w8.cell? ⟨b, 0, none⟩ = some (.pointer (some ⟨bd, 0, none⟩)) := (B8.out.cell (p := ⟨b, 0, none⟩) hbW).trans HCB.out
      have V10 := Lib.hid (fun n => jsectors_any (w := w8.drewN n) (b := b) (bd := bd) (s := s) (G := FD) hc8 ((HD.out.below B8.out).below (below_drewN w8 n)) D (by omega))
      have V11 := Lib.hid (fun n => size_any ((HD.out.below B8.out).below (below_drewN w8 n)))
      clear R7 N7 hconv
      go_wp2_with fail
      go_quiet (first | (go_at_call 38; refine quiet_drewn (V10.out _)) | (go_at_call 23; refine quiet_same (V11.out _)))
      clear V10 V11
      obtain ⟨nd, hnd⟩ : ∃ nd, Jn.need s.size D = nd := ⟨_, rfl⟩
      have hmul := Jn.need_mul s.size D hss1
      rw [hnd] at hmul HR2
      have HND := Lib.hid hnd
      obtain ⟨nds, hnds⟩ : ∃ nds, nd * s.size = nds := ⟨_, rfl⟩
      rw [hnds] at hmul
      have hnd1 : 1 ≤ nd := by
        rcases Nat.eq_zero_or_pos nd with h | h
        · subst h; omega
        · exact h
      have hndb : nd ≤ 65536 := by have := HR2.out; omega
      have im : (nd : Int) * (s.size : Int) = (nds : Int) := by rw [← hnds, Int.natCast_mul]
      obtain ⟨z, hz⟩ : ∃ z, nds - D = z := ⟨_, rfl⟩
      have iz : (nds : Int) - (D : Int) = (z : Int) := by omega
      have HNS := Lib.hid hnds
      have HZ := Lib.hid hz
      rw [hnd]
      obtain ⟨w9, hw9⟩ : ∃ w9, w8.drewN nq = w9 := ⟨_, rfl⟩
      have b89 : Below w8.heap.size w8 w9 := by rw [← hw9]; exact below_drewN w8 nq
      have R9 := Lib.hid (R8.out.grow b89)
      have B9 := Lib.hid (B8.out.trans (b89.mono B8.out.size))
      rw [hw9]
      clear hnd hnds hz hw9 b89 R8 B8 hc8
      go_wp2_with (at_builtin; refine wpList_append_zeros rfl (.tmp 61) (.tmp 67) rfl (.slice da D dc) z (by rfl) (by rfl) R9.out (by rw [HDL.out]; omega) ?_)
      intro pa pc w10 hR10
      have hNZ : nds = D + z := by have := HZ.out; omega
      have hpad : DT ++ List.replicate z 0 = Jn.pad s.size DT := by unfold Jn.pad; rw [HDL.out, HND.out, HNS.out, HZ.out]
      have eP : DT.length + z = nds := by rw [HDL.out]; omega
      rw [eP, hpad] at hR10
      rw [eP]
      obtain ⟨PD, hPD⟩ : ∃ PD, Jn.pad s.size DT = PD := ⟨_, rfl⟩
      rw [hPD] at hR10
      have HPD := Lib.hid hPD
      have hpl : PD.length = nds := by rw [← hPD, Jn.pad_length _ _ (by omega), HDL.out, HND.out, HNS.out]
      obtain ⟨-, -, pg, pcc, epv, hpg1, hpg2, hpc1, hpc2, -, -⟩ := id hR10
      obtain ⟨rfl, -, rfl⟩ : pa = some ⟨pg, 0, none⟩ ∧ nds = PD.length ∧ pc = pcc := by simpa using epv
      rw [hpl] at hpc1
      unfold maxLen at hpc2
      have V10 := Lib.hid hR10.bv
      have B10 := Lib.hid (B7.out.trans (hR10.1.mono B7.out.size))
      have HPG : Hid (w.heap.size ≤ w6.heap.size) := Lib.hid B7.out.size
      have HPL := Lib.hid hpl
      have HNZ := Lib.hid hNZ
      clear hNZ hR10 hpad hPD epv hpg1 hpg2 R9 B9 B7 hpl eP
      have e0 : w10.cell? ⟨hb, o, none⟩ = some (.int .i64 (first : Int)) := (B10.out.cell (p := ⟨hb, o, none⟩) hbl).trans d0
      have e2 : w10.cell? ⟨hb, o + 2, none⟩ = some (.int .i64 (used : Int)) := (B10.out.cell (p := ⟨hb, o + 2, none⟩) hbl).trans d2
      obtain ⟨st, hst⟩ : ∃ st, first + used = st := ⟨_, rfl⟩
      have HST := Lib.hid hst
      rw [hst] at HR2
      have ist : (first : Int) + (used : Int) = (st : Int) := by omega
      have hstb : st ≤ 65536 := by have := HR2.out; omega
      clear hst
      go_wp2_with fail
      go_quiet (fail)
      obtain ⟨w11, hw11⟩ : ∃ w11, w10.drewN nq = w11 := ⟨_, rfl⟩
      have b11 : Below w10.heap.size w10 w11 := by rw [← hw11]; exact below_drewN w10 nq
      have V11 := Lib.hid (V10.out.grow b11)
      have B11 := Lib.hid (B10.out.trans (b11.mono B10.out.size))
      have VIN : Hid (∀ k, w6.heap.size ≤ k ∧ k < w10.heap.size → k < w11.heap.size) := Lib.hid (fun k hk => Nat.lt_of_lt_of_le hk.2 b11.size)
      rw [hw11]
      clear hw11 b11 V10 B10 e0 e2
      have HIF : Hid (Inn FD w) := Lib.hid HD.out.inn
      have VDJ : Hid (Dj (fun k => w6.heap.size ≤ k ∧ k < w10.heap.size) FD) := Lib.hid (fun k hk hf => by have := HIF.out k hf; have := HPG.out; omega)
      have D11 := Lib.hid (HD.out.below B11.out)
      have c11 : Hid (w11.cell? ⟨b, 0, none⟩ = some (.pointer (some ⟨bd, 0, none⟩))) := Lib.hid ((B11.out.cell (p := ⟨b, 0, none⟩) hbW).trans HCB.out)
      have HBW : Hid (b < w11.heap.size) := Lib.hid (by have := B11.out.size; omega)
      have KC : Hid (∀ wr, Stp FD w11 wr → wr.cell? ⟨b, 0, none⟩ = some (.pointer (some ⟨bd, 0, none⟩))) := Lib.hid (fun wr st => (World.cell?_of_block (w := w11) (a := ⟨b, 0, none⟩) (st.keep b HBW.out HBD.out)).trans c11.out)
      have KV : Hid (∀ wr, Stp FD w11 wr → BV wr (fun k => w6.heap.size ≤ k ∧ k < w10.heap.size) (.slice (some ⟨pg, 0, none⟩) nds pc) PD) := Lib.hid (fun wr st => V11.out.same (st.same (fun k hk => VIN.out k hk) VDJ.out))
      have HCH : Hid (∀ k, k < nd → (Jn.chunk s.size DT k).length = s.size) := Lib.hid (fun k hk => Jn.chunk_length _ _ _ (by omega) (by rw [HDL.out, HND.out]; exact hk))
      go_wp2_with fail
      go_loopw [15] (fun i wr => ∃ k : Nat, 1 ≤ k ∧ k ≤ nd ∧ i = .int .i64 (k : Int) ∧ AddR w11 s bd FD st DT k wr) (fun i _ => nd - (intOf i).toNat)
      case atStart => exact ⟨1, Nat.le_refl _, hnd1, rfl, Stp.refl _ _, s, D11.out.plus, HC.out, rfl, rfl, by omega, fun j => by rw [if_neg (by omega)]⟩
      case round =>
        obtain ⟨k, hk1, hk, rfl, hst0, s', hD', hcal', hsz', hlen', hpn', hlk'⟩ := hrel
        by_cases hlt : k < nd
        · have ik : (k : Int) < (nd : Int) := by omega
          have c0 := KC.out _ hst0
          obtain ⟨m1, hm1⟩ : ∃ m1, k * s.size = m1 := ⟨_, rfl⟩
          have im1 : (k : Int) * (s.size : Int) = (m1 : Int) := by rw [← hm1, Int.natCast_mul]
          obtain ⟨mh, hmh⟩ : ∃ mh, m1 + s.size = mh := ⟨_, rfl⟩
          have im2 : ((k : Int) + 1) * (s.size : Int) = (mh : Int) := by rw [Int.add_mul, Int.one_mul, im1]; omega
          have hml : mh - m1 = s.size := by omega
          have hml1 : m1 ≤ mh := by omega
          have hm2 : m1 + s.size ≤ nds := by
            have h := Nat.mul_le_mul_right s.size (show k + 1 ≤ nd from hlt)
            rw [Nat.add_mul, Nat.one_mul, hm1, HNS.out] at h
            exact h
          have hne : ¬ pc = m1 := by omega
          have hls : ¬ mh < m1 := by omega
          have hls2 : ¬ pc < mh := by omega
          have hvb : BV wr.drew (fun k => w6.heap.size ≤ k ∧ k < w10.heap.size) (.slice (some ⟨pg, m1, none⟩) s.size (pc - m1)) (Jn.chunk s.size DT k) := by
            have h := (KV.out _ hst0).subAt HPL.out hm2
            rw [Nat.zero_add] at h
            unfold Jn.chunk
            rw [hm1, HPD.out]
            exact h
          have V := write_any (hD'.below (Below.refl _ _).drew) ((st : Int) + (k : Int)) _ _ hvb (by omega)
          rw [show (st : Int) + (k : Int) = ((st + k : Nat) : Int) from by omega, hcal'.write (by have := HR2.out; omega) (by rw [HCH.out k hlt, hsz'])] at V
          rw [show ((st + k : Nat) : Int) = (st : Int) + (k : Int) from by omega] at V
          have HV := Lib.hid V
          have HAR := Lib.hid (fun (w2 : World) h1 h2 => AddR.write (w := w11) (w2 := w2) (bd := bd) (n := s.pend.length + k) hst0 (fun k hk => Nat.lt_of_lt_of_le (HIF.out k hk) B11.out.size) hcal' hsz' hlen' (by omega) hlk' h1 h2 hk1 rfl)
          have w1k : IntKind.i64.wrap ((st : Int) + (k : Int)) = (st : Int) + (k : Int) := by rw [IntKind.wrap_i64]; omega
          have w2k : IntKind.i64.wrap (m1 : Int) = (m1 : Int) := by rw [IntKind.wrap_i64]; omega
          have w3k : IntKind.i64.wrap ((k : Int) + 1) = (k : Int) + 1 := by rw [IntKind.wrap_i64]; omega
          have w4k : IntKind.i64.wrap (mh : Int) = (mh : Int) := by rw [IntKind.wrap_i64]; omega
          have HSS2 := Lib.hid hst0
          have HSa : Hid (wr.drew.cell? ⟨b, 0, none⟩ = some (.pointer (some ⟨bd, 0, none⟩))) := Lib.hid c0
          clear V hvb hm1 hm2 hmh hst0 hD' hcal' hsz' hlen' hpn' hlk'
          go_wp2_with fail
          refine wp_region_held_drew (S := (fun w' => w'.cell? ⟨b, 0, none⟩ = some (.pointer (some ⟨bd, 0, none⟩)))) (by kernel_rfl) HSa.out (fun hS => ?_)
          refine wpAnyH_take (i := 0) (oi := ⟨some 83, _, _, _, _, _⟩) (v := .pointer (some ⟨b, 0, none⟩)) rfl (by kernel_rfl) (by kernel_rfl) (by kernel_rfl) (fun _ _ _ h => h) (Or.inl ⟨by rfl, fun w (s1 : w.cell? ⟨b, 0, none⟩ = some (.pointer (some ⟨bd, 0, none⟩))) => by go_simp⟩) hS ?_
          try simp only [Act.put, List.setIfInBounds_toArray, List.set_cons_zero, List.set_cons_succ]
          refine wpAnyH_take (i := 1) (oi := ⟨some 84, _, _, _, _, _⟩) (v := .pointer (some ⟨b, 0, none⟩)) rfl (by kernel_rfl) (by kernel_rfl) (by kernel_rfl) (fun _ _ _ h => h) (Or.inl ⟨by rfl, fun w (s1 : w.cell? ⟨b, 0, none⟩ = some (.pointer (some ⟨bd, 0, none⟩))) => by go_simp⟩) hS ?_
          try simp only [Act.put, List.setIfInBounds_toArray, List.set_cons_zero, List.set_cons_succ]
          refine wpAnyH_take (i := 2) (oi := ⟨some 85, _, _, _, _, _⟩) (v := .pointer (some ⟨b, 0, none⟩)) rfl (by kernel_rfl) (by kernel_rfl) (by kernel_rfl) (fun _ _ _ h => h) (Or.inl ⟨by rfl, fun w (s1 : w.cell? ⟨b, 0, none⟩ = some (.pointer (some ⟨bd, 0, none⟩))) => by go_simp⟩) hS ?_
          try simp only [Act.put, List.setIfInBounds_toArray, List.set_cons_zero, List.set_cons_succ]
          refine wpAnyH_take (i := 3) (oi := ⟨some 86, _, _, _, _, _⟩) (v := .pointer (some ⟨bd, 0, none⟩)) rfl (by kernel_rfl) (by kernel_rfl) (by kernel_rfl) (fun _ _ _ h => h) (Or.inl ⟨by rfl, fun w (s1 : w.cell? ⟨b, 0, none⟩ = some (.pointer (some ⟨bd, 0, none⟩))) => by go_simp⟩) hS ?_
          try simp only [Act.put, List.setIfInBounds_toArray, List.set_cons_zero, List.set_cons_succ]
          refine wpAnyH_take (i := 4) (oi := ⟨some 87, _, _, _, _, _⟩) (v := .int .i64 (st : Int)) rfl (by kernel_rfl) (by kernel_rfl) (by kernel_rfl) (fun _ _ _ h => h) (Or.inl ⟨by rfl, fun w (s1 : w.cell? ⟨b, 0, none⟩ = some (.pointer (some ⟨bd, 0, none⟩))) => by go_simp⟩) hS ?_
          try simp only [Act.put, List.setIfInBounds_toArray, List.set_cons_zero, List.set_cons_succ]
          refine wpAnyH_take (i := 5) (oi := ⟨some 88, _, _, _, _, _⟩) (v := .int .i64 (k : Int)) rfl (by kernel_rfl) (by kernel_rfl) (by kernel_rfl) (fun _ _ _ h => h) (Or.inl ⟨by rfl, fun w (s1 : w.cell? ⟨b, 0, none⟩ = some (.pointer (some ⟨bd, 0, none⟩))) => by go_simp⟩) hS ?_
          try simp only [Act.put, List.setIfInBounds_toArray, List.set_cons_zero, List.set_cons_succ]
          refine wpAnyH_take (i := 6) (oi := ⟨some 89, _, _, _, _, _⟩) (v := .int .i64 ((st : Int) + (k : Int))) rfl (by kernel_rfl) (by kernel_rfl) (by kernel_rfl) (fun _ _ _ h => h) (Or.inl ⟨by rfl, fun w (s1 : w.cell? ⟨b, 0, none⟩ = some (.pointer (some ⟨bd, 0, none⟩))) => by go_simp⟩) hS ?_
          try simp only [Act.put, List.setIfInBounds_toArray, List.set_cons_zero, List.set_cons_succ]
          refine wpAnyH_take (i := 7) (oi := ⟨some 90, _, _, _, _, _⟩) (v := .slice (some ⟨pg, 0, none⟩) nds pc) rfl (by kernel_rfl) (by kernel_rfl) (by kernel_rfl) (fun _ _ _ h => h) (Or.inl ⟨by rfl, fun w (s1 : w.cell? ⟨b, 0, none⟩ = some (.pointer (some ⟨bd, 0, none⟩))) => by go_simp⟩) hS ?_
          try simp only [Act.put, List.setIfInBounds_toArray, List.set_cons_zero, List.set_cons_succ]
          refine wpAnyH_take (i := 8) (oi := ⟨some 91, _, _, _, _, _⟩) (v := .int .i64 (k : Int)) rfl (by kernel_rfl) (by kernel_rfl) (by kernel_rfl) (fun _ _ _ h => h) (Or.inl ⟨by rfl, fun w (s1 : w.cell? ⟨b, 0, none⟩ = some (.pointer (some ⟨bd, 0, none⟩))) => by go_simp⟩) hS ?_
          try simp only [Act.put, List.setIfInBounds_toArray, List.set_cons_zero, List.set_cons_succ]
          refine wpAnyH_take (i := 9) (oi := ⟨some 92, _, _, _, _, _⟩) (v := .int .i64 (s.size : Int)) rfl (by kernel_rfl) (by kernel_rfl) (by kernel_rfl) (fun _ _ _ h => h) (Or.inl ⟨by rfl, fun w (s1 : w.cell? ⟨b, 0, none⟩ = some (.pointer (some ⟨bd, 0, none⟩))) => by go_simp⟩) hS ?_
          try simp only [Act.put, List.setIfInBounds_toArray, List.set_cons_zero, List.set_cons_succ]
          refine wpAnyH_take (i := 10) (oi := ⟨some 93, _, _, _, _, _⟩) (v := .int .i64 (m1 : Int)) rfl (by kernel_rfl) (by kernel_rfl) (by kernel_rfl) (fun _ _ _ h => h) (Or.inl ⟨by rfl, fun w (s1 : w.cell? ⟨b, 0, none⟩ = some (.pointer (some ⟨bd, 0, none⟩))) => by go_simp⟩) hS ?_
          try simp only [Act.put, List.setIfInBounds_toArray, List.set_cons_zero, List.set_cons_succ]
          refine wpAnyH_take (i := 11) (oi := ⟨some 94, _, _, _, _, _⟩) (v := .int .i64 (k : Int)) rfl (by kernel_rfl) (by kernel_rfl) (by kernel_rfl) (fun _ _ _ h => h) (Or.inl ⟨by rfl, fun w (s1 : w.cell? ⟨b, 0, none⟩ = some (.pointer (some ⟨bd, 0, none⟩))) => by go_simp⟩) hS ?_
          try simp only [Act.put, List.setIfInBounds_toArray, List.set_cons_zero, List.set_cons_succ]
          refine wpAnyH_take (i := 12) (oi := ⟨some 95, _, _, _, _, _⟩) (v := .int .i64 ((k : Int) + 1)) rfl (by kernel_rfl) (by kernel_rfl) (by kernel_rfl) (fun _ _ _ h => h) (Or.inl ⟨by rfl, fun w (s1 : w.cell? ⟨b, 0, none⟩ = some (.pointer (some ⟨bd, 0, none⟩))) => by go_simp⟩) hS ?_
          try simp only [Act.put, List.setIfInBounds_toArray, List.set_cons_zero, List.set_cons_succ]
          refine wpAnyH_take (i := 13) (oi := ⟨some 96, _, _, _, _, _⟩) (v := .int .i64 (s.size : Int)) rfl (by kernel_rfl) (by kernel_rfl) (by kernel_rfl) (fun _ _ _ h => h) (Or.inl ⟨by rfl, fun w (s1 : w.cell? ⟨b, 0, none⟩ = some (.pointer (some ⟨bd, 0, none⟩))) => by go_simp⟩) hS ?_
          try simp only [Act.put, List.setIfInBounds_toArray, List.set_cons_zero, List.set_cons_succ]
          refine wpAnyH_take (i := 14) (oi := ⟨some 97, _, _, _, _, _⟩) (v := .int .i64 (mh : Int)) rfl (by kernel_rfl) (by kernel_rfl) (by kernel_rfl) (fun _ _ _ h => h) (Or.inl ⟨by rfl, fun w (s1 : w.cell? ⟨b, 0, none⟩ = some (.pointer (some ⟨bd, 0, none⟩))) => by go_simp⟩) hS ?_
          try simp only [Act.put, List.setIfInBounds_toArray, List.set_cons_zero, List.set_cons_succ]
          refine wpAnyH_take (i := 15) (oi := ⟨some 98, _, _, _, _, _⟩) (v := .slice (some ⟨pg, m1, none⟩) s.size (pc - m1)) rfl (by kernel_rfl) (by kernel_rfl) (by kernel_rfl) (fun _ _ _ h => h) (Or.inl ⟨by rfl, fun w (s1 : w.cell? ⟨b, 0, none⟩ = some (.pointer (some ⟨bd, 0, none⟩))) => by go_simp⟩) hS ?_
          try simp only [Act.put, List.setIfInBounds_toArray, List.set_cons_zero, List.set_cons_succ]
          refine wpAnyH_ready (rs := [16]) (by kernel_rfl) (by simp) ?_
          refine AllReadyH.cons (o := ⟨some 99, _, _, _, _, _⟩) rfl (fun K hK => ?_) AllReadyH.nil
          go_simp
          refine (HV.out).mono ?_
          rintro e w2 ⟨rfl, hs2, hd2⟩
          have hS2 : w2.cell? ⟨b, 0, none⟩ = some (.pointer (some ⟨bd, 0, none⟩)) := KC.out _ (HSS2.out.trans hs2.undrew)
          refine hK.out _ _ hS2 (fun _ => ?_)
          clear hK K
          try simp only [Act.put, List.setIfInBounds_toArray, List.set_cons_zero, List.set_cons_succ]
          refine wpAnyH_take (i := 17) (oi := ⟨some 100, _, _, _, _, _⟩) (v := .bool false) rfl (by kernel_rfl) (by kernel_rfl) (by kernel_rfl) (fun _ _ _ h => h) (Or.inl ⟨by rfl, fun w (s1 : w.cell? ⟨b, 0, none⟩ = some (.pointer (some ⟨bd, 0, none⟩))) => by go_simp⟩) hS2 ?_
          try simp only [Act.put, List.setIfInBounds_toArray, List.set_cons_zero, List.set_cons_succ]
          refine wpAnyH_done (by kernel_rfl) ?_ _
          have HA := Lib.hid (HAR.out _ hs2.undrew hd2)
          clear hs2 hd2 HV HAR hS hS2 HSa
          go_wp2_with fail
          go_roundw
          case rel => exact ⟨k + 1, by omega, by omega, by go_num, HA.out⟩
          case measure => simp [intOf]; omega
        · obtain rfl : k = nd := by omega
          have ik : ¬ (k : Int) < (k : Int) := by omega
          have c0 := KC.out _ hst0
          have HHD := Lib.hid hD'
          have HHC := Lib.hid hcal'
          have HHS := Lib.hid (And.intro hsz' (And.intro hlen' hpn'))
          have HHL := Lib.hid hlk'
          have HH0 := Lib.hid hst0
          clear hD' hcal' hsz' hlen' hpn' hlk' hst0
          by_cases h1n : 1 < k
          · have ig : (1 : Int) < (k : Int) := by omega
            have VS := sync_any HHD.out (by have := HHS.out.2.2; omega)
            rw [HHC.out.sync] at VS
            have HSY := Lib.hid VS
            clear VS
            go_wp2_with (go_at_call 16; refine (HSY.out).mono ?_; rintro e w13 ⟨rfl, hs3, hd3⟩)
            have S13 := Lib.hid (HH0.out.trans hs3)
            have D13 : Hid (DiskAt w13 s'.flush bd (Plus FD w11 w13) ∧ s'.flush.Calm ∧ s'.flush.size = s.size ∧ s'.flush.dur.length = s.dur.length ∧ s'.flush.pend.length ≤ 70000 ∧ ∀ j, s'.flush.look j = if st + 1 ≤ j ∧ j < st + k then Jn.chunk s.size DT (j - st) else s.look j) := Lib.hid ⟨hd3.mono (Plus.plus HH0.out.size hs3.size) (Plus.inn (fun k hk => Nat.lt_of_lt_of_le (HIF.out k hk) B11.out.size) S13.out.size), HHC.out.flush, HHS.out.1, by rw [← HHS.out.2.1]; exact DSt.foldl_set_len _ _, by simp [DSt.flush], fun j => by rw [DSt.flush_look HHD.out.ok, HHL.out j]⟩
            clear hs3 hd3 HSY c0
            generalize s'.flush = s13 at *
            have c0 := KC.out _ S13.out
            have HDR : Hid (DiskAt w13.drew s13 bd (Plus FD w11 w13)) := Lib.hid (D13.out.1.below (Below.refl _ _).drew)
            have hvb : BV w13.drew (fun k => w6.heap.size ≤ k ∧ k < w10.heap.size) (.slice (some ⟨pg, 0, none⟩) s.size pc) (Jn.chunk s.size DT 0) := by
              have h := (KV.out _ S13.out).take (k := s.size) (by
                have h := Nat.mul_le_mul_right s.size hnd1
                rw [Nat.one_mul, HNS.out] at h
                exact h)
              unfold Jn.chunk
              rw [Nat.zero_mul, List.drop_zero, HPD.out]
              exact h
            have V := write_any HDR.out (st : Int) _ _ hvb (by have := D13.out.2.2.2.2.1; omega)
            rw [D13.out.2.1.write (by rw [D13.out.2.2.2.1]; have := HR2.out; omega) (by rw [HCH.out 0 (by omega), D13.out.2.2.1])] at V
            have HV := Lib.hid V
            have HS : Hid (w13.drew.cell? ⟨b, 0, none⟩ = some (.pointer (some ⟨bd, 0, none⟩))) := Lib.hid c0
            have hszn : s.size ≤ nds := by
              have h := Nat.mul_le_mul_right s.size hnd1
              rw [Nat.one_mul, HNS.out] at h
              exact h
            have hpcs : ¬ pc < s.size := by omega
            clear V hvb c0
            refine wp_region_held_drew (S := (fun w' => w'.cell? ⟨b, 0, none⟩ = some (.pointer (some ⟨bd, 0, none⟩)))) (by kernel_rfl) HS.out (fun hS => ?_)
            refine wpAnyH_take (i := 0) (oi := ⟨some 115, _, _, _, _, _⟩) (v := .pointer (some ⟨b, 0, none⟩)) rfl (by kernel_rfl) (by kernel_rfl) (by kernel_rfl) (fun _ _ _ h => h) (Or.inl ⟨by rfl, fun w (s1 : w.cell? ⟨b, 0, none⟩ = some (.pointer (some ⟨bd, 0, none⟩))) => by go_simp⟩) hS ?_
            try simp only [Act.put, List.setIfInBounds_toArray, List.set_cons_zero, List.set_cons_succ]
            refine wpAnyH_take (i := 1) (oi := ⟨some 116, _, _, _, _, _⟩) (v := .pointer (some ⟨b, 0, none⟩)) rfl (by kernel_rfl) (by kernel_rfl) (by kernel_rfl) (fun _ _ _ h => h) (Or.inl ⟨by rfl, fun w (s1 : w.cell? ⟨b, 0, none⟩ = some (.pointer (some ⟨bd, 0, none⟩))) => by go_simp⟩) hS ?_
            try simp only [Act.put, List.setIfInBounds_toArray, List.set_cons_zero, List.set_cons_succ]
            refine wpAnyH_take (i := 2) (oi := ⟨some 117, _, _, _, _, _⟩) (v := .pointer (some ⟨b, 0, none⟩)) rfl (by kernel_rfl) (by kernel_rfl) (by kernel_rfl) (fun _ _ _ h => h) (Or.inl ⟨by rfl, fun w (s1 : w.cell? ⟨b, 0, none⟩ = some (.pointer (some ⟨bd, 0, none⟩))) => by go_simp⟩) hS ?_
            try simp only [Act.put, List.setIfInBounds_toArray, List.set_cons_zero, List.set_cons_succ]
            refine wpAnyH_take (i := 3) (oi := ⟨some 118, _, _, _, _, _⟩) (v := .pointer (some ⟨bd, 0, none⟩)) rfl (by kernel_rfl) (by kernel_rfl) (by kernel_rfl) (fun _ _ _ h => h) (Or.inl ⟨by rfl, fun w (s1 : w.cell? ⟨b, 0, none⟩ = some (.pointer (some ⟨bd, 0, none⟩))) => by go_simp⟩) hS ?_
            try simp only [Act.put, List.setIfInBounds_toArray, List.set_cons_zero, List.set_cons_succ]
            refine wpAnyH_take (i := 4) (oi := ⟨some 119, _, _, _, _, _⟩) (v := .int .i64 (st : Int)) rfl (by kernel_rfl) (by kernel_rfl) (by kernel_rfl) (fun _ _ _ h => h) (Or.inl ⟨by rfl, fun w (s1 : w.cell? ⟨b, 0, none⟩ = some (.pointer (some ⟨bd, 0, none⟩))) => by go_simp⟩) hS ?_
            try simp only [Act.put, List.setIfInBounds_toArray, List.set_cons_zero, List.set_cons_succ]
            refine wpAnyH_take (i := 5) (oi := ⟨some 120, _, _, _, _, _⟩) (v := .slice (some ⟨pg, 0, none⟩) nds pc) rfl (by kernel_rfl) (by kernel_rfl) (by kernel_rfl) (fun _ _ _ h => h) (Or.inl ⟨by rfl, fun w (s1 : w.cell? ⟨b, 0, none⟩ = some (.pointer (some ⟨bd, 0, none⟩))) => by go_simp⟩) hS ?_
            try simp only [Act.put, List.setIfInBounds_toArray, List.set_cons_zero, List.set_cons_succ]
            refine wpAnyH_take (i := 6) (oi := ⟨some 121, _, _, _, _, _⟩) (v := .int .i64 (s.size : Int)) rfl (by kernel_rfl) (by kernel_rfl) (by kernel_rfl) (fun _ _ _ h => h) (Or.inl ⟨by rfl, fun w (s1 : w.cell? ⟨b, 0, none⟩ = some (.pointer (some ⟨bd, 0, none⟩))) => by go_simp⟩) hS ?_
            try simp only [Act.put, List.setIfInBounds_toArray, List.set_cons_zero, List.set_cons_succ]
            refine wpAnyH_take (i := 7) (oi := ⟨some 122, _, _, _, _, _⟩) (v := .slice (some ⟨pg, 0, none⟩) s.size pc) rfl (by kernel_rfl) (by kernel_rfl) (by kernel_rfl) (fun _ _ _ h => h) (Or.inl ⟨by rfl, fun w (s1 : w.cell? ⟨b, 0, none⟩ = some (.pointer (some ⟨bd, 0, none⟩))) => by go_simp⟩) hS ?_
            try simp only [Act.put, List.setIfInBounds_toArray, List.set_cons_zero, List.set_cons_succ]
            refine wpAnyH_ready (rs := [8]) (by kernel_rfl) (by simp) ?_
            refine AllReadyH.cons (o := ⟨some 123, _, _, _, _, _⟩) rfl (fun K hK => ?_) AllReadyH.nil
            go_simp
            refine (HV.out).mono ?_
            rintro e w14 ⟨rfl, h14, hd14⟩
            have hS2 : w14.cell? ⟨b, 0, none⟩ = some (.pointer (some ⟨bd, 0, none⟩)) := KC.out _ (S13.out.drew.trans h14)
            refine hK.out _ _ hS2 (fun _ => ?_)
            clear hK K
            try simp only [Act.put, List.setIfInBounds_toArray, List.set_cons_zero, List.set_cons_succ]
            refine wpAnyH_take (i := 9) (oi := ⟨some 124, _, _, _, _, _⟩) (v := .bool false) rfl (by kernel_rfl) (by kernel_rfl) (by kernel_rfl) (fun _ _ _ h => h) (Or.inl ⟨by rfl, fun w (s1 : w.cell? ⟨b, 0, none⟩ = some (.pointer (some ⟨bd, 0, none⟩))) => by go_simp⟩) hS2 ?_
            try simp only [Act.put, List.setIfInBounds_toArray, List.set_cons_zero, List.set_cons_succ]
            refine wpAnyH_take (i := 10) (oi := ⟨some 125, _, _, _, _, _⟩) (v := .bool false) rfl (by kernel_rfl) (by kernel_rfl) (by kernel_rfl) (fun _ _ _ h => h) (Or.inl ⟨by rfl, fun w (s1 : w.cell? ⟨b, 0, none⟩ = some (.pointer (some ⟨bd, 0, none⟩))) => by go_simp⟩) hS2 ?_
            try simp only [Act.put, List.setIfInBounds_toArray, List.set_cons_zero, List.set_cons_succ]
            refine wpAnyH_take (i := 11) (oi := ⟨some 126, _, _, _, _, _⟩) (v := .pointer (some ⟨b, 0, none⟩)) rfl (by kernel_rfl) (by kernel_rfl) (by kernel_rfl) (fun _ _ _ h => h) (Or.inl ⟨by rfl, fun w (s1 : w.cell? ⟨b, 0, none⟩ = some (.pointer (some ⟨bd, 0, none⟩))) => by go_simp⟩) hS2 ?_
            try simp only [Act.put, List.setIfInBounds_toArray, List.set_cons_zero, List.set_cons_succ]
            refine wpAnyH_take (i := 12) (oi := ⟨some 127, _, _, _, _, _⟩) (v := .pointer (some ⟨b, 0, none⟩)) rfl (by kernel_rfl) (by kernel_rfl) (by kernel_rfl) (fun _ _ _ h => h) (Or.inl ⟨by rfl, fun w (s1 : w.cell? ⟨b, 0, none⟩ = some (.pointer (some ⟨bd, 0, none⟩))) => by go_simp⟩) hS2 ?_
            try simp only [Act.put, List.setIfInBounds_toArray, List.set_cons_zero, List.set_cons_succ]
            refine wpAnyH_take (i := 13) (oi := ⟨some 128, _, _, _, _, _⟩) (v := .pointer (some ⟨b, 0, none⟩)) rfl (by kernel_rfl) (by kernel_rfl) (by kernel_rfl) (fun _ _ _ h => h) (Or.inl ⟨by rfl, fun w (s1 : w.cell? ⟨b, 0, none⟩ = some (.pointer (some ⟨bd, 0, none⟩))) => by go_simp⟩) hS2 ?_
            try simp only [Act.put, List.setIfInBounds_toArray, List.set_cons_zero, List.set_cons_succ]
            refine wpAnyH_take (i := 14) (oi := ⟨some 129, _, _, _, _, _⟩) (v := .pointer (some ⟨bd, 0, none⟩)) rfl (by kernel_rfl) (by kernel_rfl) (by kernel_rfl) (fun _ _ _ h => h) (Or.inl ⟨by rfl, fun w (s1 : w.cell? ⟨b, 0, none⟩ = some (.pointer (some ⟨bd, 0, none⟩))) => by go_simp⟩) hS2 ?_
            try simp only [Act.put, List.setIfInBounds_toArray, List.set_cons_zero, List.set_cons_succ]
            refine wpAnyH_ready (rs := [15]) (by kernel_rfl) (by simp) ?_
            refine AllReadyH.cons (o := ⟨some 130, _, _, _, _, _⟩) rfl (fun K hK => ?_) AllReadyH.nil
            go_simp
            have VS := sync_any hd14 (by have := D13.out.2.2.2.2.1; simp only [DSt.push, List.length_append, List.length_cons, List.length_nil]; omega)
            rw [(D13.out.2.1.push st _).sync] at VS
            refine VS.mono ?_
            rintro e w15 ⟨rfl, h15, hd15⟩
            clear VS
            have hS3 : w15.cell? ⟨b, 0, none⟩ = some (.pointer (some ⟨bd, 0, none⟩)) := KC.out _ (S13.out.drew.trans (h14.trans h15))
            refine hK.out _ _ hS3 (fun _ => ?_)
            clear hK K
            try simp only [Act.put, List.setIfInBounds_toArray, List.set_cons_zero, List.set_cons_succ]
            refine wpAnyH_take (i := 16) (oi := ⟨some 131, _, _, _, _, _⟩) (v := .bool false) rfl (by kernel_rfl) (by kernel_rfl) (by kernel_rfl) (fun _ _ _ h => h) (Or.inl ⟨by rfl, fun w (s1 : w.cell? ⟨b, 0, none⟩ = some (.pointer (some ⟨bd, 0, none⟩))) => by go_simp⟩) hS3 ?_
            try simp only [Act.put, List.setIfInBounds_toArray, List.set_cons_zero, List.set_cons_succ]
            refine wpAnyH_take (i := 17) (oi := ⟨some 132, _, _, _, _, _⟩) (v := .bool false) rfl (by kernel_rfl) (by kernel_rfl) (by kernel_rfl) (fun _ _ _ h => h) (Or.inl ⟨by rfl, fun w (s1 : w.cell? ⟨b, 0, none⟩ = some (.pointer (some ⟨bd, 0, none⟩))) => by go_simp⟩) hS3 ?_
            try simp only [Act.put, List.setIfInBounds_toArray, List.set_cons_zero, List.set_cons_succ]
            refine wpAnyH_done (by kernel_rfl) ?_ _
            have S15 := Lib.hid ((S13.out.drew.trans (h14.trans h15)))
            have D15 : Hid (DiskAt w15 (s13.push st (Jn.chunk s.size DT 0)).flush bd (Plus FD w11 w15)) := Lib.hid (hd15.mono (fun x hx => by
              have e1 := S13.out.size; have e2 := h14.size; have e3 := h15.size
              simp only [World.size_drew] at e2
              rcases hx with (hx | hx) | hx
              · rcases hx with hx | hx
                · exact .inl hx
                · exact .inr ⟨hx.1, by omega⟩
              · exact .inr ⟨by have := hx.1; simp only [World.size_drew] at this; omega, by have := hx.2; omega⟩
              · exact .inr ⟨by have := hx.1; omega, hx.2⟩) (Plus.inn (fun k hk => Nat.lt_of_lt_of_le (HIF.out k hk) B11.out.size) S15.out.size))
            clear hd15 hd14 h14 h15 hS hS2 hS3 HDR HV HS
            have HH15 : Hid (HalfAt w15 FJ hb P Q T first epoch used recs last) := Lib.hid ((HH.out.below B11.out).same (S15.out.same (fun k hk => Nat.lt_of_lt_of_le (HH.out.1 k hk) B11.out.size) HDJ.out.symm) S15.out.size)
            obtain ⟨rv15, hB15, -⟩ := HH15.out.2.2.2.2
            obtain ⟨g0, g1, g2, g3, g4⟩ := hB15.half HO.out
            have gf2 := hB15.free (o + 2)
            have gf4 := hB15.free (o + 4)
            have T1 := HH15.out.set (i := o + 2) (y := .int .i64 ((used : Int) + (k : Int))) (e' := epoch) (u' := used + k) (l' := last) (fun rv => hcells_used (used + k) HO.out)
            have T2 := T1.2.set (i := o + 4) (y := Str (Sha.sum (last ++ Jn.body epoch l))) (e' := epoch) (u' := used + k) (l' := Sha.sum (last ++ Jn.body epoch l)) (fun rv => hcells_last _ HO.out)
            have eSS : Str (Sha.sum (last ++ Jn.body epoch l)) = .string ss := by
              have h := HSL.out
              rw [← HBD2.out] at h
              rw [← h]
              rfl
            obtain ⟨SM, hSM⟩ : ∃ SM, Sha.sum (last ++ Jn.body epoch l) = SM := ⟨_, rfl⟩
            have HSM := Lib.hid hSM
            rw [hSM] at T2 eSS
            rw [eSS] at T2
            have HT := Lib.hid (And.intro (T1.1.trans' T2.1) T2.2)
            have KX : Hid (Same FX w w15) := Lib.hid ((Same.of_below B11.out HXI.out).trans (S15.out.same (fun k hk => Nat.lt_of_lt_of_le (HXI.out k hk) B11.out.size) HXD.out))
            have HBL15 := Lib.hid hB15.lt
            have HIX : Hid (Inn FX w15) := Lib.hid (fun k hk => Nat.lt_of_lt_of_le (HXI.out k hk) (Nat.le_trans B11.out.size S15.out.size))
            clear T1 T2 hB15 hSM
            go_wp2_with fail
            generalize (w15.setCell ⟨hb, o + 2, none⟩ (.int .i64 ((used : Int) + (k : Int)))).setCell ⟨hb, o + 4, none⟩ (.string ss) = w16 at *
            clear g0 g1 g2 g3 g4 gf2 gf4
            go_loopw [149] (fun i wr => ∃ k2 : Nat, k2 ≤ l.length ∧ i = .int .i64 (k2 : Int) ∧ Stp FJ w15 wr ∧ HalfAt wr (Plus FJ w15 wr) hb P Q T first epoch (used + k) (recs ++ l.take k2) SM) (fun i _ => l.length - (intOf i).toNat)
            case atStart => exact ⟨0, Nat.zero_le _, rfl, HT.out.1, by rw [List.take_zero, List.append_nil]; exact HT.out.2.mono (fun _ hk => .inl hk) (Plus.inn HH15.out.1 HT.out.1.size)⟩
            case round =>
              obtain ⟨k2, hk2, rfl, hst16, hh⟩ := hrel
              have HS16 := Lib.hid hst16
              by_cases hlt : k2 < l.length
              · have ik2 : (k2 : Int) < (l.length : Int) := by omega
                have sx : Same FX w wr := KX.out.trans (hst16.same HIX.out HXJ.out)
                obtain ⟨pb, po, x, rfl, hpF, hpc0, hpv⟩ := HXG.out k2 hlt
                have hpc := (sx.cell (p := ⟨pb, po + k2, none⟩) hpF).trans hpc0
                have hpv2 := hpv.same sx
                obtain ⟨ra, rc, rfl, _, _, -⟩ := hpv.get
                have htk : recs ++ l.take (k2 + 1) = (recs ++ l.take k2) ++ [l[k2]] := by rw [List.take_succ_eq_append_getElem hlt, List.append_assoc]
                have hrb : l[k2].length ≤ 1000000 := by
                  have h1 := HRL.out (k2 + 1)
                  rw [Jn.recs_snoc l k2 hlt, List.length_append, List.length_append] at h1
                  have h2 := HFL.out
                  omega
                obtain ⟨r, hr⟩ : ∃ r, l[k2] = r := ⟨_, rfl⟩
                rw [hr] at hpc hpv2 htk hrb
                have HTK := Lib.hid htk
                have HPVx : Hid (BV wr.drew FX (.slice ra r.length rc) r) := Lib.hid hpv2
                have HRB := Lib.hid hrb
                obtain ⟨hI, hF, t1, t2, rvv, hB, rvs, hR⟩ := hh
                obtain ⟨rva, rvc, rfl, -, -, -⟩ := RecsV.form ⟨rvs, hR⟩
                have hnl : (recs ++ l.take k2).length ≤ 1100000 := by rw [List.length_append, List.length_take]; omega
                obtain ⟨n, hn⟩ : ∃ n, (recs ++ l.take k2).length = n := ⟨_, rfl⟩
                have HN := Lib.hid hn
                rw [hn] at hB hnl
                obtain ⟨-, -, -, c3, -⟩ := hB.half HO.out
                have f3 := hB.free (o + 3)
                have hlt3 := hB.lt
                have HHH : Hid (Inn (Plus FJ w15 wr) wr ∧ (Plus FJ w15 wr) hb ∧ T ≠ 39 ∧ T ≠ 5 ∧ Blk wr hb (P ++ hcells first epoch (used + k) (.slice rva n rvc) SM ++ Q) T ∧ RecsR wr (Plus FJ w15 wr) (.slice rva n rvc) rvs (recs ++ l.take k2)) := Lib.hid ⟨hI, hF, t1, t2, hB, by rw [← hn]; exact hR⟩
                have HLT : Hid (hb < wr.drew.heap.size) := Lib.hid hlt3
                have HNE : Hid ((Value.slice rva n rvc).ownBlock ≠ some hb) := Lib.hid (fun e => by
                  obtain ⟨cur, hb'⟩ := ownsRow_blk HHH.out.2.2.2.2.2.1 e
                  exact t1 (hB.inj hb').2)
                have HRW : Hid (∀ W : World, Below wr.drew.heap.size wr.drew W → W.ownsRow 0 39 1 (.slice rva n rvc) n rvs) := Lib.hid (fun W hW => by
                  have h := HHH.out.2.2.2.2.2.1
                  rw [hn] at h
                  exact Same.row (G := fun x => x < wr.heap.size) (fun x hx => hW.block x hx) h (fun g hg => hI g (HHH.out.2.2.2.2.2.2.2 g hg)))
                obtain ⟨i0, hi0, hz0, hz1, hz2⟩ := info_parts Tryd.infoRow
                clear hpc0 hpv hpv2 htk hr hI hF t1 t2 hB hR hn sx hst16 hrb hpF
                go_wp2_with fail
                refine wp_region_any (by kernel_rfl) ?_
                change wpAny _ _ _ _ _ _ _ (World.drew _)
                refine wpAny_take (i := 0) (oi := ⟨some 153, _, _, _, _, _⟩) (v := .pointer (some ⟨hb, o, none⟩)) rfl (by kernel_rfl) (by kernel_rfl) (by kernel_rfl) (fun _ _ _ h => h) (Or.inl ⟨by rfl, fun w => by go_simp⟩) ?_
                try simp only [Act.put, List.setIfInBounds_toArray, List.set_cons_zero, List.set_cons_succ]
                refine wpAny_take (i := 1) (oi := ⟨some 154, _, _, _, _, _⟩) (v := .pointer (some ⟨hb, o, none⟩)) rfl (by kernel_rfl) (by kernel_rfl) (by kernel_rfl) (fun _ _ _ h => h) (Or.inl ⟨by rfl, fun w => by go_simp⟩) ?_
                try simp only [Act.put, List.setIfInBounds_toArray, List.set_cons_zero, List.set_cons_succ]
                refine wpAny_take (i := 2) (oi := ⟨some 155, _, _, _, _, _⟩) (v := .pointer (some ⟨hb, o, none⟩)) rfl (by kernel_rfl) (by kernel_rfl) (by kernel_rfl) (fun _ _ _ h => h) (Or.inl ⟨by rfl, fun w => by go_simp⟩) ?_
                try simp only [Act.put, List.setIfInBounds_toArray, List.set_cons_zero, List.set_cons_succ]
                refine wpAny_take (i := 3) (oi := ⟨some 156, _, _, _, _, _⟩) (v := .pointer (some ⟨hb, o + 3, none⟩)) rfl (by kernel_rfl) (by kernel_rfl) (by kernel_rfl) (fun _ _ _ h => h) (Or.inl ⟨by rfl, fun w => by go_simp⟩) ?_
                try simp only [Act.put, List.setIfInBounds_toArray, List.set_cons_zero, List.set_cons_succ]
                refine wpAny_take (i := 5) (oi := ⟨some 158, _, _, _, _, _⟩) (v := .slice ra r.length rc) rfl (by kernel_rfl) (by kernel_rfl) (by kernel_rfl) (fun _ _ _ h => h) (Or.inl ⟨by rfl, fun w => by go_simp⟩) ?_
                try simp only [Act.put, List.setIfInBounds_toArray, List.set_cons_zero, List.set_cons_succ]
                refine wpAny_ready (rs := [4, 6]) (by kernel_rfl) (by simp) ?_
                refine AllReady.cons (o := ⟨some 157, _, _, _, _, _⟩) rfl (fun K hK => ?_) (AllReady.cons (o := ⟨some 159, _, _, _, _, _⟩) rfl (fun K hK => ?_) AllReady.nil)
                · go_simp
                  refine hK _ _ ?_
                  clear hK K
                  try simp only [Act.put, List.setIfInBounds_toArray, List.set_cons_zero, List.set_cons_succ]
                  refine wpAny_ready (rs := [6]) (by kernel_rfl) (by simp) ?_
                  refine AllReady.cons (o := ⟨some 159, _, _, _, _, _⟩) rfl (fun K hK => ?_) AllReady.nil
                  go_simp
                  refine (clone_any HPVx.out (by have := HRB.out; omega)).mono ?_
                  rintro e w17 ⟨cv, rfl, hN17⟩
                  obtain ⟨ca, cc, rfl, -⟩ := hN17.2.1.form
                  have N17 := Lib.hid hN17
                  have h17 : w17.cell? ⟨hb, o + 3, none⟩ = some (.slice rva n rvc) := (hN17.1.cell (p := ⟨hb, o + 3, none⟩) HLT.out).trans c3
                  have lt17 := Nat.lt_of_lt_of_le HLT.out hN17.1.size
                  clear hN17
                  refine hK _ _ ?_
                  clear hK K
                  try simp only [Act.put, List.setIfInBounds_toArray, List.set_cons_zero, List.set_cons_succ]
                  refine wpAny_ready (rs := [7]) (by kernel_rfl) (by simp) ?_
                  refine AllReady.cons (o := ⟨some 160, _, _, _, _, _⟩) rfl (fun K hK => ?_) AllReady.nil
                  go_simp
                  have N18 := Lib.hid (N17.out.alloc (.cells #[.slice ca r.length cc] 39))
                  refine hK _ _ ?_
                  clear hK K
                  try simp only [Act.put, List.setIfInBounds_toArray, List.set_cons_zero, List.set_cons_succ]
                  refine wpAny_ready (rs := [8]) (by kernel_rfl) (by simp) ?_
                  refine AllReady.cons (o := ⟨some 161, _, _, _, _, _⟩) rfl (fun K hK => ?_) AllReady.nil
                  refine step_append_lies _ (by rfl) _ _ _ (by rfl) 0 39 i0 _ 1 24 Tryd.underlying32 hi0 hz0 hz1 hz2 rfl (by omega) (.slice rva n rvc) n rvs (by rfl) (HRW.out _ N18.out.1) ⟨w17.heap.size, 0, none⟩ 1 1 [.slice ca r.length cc] (by rfl) (by rfl) (World.news_of_block (cs := #[.slice ca r.length cc]) (t := 39) (fr := (0, 0)) (heap_alloc_new w17 _)) (by simp [Value.oneCell']) (by omega) (by unfold maxLen; omega) (by omega) (by omega) _ rfl ?_
                  intro gg cap w19 hown hgrow hat hlt19
                  have c19 : w19.cell? ⟨hb, o + 3, none⟩ = some (.slice rva n rvc) := (hgrow.cell_far ⟨hb, o + 3, none⟩ (Nat.lt_of_lt_of_le HLT.out N18.out.1.size) (Ne.symm HNE.out)).trans ((N18.out.1.cell (p := ⟨hb, o + 3, none⟩) HLT.out).trans c3)
                  have f19 : w19.frozen? ⟨hb, o + 3, none⟩ = false := (hgrow.frozen_far ⟨hb, o + 3, none⟩ (Nat.lt_of_lt_of_le HLT.out N18.out.1.size) (Ne.symm HNE.out)).trans ((N18.out.1.frozen (p := ⟨hb, o + 3, none⟩) HLT.out).trans f3)
                  have HP := Lib.hid (HalfAt.push (xs := [.slice ca r.length cc]) (m := [r]) HHH.out.1 HHH.out.2.1 HHH.out.2.2.1 HHH.out.2.2.2.1 HHH.out.2.2.2.2.1 HHH.out.2.2.2.2.2 HO.out ((Below.refl _ _).drew.trans N18.out.1) (All2.cons ⟨N18.out.2.1, fun g hg => .inr ⟨N18.out.2.2.2 g hg, N18.out.2.1.lt g hg⟩⟩ All2.nil) HN.out rfl hown hgrow hat hlt19)
                  clear hown hgrow hat hlt19
                  refine hK _ _ ?_
                  clear hK K
                  try simp only [Act.put, List.setIfInBounds_toArray, List.set_cons_zero, List.set_cons_succ]
                  refine wpAny_take (i := 9) (oi := ⟨some 162, _, _, _, _, _⟩) (v := .pointer (some ⟨hb, o, none⟩)) rfl (by kernel_rfl) (by kernel_rfl) (by kernel_rfl) (fun _ _ _ h => h) (Or.inl ⟨by rfl, fun w => by go_simp⟩) ?_
                  try simp only [Act.put, List.setIfInBounds_toArray, List.set_cons_zero, List.set_cons_succ]
                  refine wpAny_take (i := 10) (oi := ⟨some 163, _, _, _, _, _⟩) (v := .pointer (some ⟨hb, o + 3, none⟩)) rfl (by kernel_rfl) (by kernel_rfl) (by kernel_rfl) (fun _ _ _ h => h) (Or.inl ⟨by rfl, fun w => by go_simp⟩) ?_
                  try simp only [Act.put, List.setIfInBounds_toArray, List.set_cons_zero, List.set_cons_succ]
                  refine wpAny_ready (rs := [11]) (by kernel_rfl) (by simp) ?_
                  refine AllReady.cons (o := ⟨none, _, _, _, _, _⟩) rfl (fun K hK => ?_) AllReady.nil
                  go_simp
                  refine hK _ _ ?_
                  clear hK K
                  try simp only [Act.put, List.setIfInBounds_toArray, List.set_cons_zero, List.set_cons_succ]
                  refine wpAny_done (by kernel_rfl) ?_ _
                  clear c19 f19
                  go_wp2_with fail
                  go_roundw
                  case rel =>
                    refine ⟨k2 + 1, by omega, by go_num, HS16.out.trans HP.out.1, ?_⟩
                    rw [HTK.out]
                    exact HP.out.2.mono (Plus.plus HS16.out.size HP.out.1.size) (Plus.inn HH15.out.1 (HS16.out.trans HP.out.1).size)
                  case measure => simp [intOf]; omega
                · go_simp
                  refine (clone_any HPVx.out (by have := HRB.out; omega)).mono ?_
                  rintro e w17 ⟨cv, rfl, hN17⟩
                  obtain ⟨ca, cc, rfl, -⟩ := hN17.2.1.form
                  have N17 := Lib.hid hN17
                  have h17 : w17.cell? ⟨hb, o + 3, none⟩ = some (.slice rva n rvc) := (hN17.1.cell (p := ⟨hb, o + 3, none⟩) HLT.out).trans c3
                  have lt17 := Nat.lt_of_lt_of_le HLT.out hN17.1.size
                  clear hN17
                  refine hK _ _ ?_
                  clear hK K
                  try simp only [Act.put, List.setIfInBounds_toArray, List.set_cons_zero, List.set_cons_succ]
                  refine wpAny_ready (rs := [4, 7]) (by kernel_rfl) (by simp) ?_
                  refine AllReady.cons (o := ⟨some 157, _, _, _, _, _⟩) rfl (fun K hK => ?_) (AllReady.cons (o := ⟨some 160, _, _, _, _, _⟩) rfl (fun K hK => ?_) AllReady.nil)
                  · go_simp
                    refine hK _ _ ?_
                    clear hK K
                    try simp only [Act.put, List.setIfInBounds_toArray, List.set_cons_zero, List.set_cons_succ]
                    refine wpAny_ready (rs := [7]) (by kernel_rfl) (by simp) ?_
                    refine AllReady.cons (o := ⟨some 160, _, _, _, _, _⟩) rfl (fun K hK => ?_) AllReady.nil
                    go_simp
                    have N18 := Lib.hid (N17.out.alloc (.cells #[.slice ca r.length cc] 39))
                    refine hK _ _ ?_
                    clear hK K
                    try simp only [Act.put, List.setIfInBounds_toArray, List.set_cons_zero, List.set_cons_succ]
                    refine wpAny_ready (rs := [8]) (by kernel_rfl) (by simp) ?_
                    refine AllReady.cons (o := ⟨some 161, _, _, _, _, _⟩) rfl (fun K hK => ?_) AllReady.nil
                    refine step_append_lies _ (by rfl) _ _ _ (by rfl) 0 39 i0 _ 1 24 Tryd.underlying32 hi0 hz0 hz1 hz2 rfl (by omega) (.slice rva n rvc) n rvs (by rfl) (HRW.out _ N18.out.1) ⟨w17.heap.size, 0, none⟩ 1 1 [.slice ca r.length cc] (by rfl) (by rfl) (World.news_of_block (cs := #[.slice ca r.length cc]) (t := 39) (fr := (0, 0)) (heap_alloc_new w17 _)) (by simp [Value.oneCell']) (by omega) (by unfold maxLen; omega) (by omega) (by omega) _ rfl ?_
                    intro gg cap w19 hown hgrow hat hlt19
                    have c19 : w19.cell? ⟨hb, o + 3, none⟩ = some (.slice rva n rvc) := (hgrow.cell_far ⟨hb, o + 3, none⟩ (Nat.lt_of_lt_of_le HLT.out N18.out.1.size) (Ne.symm HNE.out)).trans ((N18.out.1.cell (p := ⟨hb, o + 3, none⟩) HLT.out).trans c3)
                    have f19 : w19.frozen? ⟨hb, o + 3, none⟩ = false := (hgrow.frozen_far ⟨hb, o + 3, none⟩ (Nat.lt_of_lt_of_le HLT.out N18.out.1.size) (Ne.symm HNE.out)).trans ((N18.out.1.frozen (p := ⟨hb, o + 3, none⟩) HLT.out).trans f3)
                    have HP := Lib.hid (HalfAt.push (xs := [.slice ca r.length cc]) (m := [r]) HHH.out.1 HHH.out.2.1 HHH.out.2.2.1 HHH.out.2.2.2.1 HHH.out.2.2.2.2.1 HHH.out.2.2.2.2.2 HO.out ((Below.refl _ _).drew.trans N18.out.1) (All2.cons ⟨N18.out.2.1, fun g hg => .inr ⟨N18.out.2.2.2 g hg, N18.out.2.1.lt g hg⟩⟩ All2.nil) HN.out rfl hown hgrow hat hlt19)
                    clear hown hgrow hat hlt19
                    refine hK _ _ ?_
                    clear hK K
                    try simp only [Act.put, List.setIfInBounds_toArray, List.set_cons_zero, List.set_cons_succ]
                    refine wpAny_take (i := 9) (oi := ⟨some 162, _, _, _, _, _⟩) (v := .pointer (some ⟨hb, o, none⟩)) rfl (by kernel_rfl) (by kernel_rfl) (by kernel_rfl) (fun _ _ _ h => h) (Or.inl ⟨by rfl, fun w => by go_simp⟩) ?_
                    try simp only [Act.put, List.setIfInBounds_toArray, List.set_cons_zero, List.set_cons_succ]
                    refine wpAny_take (i := 10) (oi := ⟨some 163, _, _, _, _, _⟩) (v := .pointer (some ⟨hb, o + 3, none⟩)) rfl (by kernel_rfl) (by kernel_rfl) (by kernel_rfl) (fun _ _ _ h => h) (Or.inl ⟨by rfl, fun w => by go_simp⟩) ?_
                    try simp only [Act.put, List.setIfInBounds_toArray, List.set_cons_zero, List.set_cons_succ]
                    refine wpAny_ready (rs := [11]) (by kernel_rfl) (by simp) ?_
                    refine AllReady.cons (o := ⟨none, _, _, _, _, _⟩) rfl (fun K hK => ?_) AllReady.nil
                    go_simp
                    refine hK _ _ ?_
                    clear hK K
                    try simp only [Act.put, List.setIfInBounds_toArray, List.set_cons_zero, List.set_cons_succ]
                    refine wpAny_done (by kernel_rfl) ?_ _
                    clear c19 f19
                    go_wp2_with fail
                    go_roundw
                    case rel =>
                      refine ⟨k2 + 1, by omega, by go_num, HS16.out.trans HP.out.1, ?_⟩
                      rw [HTK.out]
                      exact HP.out.2.mono (Plus.plus HS16.out.size HP.out.1.size) (Plus.inn HH15.out.1 (HS16.out.trans HP.out.1).size)
                    case measure => simp [intOf]; omega
                  · go_simp
                    have N18 := Lib.hid (N17.out.alloc (.cells #[.slice ca r.length cc] 39))
                    refine hK _ _ ?_
                    clear hK K
                    try simp only [Act.put, List.setIfInBounds_toArray, List.set_cons_zero, List.set_cons_succ]
                    refine wpAny_ready (rs := [4]) (by kernel_rfl) (by simp) ?_
                    refine AllReady.cons (o := ⟨some 157, _, _, _, _, _⟩) rfl (fun K hK => ?_) AllReady.nil
                    go_simp
                    refine hK _ _ ?_
                    clear hK K
                    try simp only [Act.put, List.setIfInBounds_toArray, List.set_cons_zero, List.set_cons_succ]
                    refine wpAny_ready (rs := [8]) (by kernel_rfl) (by simp) ?_
                    refine AllReady.cons (o := ⟨some 161, _, _, _, _, _⟩) rfl (fun K hK => ?_) AllReady.nil
                    refine step_append_lies _ (by rfl) _ _ _ (by rfl) 0 39 i0 _ 1 24 Tryd.underlying32 hi0 hz0 hz1 hz2 rfl (by omega) (.slice rva n rvc) n rvs (by rfl) (HRW.out _ N18.out.1) ⟨w17.heap.size, 0, none⟩ 1 1 [.slice ca r.length cc] (by rfl) (by rfl) (World.news_of_block (cs := #[.slice ca r.length cc]) (t := 39) (fr := (0, 0)) (heap_alloc_new w17 _)) (by simp [Value.oneCell']) (by omega) (by unfold maxLen; omega) (by omega) (by omega) _ rfl ?_
                    intro gg cap w19 hown hgrow hat hlt19
                    have c19 : w19.cell? ⟨hb, o + 3, none⟩ = some (.slice rva n rvc) := (hgrow.cell_far ⟨hb, o + 3, none⟩ (Nat.lt_of_lt_of_le HLT.out N18.out.1.size) (Ne.symm HNE.out)).trans ((N18.out.1.cell (p := ⟨hb, o + 3, none⟩) HLT.out).trans c3)
                    have f19 : w19.frozen? ⟨hb, o + 3, none⟩ = false := (hgrow.frozen_far ⟨hb, o + 3, none⟩ (Nat.lt_of_lt_of_le HLT.out N18.out.1.size) (Ne.symm HNE.out)).trans ((N18.out.1.frozen (p := ⟨hb, o + 3, none⟩) HLT.out).trans f3)
                    have HP := Lib.hid (HalfAt.push (xs := [.slice ca r.length cc]) (m := [r]) HHH.out.1 HHH.out.2.1 HHH.out.2.2.1 HHH.out.2.2.2.1 HHH.out.2.2.2.2.1 HHH.out.2.2.2.2.2 HO.out ((Below.refl _ _).drew.trans N18.out.1) (All2.cons ⟨N18.out.2.1, fun g hg => .inr ⟨N18.out.2.2.2 g hg, N18.out.2.1.lt g hg⟩⟩ All2.nil) HN.out rfl hown hgrow hat hlt19)
                    clear hown hgrow hat hlt19
                    refine hK _ _ ?_
                    clear hK K
                    try simp only [Act.put, List.setIfInBounds_toArray, List.set_cons_zero, List.set_cons_succ]
                    refine wpAny_take (i := 9) (oi := ⟨some 162, _, _, _, _, _⟩) (v := .pointer (some ⟨hb, o, none⟩)) rfl (by kernel_rfl) (by kernel_rfl) (by kernel_rfl) (fun _ _ _ h => h) (Or.inl ⟨by rfl, fun w => by go_simp⟩) ?_
                    try simp only [Act.put, List.setIfInBounds_toArray, List.set_cons_zero, List.set_cons_succ]
                    refine wpAny_take (i := 10) (oi := ⟨some 163, _, _, _, _, _⟩) (v := .pointer (some ⟨hb, o + 3, none⟩)) rfl (by kernel_rfl) (by kernel_rfl) (by kernel_rfl) (fun _ _ _ h => h) (Or.inl ⟨by rfl, fun w => by go_simp⟩) ?_
                    try simp only [Act.put, List.setIfInBounds_toArray, List.set_cons_zero, List.set_cons_succ]
                    refine wpAny_ready (rs := [11]) (by kernel_rfl) (by simp) ?_
                    refine AllReady.cons (o := ⟨none, _, _, _, _, _⟩) rfl (fun K hK => ?_) AllReady.nil
                    go_simp
                    refine hK _ _ ?_
                    clear hK K
                    try simp only [Act.put, List.setIfInBounds_toArray, List.set_cons_zero, List.set_cons_succ]
                    refine wpAny_done (by kernel_rfl) ?_ _
                    clear c19 f19
                    go_wp2_with fail
                    go_roundw
                    case rel =>
                      refine ⟨k2 + 1, by omega, by go_num, HS16.out.trans HP.out.1, ?_⟩
                      rw [HTK.out]
                      exact HP.out.2.mono (Plus.plus HS16.out.size HP.out.1.size) (Plus.inn HH15.out.1 (HS16.out.trans HP.out.1).size)
                    case measure => simp [intOf]; omega
              · obtain rfl : k2 = l.length := by omega
                have ik2 : ¬ (l.length : Int) < (l.length : Int) := by omega
                rw [List.take_length] at hh
                have HHF := Lib.hid hh
                clear hh hst16
                go_wp2_with fail
                go_ret
                have e1 := B11.out.size
                have e2 := S15.out.size
                have e3 := HS16.out.size
                refine ⟨rfl, ((Stp.of_below _ B11.out).trans' (S15.out.weaken (fun _ h => .inr h))).trans' (HS16.out.weaken (fun _ h => .inl h)), Plus FJ w15 wr, Plus FD w11 w15, _, fun q hq => ?_, fun q hq => ?_, fun q hq hj => ?_, D15.out.same (HS16.out.same D15.out.inn (fun q hq hj => ?_)) HS16.out.size, ⟨?_, ?_, (D13.out.2.1.push _ _).flush, fun j hj => ?_⟩, rfl, ?_⟩
                · rcases hq with h | h
                  · exact .inl h
                  · exact .inr ⟨by omega, h.2⟩
                · rcases hq with h | h
                  · exact .inl h
                  · exact .inr ⟨by omega, by omega⟩
                · rcases hq with h | h <;> rcases hj with h' | h'
                  · exact HDJ.out q h h'
                  · have := HIF.out q h; omega
                  · have := HH.out.1 q h'; omega
                  · omega
                · rcases hq with h | h
                  · exact HDJ.out q h hj
                  · have := HH.out.1 q hj; omega
                · exact D13.out.2.2.1
                · rw [← D13.out.2.2.2.1]; exact DSt.foldl_set_len _ _
                · have hok : (s13.push st (Jn.chunk s.size DT 0)).Ok := DSt.push_ok D13.out.1.ok (by rw [D13.out.2.2.2.1]; have := HR2.out; omega) (by rw [HCH.out 0 (by omega), D13.out.2.2.1])
                  rw [DSt.flush_look hok]
                  unfold Jn.put
                  rw [HDT.out, HDL.out, HND.out, HST.out]
                  by_cases hjs : st = j
                  · subst hjs
                    rw [DSt.push_look_same, if_pos (by omega), Nat.sub_self]
                  · rw [DSt.push_look_other _ hjs, D13.out.2.2.2.2.2 j]
                    by_cases h2 : st + 1 ≤ j ∧ j < st + k
                    · rw [if_pos h2, if_pos (by omega)]
                    · rw [if_neg h2, if_neg (by omega)]
                · rw [HDD.out, HND.out, HSM.out]
                  exact HHF.out
          · have ig : ¬ (1 : Int) < (k : Int) := by omega
            go_wp2_with fail
            have S13 := HH0
            have D13 : Hid (DiskAt wr s' bd (Plus FD w11 wr) ∧ s'.Calm ∧ s'.size = s.size ∧ s'.dur.length = s.dur.length ∧ s'.pend.length ≤ 70000 ∧ ∀ j, s'.look j = if st + 1 ≤ j ∧ j < st + k then Jn.chunk s.size DT (j - st) else s.look j) := Lib.hid ⟨HHD.out, HHC.out, HHS.out.1, HHS.out.2.1, by have := HHS.out.2.2; omega, HHL.out⟩
            generalize s' = s13 at *
            have c0 := KC.out _ S13.out
            have HDR : Hid (DiskAt wr.drew s13 bd (Plus FD w11 wr)) := Lib.hid (D13.out.1.below (Below.refl _ _).drew)
            have hvb : BV wr.drew (fun k => w6.heap.size ≤ k ∧ k < w10.heap.size) (.slice (some ⟨pg, 0, none⟩) s.size pc) (Jn.chunk s.size DT 0) := by
              have h := (KV.out _ S13.out).take (k := s.size) (by
                have h := Nat.mul_le_mul_right s.size hnd1
                rw [Nat.one_mul, HNS.out] at h
                exact h)
              unfold Jn.chunk
              rw [Nat.zero_mul, List.drop_zero, HPD.out]
              exact h
            have V := write_any HDR.out (st : Int) _ _ hvb (by have := D13.out.2.2.2.2.1; omega)
            rw [D13.out.2.1.write (by rw [D13.out.2.2.2.1]; have := HR2.out; omega) (by rw [HCH.out 0 (by omega), D13.out.2.2.1])] at V
            have HV := Lib.hid V
            have HS : Hid (wr.drew.cell? ⟨b, 0, none⟩ = some (.pointer (some ⟨bd, 0, none⟩))) := Lib.hid c0
            have hszn : s.size ≤ nds := by
              have h := Nat.mul_le_mul_right s.size hnd1
              rw [Nat.one_mul, HNS.out] at h
              exact h
            have hpcs : ¬ pc < s.size := by omega
            clear V hvb c0
            refine wp_region_held_drew (S := (fun w' => w'.cell? ⟨b, 0, none⟩ = some (.pointer (some ⟨bd, 0, none⟩)))) (by kernel_rfl) HS.out (fun hS => ?_)
            refine wpAnyH_take (i := 0) (oi := ⟨some 115, _, _, _, _, _⟩) (v := .pointer (some ⟨b, 0, none⟩)) rfl (by kernel_rfl) (by kernel_rfl) (by kernel_rfl) (fun _ _ _ h => h) (Or.inl ⟨by rfl, fun w (s1 : w.cell? ⟨b, 0, none⟩ = some (.pointer (some ⟨bd, 0, none⟩))) => by go_simp⟩) hS ?_
            try simp only [Act.put, List.setIfInBounds_toArray, List.set_cons_zero, List.set_cons_succ]
            refine wpAnyH_take (i := 1) (oi := ⟨some 116, _, _, _, _, _⟩) (v := .pointer (some ⟨b, 0, none⟩)) rfl (by kernel_rfl) (by kernel_rfl) (by kernel_rfl) (fun _ _ _ h => h) (Or.inl ⟨by rfl, fun w (s1 : w.cell? ⟨b, 0, none⟩ = some (.pointer (some ⟨bd, 0, none⟩))) => by go_simp⟩) hS ?_
            try simp only [Act.put, List.setIfInBounds_toArray, List.set_cons_zero, List.set_cons_succ]
            refine wpAnyH_take (i := 2) (oi := ⟨some 117, _, _, _, _, _⟩) (v := .pointer (some ⟨b, 0, none⟩)) rfl (by kernel_rfl) (by kernel_rfl) (by kernel_rfl) (fun _ _ _ h => h) (Or.inl ⟨by rfl, fun w (s1 : w.cell? ⟨b, 0, none⟩ = some (.pointer (some ⟨bd, 0, none⟩))) => by go_simp⟩) hS ?_
            try simp only [Act.put, List.setIfInBounds_toArray, List.set_cons_zero, List.set_cons_succ]
            refine wpAnyH_take (i := 3) (oi := ⟨some 118, _, _, _, _, _⟩) (v := .pointer (some ⟨bd, 0, none⟩)) rfl (by kernel_rfl) (by kernel_rfl) (by kernel_rfl) (fun _ _ _ h => h) (Or.inl ⟨by rfl, fun w (s1 : w.cell? ⟨b, 0, none⟩ = some (.pointer (some ⟨bd, 0, none⟩))) => by go_simp⟩) hS ?_
            try simp only [Act.put, List.setIfInBounds_toArray, List.set_cons_zero, List.set_cons_succ]
            refine wpAnyH_take (i := 4) (oi := ⟨some 119, _, _, _, _, _⟩) (v := .int .i64 (st : Int)) rfl (by kernel_rfl) (by kernel_rfl) (by kernel_rfl) (fun _ _ _ h => h) (Or.inl ⟨by rfl, fun w (s1 : w.cell? ⟨b, 0, none⟩ = some (.pointer (some ⟨bd, 0, none⟩))) => by go_simp⟩) hS ?_
            try simp only [Act.put, List.setIfInBounds_toArray, List.set_cons_zero, List.set_cons_succ]
            refine wpAnyH_take (i := 5) (oi := ⟨some 120, _, _, _, _, _⟩) (v := .slice (some ⟨pg, 0, none⟩) nds pc) rfl (by kernel_rfl) (by kernel_rfl) (by kernel_rfl) (fun _ _ _ h => h) (Or.inl ⟨by rfl, fun w (s1 : w.cell? ⟨b, 0, none⟩ = some (.pointer (some ⟨bd, 0, none⟩))) => by go_simp⟩) hS ?_
            try simp only [Act.put, List.setIfInBounds_toArray, List.set_cons_zero, List.set_cons_succ]
            refine wpAnyH_take (i := 6) (oi := ⟨some 121, _, _, _, _, _⟩) (v := .int .i64 (s.size : Int)) rfl (by kernel_rfl) (by kernel_rfl) (by kernel_rfl) (fun _ _ _ h => h) (Or.inl ⟨by rfl, fun w (s1 : w.cell? ⟨b, 0, none⟩ = some (.pointer (some ⟨bd, 0, none⟩))) => by go_simp⟩) hS ?_
            try simp only [Act.put, List.setIfInBounds_toArray, List.set_cons_zero, List.set_cons_succ]
            refine wpAnyH_take (i := 7) (oi := ⟨some 122, _, _, _, _, _⟩) (v := .slice (some ⟨pg, 0, none⟩) s.size pc) rfl (by kernel_rfl) (by kernel_rfl) (by kernel_rfl) (fun _ _ _ h => h) (Or.inl ⟨by rfl, fun w (s1 : w.cell? ⟨b, 0, none⟩ = some (.pointer (some ⟨bd, 0, none⟩))) => by go_simp⟩) hS ?_
            try simp only [Act.put, List.setIfInBounds_toArray, List.set_cons_zero, List.set_cons_succ]
            refine wpAnyH_ready (rs := [8]) (by kernel_rfl) (by simp) ?_
            refine AllReadyH.cons (o := ⟨some 123, _, _, _, _, _⟩) rfl (fun K hK => ?_) AllReadyH.nil
            go_simp
            refine (HV.out).mono ?_
            rintro e w14 ⟨rfl, h14, hd14⟩
            have hS2 : w14.cell? ⟨b, 0, none⟩ = some (.pointer (some ⟨bd, 0, none⟩)) := KC.out _ (S13.out.drew.trans h14)
            refine hK.out _ _ hS2 (fun _ => ?_)
            clear hK K
            try simp only [Act.put, List.setIfInBounds_toArray, List.set_cons_zero, List.set_cons_succ]
            refine wpAnyH_take (i := 9) (oi := ⟨some 124, _, _, _, _, _⟩) (v := .bool false) rfl (by kernel_rfl) (by kernel_rfl) (by kernel_rfl) (fun _ _ _ h => h) (Or.inl ⟨by rfl, fun w (s1 : w.cell? ⟨b, 0, none⟩ = some (.pointer (some ⟨bd, 0, none⟩))) => by go_simp⟩) hS2 ?_
            try simp only [Act.put, List.setIfInBounds_toArray, List.set_cons_zero, List.set_cons_succ]
            refine wpAnyH_take (i := 10) (oi := ⟨some 125, _, _, _, _, _⟩) (v := .bool false) rfl (by kernel_rfl) (by kernel_rfl) (by kernel_rfl) (fun _ _ _ h => h) (Or.inl ⟨by rfl, fun w (s1 : w.cell? ⟨b, 0, none⟩ = some (.pointer (some ⟨bd, 0, none⟩))) => by go_simp⟩) hS2 ?_
            try simp only [Act.put, List.setIfInBounds_toArray, List.set_cons_zero, List.set_cons_succ]
            refine wpAnyH_take (i := 11) (oi := ⟨some 126, _, _, _, _, _⟩) (v := .pointer (some ⟨b, 0, none⟩)) rfl (by kernel_rfl) (by kernel_rfl) (by kernel_rfl) (fun _ _ _ h => h) (Or.inl ⟨by rfl, fun w (s1 : w.cell? ⟨b, 0, none⟩ = some (.pointer (some ⟨bd, 0, none⟩))) => by go_simp⟩) hS2 ?_
            try simp only [Act.put, List.setIfInBounds_toArray, List.set_cons_zero, List.set_cons_succ]
            refine wpAnyH_take (i := 12) (oi := ⟨some 127, _, _, _, _, _⟩) (v := .pointer (some ⟨b, 0, none⟩)) rfl (by kernel_rfl) (by kernel_rfl) (by kernel_rfl) (fun _ _ _ h => h) (Or.inl ⟨by rfl, fun w (s1 : w.cell? ⟨b, 0, none⟩ = some (.pointer (some ⟨bd, 0, none⟩))) => by go_simp⟩) hS2 ?_
            try simp only [Act.put, List.setIfInBounds_toArray, List.set_cons_zero, List.set_cons_succ]
            refine wpAnyH_take (i := 13) (oi := ⟨some 128, _, _, _, _, _⟩) (v := .pointer (some ⟨b, 0, none⟩)) rfl (by kernel_rfl) (by kernel_rfl) (by kernel_rfl) (fun _ _ _ h => h) (Or.inl ⟨by rfl, fun w (s1 : w.cell? ⟨b, 0, none⟩ = some (.pointer (some ⟨bd, 0, none⟩))) => by go_simp⟩) hS2 ?_
            try simp only [Act.put, List.setIfInBounds_toArray, List.set_cons_zero, List.set_cons_succ]
            refine wpAnyH_take (i := 14) (oi := ⟨some 129, _, _, _, _, _⟩) (v := .pointer (some ⟨bd, 0, none⟩)) rfl (by kernel_rfl) (by kernel_rfl) (by kernel_rfl) (fun _ _ _ h => h) (Or.inl ⟨by rfl, fun w (s1 : w.cell? ⟨b, 0, none⟩ = some (.pointer (some ⟨bd, 0, none⟩))) => by go_simp⟩) hS2 ?_
            try simp only [Act.put, List.setIfInBounds_toArray, List.set_cons_zero, List.set_cons_succ]
            refine wpAnyH_ready (rs := [15]) (by kernel_rfl) (by simp) ?_
            refine AllReadyH.cons (o := ⟨some 130, _, _, _, _, _⟩) rfl (fun K hK => ?_) AllReadyH.nil
            go_simp
            have VS := sync_any hd14 (by have := D13.out.2.2.2.2.1; simp only [DSt.push, List.length_append, List.length_cons, List.length_nil]; omega)
            rw [(D13.out.2.1.push st _).sync] at VS
            refine VS.mono ?_
            rintro e w15 ⟨rfl, h15, hd15⟩
            clear VS
            have hS3 : w15.cell? ⟨b, 0, none⟩ = some (.pointer (some ⟨bd, 0, none⟩)) := KC.out _ (S13.out.drew.trans (h14.trans h15))
            refine hK.out _ _ hS3 (fun _ => ?_)
            clear hK K
            try simp only [Act.put, List.setIfInBounds_toArray, List.set_cons_zero, List.set_cons_succ]
            refine wpAnyH_take (i := 16) (oi := ⟨some 131, _, _, _, _, _⟩) (v := .bool false) rfl (by kernel_rfl) (by kernel_rfl) (by kernel_rfl) (fun _ _ _ h => h) (Or.inl ⟨by rfl, fun w (s1 : w.cell? ⟨b, 0, none⟩ = some (.pointer (some ⟨bd, 0, none⟩))) => by go_simp⟩) hS3 ?_
            try simp only [Act.put, List.setIfInBounds_toArray, List.set_cons_zero, List.set_cons_succ]
            refine wpAnyH_take (i := 17) (oi := ⟨some 132, _, _, _, _, _⟩) (v := .bool false) rfl (by kernel_rfl) (by kernel_rfl) (by kernel_rfl) (fun _ _ _ h => h) (Or.inl ⟨by rfl, fun w (s1 : w.cell? ⟨b, 0, none⟩ = some (.pointer (some ⟨bd, 0, none⟩))) => by go_simp⟩) hS3 ?_
            try simp only [Act.put, List.setIfInBounds_toArray, List.set_cons_zero, List.set_cons_succ]
            refine wpAnyH_done (by kernel_rfl) ?_ _
            have S15 := Lib.hid ((S13.out.drew.trans (h14.trans h15)))
            have D15 : Hid (DiskAt w15 (s13.push st (Jn.chunk s.size DT 0)).flush bd (Plus FD w11 w15)) := Lib.hid (hd15.mono (fun x hx => by
              have e1 := S13.out.size; have e2 := h14.size; have e3 := h15.size
              simp only [World.size_drew] at e2
              rcases hx with (hx | hx) | hx
              · rcases hx with hx | hx
                · exact .inl hx
                · exact .inr ⟨hx.1, by omega⟩
              · exact .inr ⟨by have := hx.1; simp only [World.size_drew] at this; omega, by have := hx.2; omega⟩
              · exact .inr ⟨by have := hx.1; omega, hx.2⟩) (Plus.inn (fun k hk => Nat.lt_of_lt_of_le (HIF.out k hk) B11.out.size) S15.out.size))
            clear hd15 hd14 h14 h15 hS hS2 hS3 HDR HV HS
            have HH15 : Hid (HalfAt w15 FJ hb P Q T first epoch used recs last) := Lib.hid ((HH.out.below B11.out).same (S15.out.same (fun k hk => Nat.lt_of_lt_of_le (HH.out.1 k hk) B11.out.size) HDJ.out.symm) S15.out.size)
            obtain ⟨rv15, hB15, -⟩ := HH15.out.2.2.2.2
            obtain ⟨g0, g1, g2, g3, g4⟩ := hB15.half HO.out
            have gf2 := hB15.free (o + 2)
            have gf4 := hB15.free (o + 4)
            have T1 := HH15.out.set (i := o + 2) (y := .int .i64 ((used : Int) + (k : Int))) (e' := epoch) (u' := used + k) (l' := last) (fun rv => hcells_used (used + k) HO.out)
            have T2 := T1.2.set (i := o + 4) (y := Str (Sha.sum (last ++ Jn.body epoch l))) (e' := epoch) (u' := used + k) (l' := Sha.sum (last ++ Jn.body epoch l)) (fun rv => hcells_last _ HO.out)
            have eSS : Str (Sha.sum (last ++ Jn.body epoch l)) = .string ss := by
              have h := HSL.out
              rw [← HBD2.out] at h
              rw [← h]
              rfl
            obtain ⟨SM, hSM⟩ : ∃ SM, Sha.sum (last ++ Jn.body epoch l) = SM := ⟨_, rfl⟩
            have HSM := Lib.hid hSM
            rw [hSM] at T2 eSS
            rw [eSS] at T2
            have HT := Lib.hid (And.intro (T1.1.trans' T2.1) T2.2)
            have KX : Hid (Same FX w w15) := Lib.hid ((Same.of_below B11.out HXI.out).trans (S15.out.same (fun k hk => Nat.lt_of_lt_of_le (HXI.out k hk) B11.out.size) HXD.out))
            have HBL15 := Lib.hid hB15.lt
            have HIX : Hid (Inn FX w15) := Lib.hid (fun k hk => Nat.lt_of_lt_of_le (HXI.out k hk) (Nat.le_trans B11.out.size S15.out.size))
            clear T1 T2 hB15 hSM
            go_wp2_with fail
            generalize (w15.setCell ⟨hb, o + 2, none⟩ (.int .i64 ((used : Int) + (k : Int)))).setCell ⟨hb, o + 4, none⟩ (.string ss) = w16 at *
            clear g0 g1 g2 g3 g4 gf2 gf4
            go_loopw [149] (fun i wr => ∃ k2 : Nat, k2 ≤ l.length ∧ i = .int .i64 (k2 : Int) ∧ Stp FJ w15 wr ∧ HalfAt wr (Plus FJ w15 wr) hb P Q T first epoch (used + k) (recs ++ l.take k2) SM) (fun i _ => l.length - (intOf i).toNat)
            case atStart => exact ⟨0, Nat.zero_le _, rfl, HT.out.1, by rw [List.take_zero, List.append_nil]; exact HT.out.2.mono (fun _ hk => .inl hk) (Plus.inn HH15.out.1 HT.out.1.size)⟩
            case round =>
              obtain ⟨k2, hk2, rfl, hst16, hh⟩ := hrel
              have HS16 := Lib.hid hst16
              by_cases hlt : k2 < l.length
              · have ik2 : (k2 : Int) < (l.length : Int) := by omega
                have sx : Same FX w wr := KX.out.trans (hst16.same HIX.out HXJ.out)
                obtain ⟨pb, po, x, rfl, hpF, hpc0, hpv⟩ := HXG.out k2 hlt
                have hpc := (sx.cell (p := ⟨pb, po + k2, none⟩) hpF).trans hpc0
                have hpv2 := hpv.same sx
                obtain ⟨ra, rc, rfl, _, _, -⟩ := hpv.get
                have htk : recs ++ l.take (k2 + 1) = (recs ++ l.take k2) ++ [l[k2]] := by rw [List.take_succ_eq_append_getElem hlt, List.append_assoc]
                have hrb : l[k2].length ≤ 1000000 := by
                  have h1 := HRL.out (k2 + 1)
                  rw [Jn.recs_snoc l k2 hlt, List.length_append, List.length_append] at h1
                  have h2 := HFL.out
                  omega
                obtain ⟨r, hr⟩ : ∃ r, l[k2] = r := ⟨_, rfl⟩
                rw [hr] at hpc hpv2 htk hrb
                have HTK := Lib.hid htk
                have HPVx : Hid (BV wr.drew FX (.slice ra r.length rc) r) := Lib.hid hpv2
                have HRB := Lib.hid hrb
                obtain ⟨hI, hF, t1, t2, rvv, hB, rvs, hR⟩ := hh
                obtain ⟨rva, rvc, rfl, -, -, -⟩ := RecsV.form ⟨rvs, hR⟩
                have hnl : (recs ++ l.take k2).length ≤ 1100000 := by rw [List.length_append, List.length_take]; omega
                obtain ⟨n, hn⟩ : ∃ n, (recs ++ l.take k2).length = n := ⟨_, rfl⟩
                have HN := Lib.hid hn
                rw [hn] at hB hnl
                obtain ⟨-, -, -, c3, -⟩ := hB.half HO.out
                have f3 := hB.free (o + 3)
                have hlt3 := hB.lt
                have HHH : Hid (Inn (Plus FJ w15 wr) wr ∧ (Plus FJ w15 wr) hb ∧ T ≠ 39 ∧ T ≠ 5 ∧ Blk wr hb (P ++ hcells first epoch (used + k) (.slice rva n rvc) SM ++ Q) T ∧ RecsR wr (Plus FJ w15 wr) (.slice rva n rvc) rvs (recs ++ l.take k2)) := Lib.hid ⟨hI, hF, t1, t2, hB, by rw [← hn]; exact hR⟩
                have HLT : Hid (hb < wr.drew.heap.size) := Lib.hid hlt3
                have HNE : Hid ((Value.slice rva n rvc).ownBlock ≠ some hb) := Lib.hid (fun e => by
                  obtain ⟨cur, hb'⟩ := ownsRow_blk HHH.out.2.2.2.2.2.1 e
                  exact t1 (hB.inj hb').2)
                have HRW : Hid (∀ W : World, Below wr.drew.heap.size wr.drew W → W.ownsRow 0 39 1 (.slice rva n rvc) n rvs) := Lib.hid (fun W hW => by
                  have h := HHH.out.2.2.2.2.2.1
                  rw [hn] at h
                  exact Same.row (G := fun x => x < wr.heap.size) (fun x hx => hW.block x hx) h (fun g hg => hI g (HHH.out.2.2.2.2.2.2.2 g hg)))
                obtain ⟨i0, hi0, hz0, hz1, hz2⟩ := info_parts Tryd.infoRow
                clear hpc0 hpv hpv2 htk hr hI hF t1 t2 hB hR hn sx hst16 hrb hpF
                go_wp2_with fail
                refine wp_region_any (by kernel_rfl) ?_
                change wpAny _ _ _ _ _ _ _ (World.drew _)
                refine wpAny_take (i := 0) (oi := ⟨some 153, _, _, _, _, _⟩) (v := .pointer (some ⟨hb, o, none⟩)) rfl (by kernel_rfl) (by kernel_rfl) (by kernel_rfl) (fun _ _ _ h => h) (Or.inl ⟨by rfl, fun w => by go_simp⟩) ?_
                try simp only [Act.put, List.setIfInBounds_toArray, List.set_cons_zero, List.set_cons_succ]
                refine wpAny_take (i := 1) (oi := ⟨some 154, _, _, _, _, _⟩) (v := .pointer (some ⟨hb, o, none⟩)) rfl (by kernel_rfl) (by kernel_rfl) (by kernel_rfl) (fun _ _ _ h => h) (Or.inl ⟨by rfl, fun w => by go_simp⟩) ?_
                try simp only [Act.put, List.setIfInBounds_toArray, List.set_cons_zero, List.set_cons_succ]
                refine wpAny_take (i := 2) (oi := ⟨some 155, _, _, _, _, _⟩) (v := .pointer (some ⟨hb, o, none⟩)) rfl (by kernel_rfl) (by kernel_rfl) (by kernel_rfl) (fun _ _ _ h => h) (Or.inl ⟨by rfl, fun w => by go_simp⟩) ?_
                try simp only [Act.put, List.setIfInBounds_toArray, List.set_cons_zero, List.set_cons_succ]
                refine wpAny_take (i := 3) (oi := ⟨some 156, _, _, _, _, _⟩) (v := .pointer (some ⟨hb, o + 3, none⟩)) rfl (by kernel_rfl) (by kernel_rfl) (by kernel_rfl) (fun _ _ _ h => h) (Or.inl ⟨by rfl, fun w => by go_simp⟩) ?_
                try simp only [Act.put, List.setIfInBounds_toArray, List.set_cons_zero, List.set_cons_succ]
                refine wpAny_take (i := 5) (oi := ⟨some 158, _, _, _, _, _⟩) (v := .slice ra r.length rc) rfl (by kernel_rfl) (by kernel_rfl) (by kernel_rfl) (fun _ _ _ h => h) (Or.inl ⟨by rfl, fun w => by go_simp⟩) ?_
                try simp only [Act.put, List.setIfInBounds_toArray, List.set_cons_zero, List.set_cons_succ]
                refine wpAny_ready (rs := [4, 6]) (by kernel_rfl) (by simp) ?_
                refine AllReady.cons (o := ⟨some 157, _, _, _, _, _⟩) rfl (fun K hK => ?_) (AllReady.cons (o := ⟨some 159, _, _, _, _, _⟩) rfl (fun K hK => ?_) AllReady.nil)
                · go_simp
                  refine hK _ _ ?_
                  clear hK K
                  try simp only [Act.put, List.setIfInBounds_toArray, List.set_cons_zero, List.set_cons_succ]
                  refine wpAny_ready (rs := [6]) (by kernel_rfl) (by simp) ?_
                  refine AllReady.cons (o := ⟨some 159, _, _, _, _, _⟩) rfl (fun K hK => ?_) AllReady.nil
                  go_simp
                  refine (clone_any HPVx.out (by have := HRB.out; omega)).mono ?_
                  rintro e w17 ⟨cv, rfl, hN17⟩
                  obtain ⟨ca, cc, rfl, -⟩ := hN17.2.1.form
                  have N17 := Lib.hid hN17
                  have h17 : w17.cell? ⟨hb, o + 3, none⟩ = some (.slice rva n rvc) := (hN17.1.cell (p := ⟨hb, o + 3, none⟩) HLT.out).trans c3
                  have lt17 := Nat.lt_of_lt_of_le HLT.out hN17.1.size
                  clear hN17
                  refine hK _ _ ?_
                  clear hK K
                  try simp only [Act.put, List.setIfInBounds_toArray, List.set_cons_zero, List.set_cons_succ]
                  refine wpAny_ready (rs := [7]) (by kernel_rfl) (by simp) ?_
                  refine AllReady.cons (o := ⟨some 160, _, _, _, _, _⟩) rfl (fun K hK => ?_) AllReady.nil
                  go_simp
                  have N18 := Lib.hid (N17.out.alloc (.cells #[.slice ca r.length cc] 39))
                  refine hK _ _ ?_
                  clear hK K
                  try simp only [Act.put, List.setIfInBounds_toArray, List.set_cons_zero, List.set_cons_succ]
                  refine wpAny_ready (rs := [8]) (by kernel_rfl) (by simp) ?_
                  refine AllReady.cons (o := ⟨some 161, _, _, _, _, _⟩) rfl (fun K hK => ?_) AllReady.nil
                  refine step_append_lies _ (by rfl) _ _ _ (by rfl) 0 39 i0 _ 1 24 Tryd.underlying32 hi0 hz0 hz1 hz2 rfl (by omega) (.slice rva n rvc) n rvs (by rfl) (HRW.out _ N18.out.1) ⟨w17.heap.size, 0, none⟩ 1 1 [.slice ca r.length cc] (by rfl) (by rfl) (World.news_of_block (cs := #[.slice ca r.length cc]) (t := 39) (fr := (0, 0)) (heap_alloc_new w17 _)) (by simp [Value.oneCell']) (by omega) (by unfold maxLen; omega) (by omega) (by omega) _ rfl ?_
                  intro gg cap w19 hown hgrow hat hlt19
                  have c19 : w19.cell? ⟨hb, o + 3, none⟩ = some (.slice rva n rvc) := (hgrow.cell_far ⟨hb, o + 3, none⟩ (Nat.lt_of_lt_of_le HLT.out N18.out.1.size) (Ne.symm HNE.out)).trans ((N18.out.1.cell (p := ⟨hb, o + 3, none⟩) HLT.out).trans c3)
                  have f19 : w19.frozen? ⟨hb, o + 3, none⟩ = false := (hgrow.frozen_far ⟨hb, o + 3, none⟩ (Nat.lt_of_lt_of_le HLT.out N18.out.1.size) (Ne.symm HNE.out)).trans ((N18.out.1.frozen (p := ⟨hb, o + 3, none⟩) HLT.out).trans f3)
                  have HP := Lib.hid (HalfAt.push (xs := [.slice ca r.length cc]) (m := [r]) HHH.out.1 HHH.out.2.1 HHH.out.2.2.1 HHH.out.2.2.2.1 HHH.out.2.2.2.2.1 HHH.out.2.2.2.2.2 HO.out ((Below.refl _ _).drew.trans N18.out.1) (All2.cons ⟨N18.out.2.1, fun g hg => .inr ⟨N18.out.2.2.2 g hg, N18.out.2.1.lt g hg⟩⟩ All2.nil) HN.out rfl hown hgrow hat hlt19)
                  clear hown hgrow hat hlt19
                  refine hK _ _ ?_
                  clear hK K
                  try simp only [Act.put, List.setIfInBounds_toArray, List.set_cons_zero, List.set_cons_succ]
                  refine wpAny_take (i := 9) (oi := ⟨some 162, _, _, _, _, _⟩) (v := .pointer (some ⟨hb, o, none⟩)) rfl (by kernel_rfl) (by kernel_rfl) (by kernel_rfl) (fun _ _ _ h => h) (Or.inl ⟨by rfl, fun w => by go_simp⟩) ?_
                  try simp only [Act.put, List.setIfInBounds_toArray, List.set_cons_zero, List.set_cons_succ]
                  refine wpAny_take (i := 10) (oi := ⟨some 163, _, _, _, _, _⟩) (v := .pointer (some ⟨hb, o + 3, none⟩)) rfl (by kernel_rfl) (by kernel_rfl) (by kernel_rfl) (fun _ _ _ h => h) (Or.inl ⟨by rfl, fun w => by go_simp⟩) ?_
                  try simp only [Act.put, List.setIfInBounds_toArray, List.set_cons_zero, List.set_cons_succ]
                  refine wpAny_ready (rs := [11]) (by kernel_rfl) (by simp) ?_
                  refine AllReady.cons (o := ⟨none, _, _, _, _, _⟩) rfl (fun K hK => ?_) AllReady.nil
                  go_simp
                  refine hK _ _ ?_
                  clear hK K
                  try simp only [Act.put, List.setIfInBounds_toArray, List.set_cons_zero, List.set_cons_succ]
                  refine wpAny_done (by kernel_rfl) ?_ _
                  clear c19 f19
                  go_wp2_with fail
                  go_roundw
                  case rel =>
                    refine ⟨k2 + 1, by omega, by go_num, HS16.out.trans HP.out.1, ?_⟩
                    rw [HTK.out]
                    exact HP.out.2.mono (Plus.plus HS16.out.size HP.out.1.size) (Plus.inn HH15.out.1 (HS16.out.trans HP.out.1).size)
                  case measure => simp [intOf]; omega
                · go_simp
                  refine (clone_any HPVx.out (by have := HRB.out; omega)).mono ?_
                  rintro e w17 ⟨cv, rfl, hN17⟩
                  obtain ⟨ca, cc, rfl, -⟩ := hN17.2.1.form
                  have N17 := Lib.hid hN17
                  have h17 : w17.cell? ⟨hb, o + 3, none⟩ = some (.slice rva n rvc) := (hN17.1.cell (p := ⟨hb, o + 3, none⟩) HLT.out).trans c3
                  have lt17 := Nat.lt_of_lt_of_le HLT.out hN17.1.size
                  clear hN17
                  refine hK _ _ ?_
                  clear hK K
                  try simp only [Act.put, List.setIfInBounds_toArray, List.set_cons_zero, List.set_cons_succ]
                  refine wpAny_ready (rs := [4, 7]) (by kernel_rfl) (by simp) ?_
                  refine AllReady.cons (o := ⟨some 157, _, _, _, _, _⟩) rfl (fun K hK => ?_) (AllReady.cons (o := ⟨some 160, _, _, _, _, _⟩) rfl (fun K hK => ?_) AllReady.nil)
                  · go_simp
                    refine hK _ _ ?_
                    clear hK K
                    try simp only [Act.put, List.setIfInBounds_toArray, List.set_cons_zero, List.set_cons_succ]
                    refine wpAny_ready (rs := [7]) (by kernel_rfl) (by simp) ?_
                    refine AllReady.cons (o := ⟨some 160, _, _, _, _, _⟩) rfl (fun K hK => ?_) AllReady.nil
                    go_simp
                    have N18 := Lib.hid (N17.out.alloc (.cells #[.slice ca r.length cc] 39))
                    refine hK _ _ ?_
                    clear hK K
                    try simp only [Act.put, List.setIfInBounds_toArray, List.set_cons_zero, List.set_cons_succ]
                    refine wpAny_ready (rs := [8]) (by kernel_rfl) (by simp) ?_
                    refine AllReady.cons (o := ⟨some 161, _, _, _, _, _⟩) rfl (fun K hK => ?_) AllReady.nil
                    refine step_append_lies _ (by rfl) _ _ _ (by rfl) 0 39 i0 _ 1 24 Tryd.underlying32 hi0 hz0 hz1 hz2 rfl (by omega) (.slice rva n rvc) n rvs (by rfl) (HRW.out _ N18.out.1) ⟨w17.heap.size, 0, none⟩ 1 1 [.slice ca r.length cc] (by rfl) (by rfl) (World.news_of_block (cs := #[.slice ca r.length cc]) (t := 39) (fr := (0, 0)) (heap_alloc_new w17 _)) (by simp [Value.oneCell']) (by omega) (by unfold maxLen; omega) (by omega) (by omega) _ rfl ?_
                    intro gg cap w19 hown hgrow hat hlt19
                    have c19 : w19.cell? ⟨hb, o + 3, none⟩ = some (.slice rva n rvc) := (hgrow.cell_far ⟨hb, o + 3, none⟩ (Nat.lt_of_lt_of_le HLT.out N18.out.1.size) (Ne.symm HNE.out)).trans ((N18.out.1.cell (p := ⟨hb, o + 3, none⟩) HLT.out).trans c3)
                    have f19 : w19.frozen? ⟨hb, o + 3, none⟩ = false := (hgrow.frozen_far ⟨hb, o + 3, none⟩ (Nat.lt_of_lt_of_le HLT.out N18.out.1.size) (Ne.symm HNE.out)).trans ((N18.out.1.frozen (p := ⟨hb, o + 3, none⟩) HLT.out).trans f3)
                    have HP := Lib.hid (HalfAt.push (xs := [.slice ca r.length cc]) (m := [r]) HHH.out.1 HHH.out.2.1 HHH.out.2.2.1 HHH.out.2.2.2.1 HHH.out.2.2.2.2.1 HHH.out.2.2.2.2.2 HO.out ((Below.refl _ _).drew.trans N18.out.1) (All2.cons ⟨N18.out.2.1, fun g hg => .inr ⟨N18.out.2.2.2 g hg, N18.out.2.1.lt g hg⟩⟩ All2.nil) HN.out rfl hown hgrow hat hlt19)
                    clear hown hgrow hat hlt19
                    refine hK _ _ ?_
                    clear hK K
                    try simp only [Act.put, List.setIfInBounds_toArray, List.set_cons_zero, List.set_cons_succ]
                    refine wpAny_take (i := 9) (oi := ⟨some 162, _, _, _, _, _⟩) (v := .pointer (some ⟨hb, o, none⟩)) rfl (by kernel_rfl) (by kernel_rfl) (by kernel_rfl) (fun _ _ _ h => h) (Or.inl ⟨by rfl, fun w => by go_simp⟩) ?_
                    try simp only [Act.put, List.setIfInBounds_toArray, List.set_cons_zero, List.set_cons_succ]
                    refine wpAny_take (i := 10) (oi := ⟨some 163, _, _, _, _, _⟩) (v := .pointer (some ⟨hb, o + 3, none⟩)) rfl (by kernel_rfl) (by kernel_rfl) (by kernel_rfl) (fun _ _ _ h => h) (Or.inl ⟨by rfl, fun w => by go_simp⟩) ?_
                    try simp only [Act.put, List.setIfInBounds_toArray, List.set_cons_zero, List.set_cons_succ]
                    refine wpAny_ready (rs := [11]) (by kernel_rfl) (by simp) ?_
                    refine AllReady.cons (o := ⟨none, _, _, _, _, _⟩) rfl (fun K hK => ?_) AllReady.nil
                    go_simp
                    refine hK _ _ ?_
                    clear hK K
                    try simp only [Act.put, List.setIfInBounds_toArray, List.set_cons_zero, List.set_cons_succ]
                    refine wpAny_done (by kernel_rfl) ?_ _
                    clear c19 f19
                    go_wp2_with fail
                    go_roundw
                    case rel =>
                      refine ⟨k2 + 1, by omega, by go_num, HS16.out.trans HP.out.1, ?_⟩
                      rw [HTK.out]
                      exact HP.out.2.mono (Plus.plus HS16.out.size HP.out.1.size) (Plus.inn HH15.out.1 (HS16.out.trans HP.out.1).size)
                    case measure => simp [intOf]; omega
                  · go_simp
                    have N18 := Lib.hid (N17.out.alloc (.cells #[.slice ca r.length cc] 39))
                    refine hK _ _ ?_
                    clear hK K
                    try simp only [Act.put, List.setIfInBounds_toArray, List.set_cons_zero, List.set_cons_succ]
                    refine wpAny_ready (rs := [4]) (by kernel_rfl) (by simp) ?_
                    refine AllReady.cons (o := ⟨some 157, _, _, _, _, _⟩) rfl (fun K hK => ?_) AllReady.nil
                    go_simp
                    refine hK _ _ ?_
                    clear hK K
                    try simp only [Act.put, List.setIfInBounds_toArray, List.set_cons_zero, List.set_cons_succ]
                    refine wpAny_ready (rs := [8]) (by kernel_rfl) (by simp) ?_
                    refine AllReady.cons (o := ⟨some 161, _, _, _, _, _⟩) rfl (fun K hK => ?_) AllReady.nil
                    refine step_append_lies _ (by rfl) _ _ _ (by rfl) 0 39 i0 _ 1 24 Tryd.underlying32 hi0 hz0 hz1 hz2 rfl (by omega) (.slice rva n rvc) n rvs (by rfl) (HRW.out _ N18.out.1) ⟨w17.heap.size, 0, none⟩ 1 1 [.slice ca r.length cc] (by rfl) (by rfl) (World.news_of_block (cs := #[.slice ca r.length cc]) (t := 39) (fr := (0, 0)) (heap_alloc_new w17 _)) (by simp [Value.oneCell']) (by omega) (by unfold maxLen; omega) (by omega) (by omega) _ rfl ?_
                    intro gg cap w19 hown hgrow hat hlt19
                    have c19 : w19.cell? ⟨hb, o + 3, none⟩ = some (.slice rva n rvc) := (hgrow.cell_far ⟨hb, o + 3, none⟩ (Nat.lt_of_lt_of_le HLT.out N18.out.1.size) (Ne.symm HNE.out)).trans ((N18.out.1.cell (p := ⟨hb, o + 3, none⟩) HLT.out).trans c3)
                    have f19 : w19.frozen? ⟨hb, o + 3, none⟩ = false := (hgrow.frozen_far ⟨hb, o + 3, none⟩ (Nat.lt_of_lt_of_le HLT.out N18.out.1.size) (Ne.symm HNE.out)).trans ((N18.out.1.frozen (p := ⟨hb, o + 3, none⟩) HLT.out).trans f3)
                    have HP := Lib.hid (HalfAt.push (xs := [.slice ca r.length cc]) (m := [r]) HHH.out.1 HHH.out.2.1 HHH.out.2.2.1 HHH.out.2.2.2.1 HHH.out.2.2.2.2.1 HHH.out.2.2.2.2.2 HO.out ((Below.refl _ _).drew.trans N18.out.1) (All2.cons ⟨N18.out.2.1, fun g hg => .inr ⟨N18.out.2.2.2 g hg, N18.out.2.1.lt g hg⟩⟩ All2.nil) HN.out rfl hown hgrow hat hlt19)
                    clear hown hgrow hat hlt19
                    refine hK _ _ ?_
                    clear hK K
                    try simp only [Act.put, List.setIfInBounds_toArray, List.set_cons_zero, List.set_cons_succ]
                    refine wpAny_take (i := 9) (oi := ⟨some 162, _, _, _, _, _⟩) (v := .pointer (some ⟨hb, o, none⟩)) rfl (by kernel_rfl) (by kernel_rfl) (by kernel_rfl) (fun _ _ _ h => h) (Or.inl ⟨by rfl, fun w => by go_simp⟩) ?_
                    try simp only [Act.put, List.setIfInBounds_toArray, List.set_cons_zero, List.set_cons_succ]
                    refine wpAny_take (i := 10) (oi := ⟨some 163, _, _, _, _, _⟩) (v := .pointer (some ⟨hb, o + 3, none⟩)) rfl (by kernel_rfl) (by kernel_rfl) (by kernel_rfl) (fun _ _ _ h => h) (Or.inl ⟨by rfl, fun w => by go_simp⟩) ?_
                    try simp only [Act.put, List.setIfInBounds_toArray, List.set_cons_zero, List.set_cons_succ]
                    refine wpAny_ready (rs := [11]) (by kernel_rfl) (by simp) ?_
                    refine AllReady.cons (o := ⟨none, _, _, _, _, _⟩) rfl (fun K hK => ?_) AllReady.nil
                    go_simp
                    refine hK _ _ ?_
                    clear hK K
                    try simp only [Act.put, List.setIfInBounds_toArray, List.set_cons_zero, List.set_cons_succ]
                    refine wpAny_done (by kernel_rfl) ?_ _
                    clear c19 f19
                    go_wp2_with fail
                    go_roundw
                    case rel =>
                      refine ⟨k2 + 1, by omega, by go_num, HS16.out.trans HP.out.1, ?_⟩
                      rw [HTK.out]
                      exact HP.out.2.mono (Plus.plus HS16.out.size HP.out.1.size) (Plus.inn HH15.out.1 (HS16.out.trans HP.out.1).size)
                    case measure => simp [intOf]; omega
              · obtain rfl : k2 = l.length := by omega
                have ik2 : ¬ (l.length : Int) < (l.length : Int) := by omega
                rw [List.take_length] at hh
                have HHF := Lib.hid hh
                clear hh hst16
                go_wp2_with fail
                go_ret
                have e1 := B11.out.size
                have e2 := S15.out.size
                have e3 := HS16.out.size
                refine ⟨rfl, ((Stp.of_below _ B11.out).trans' (S15.out.weaken (fun _ h => .inr h))).trans' (HS16.out.weaken (fun _ h => .inl h)), Plus FJ w15 wr, Plus FD w11 w15, _, fun q hq => ?_, fun q hq => ?_, fun q hq hj => ?_, D15.out.same (HS16.out.same D15.out.inn (fun q hq hj => ?_)) HS16.out.size, ⟨?_, ?_, (D13.out.2.1.push _ _).flush, fun j hj => ?_⟩, rfl, ?_⟩
                · rcases hq with h | h
                  · exact .inl h
                  · exact .inr ⟨by omega, h.2⟩
                · rcases hq with h | h
                  · exact .inl h
                  · exact .inr ⟨by omega, by omega⟩
                · rcases hq with h | h <;> rcases hj with h' | h'
                  · exact HDJ.out q h h'
                  · have := HIF.out q h; omega
                  · have := HH.out.1 q h'; omega
                  · omega
                · rcases hq with h | h
                  · exact HDJ.out q h hj
                  · have := HH.out.1 q hj; omega
                · exact D13.out.2.2.1
                · rw [← D13.out.2.2.2.1]; exact DSt.foldl_set_len _ _
                · have hok : (s13.push st (Jn.chunk s.size DT 0)).Ok := DSt.push_ok D13.out.1.ok (by rw [D13.out.2.2.2.1]; have := HR2.out; omega) (by rw [HCH.out 0 (by omega), D13.out.2.2.1])
                  rw [DSt.flush_look hok]
                  unfold Jn.put
                  rw [HDT.out, HDL.out, HND.out, HST.out]
                  by_cases hjs : st = j
                  · subst hjs
                    rw [DSt.push_look_same, if_pos (by omega), Nat.sub_self]
                  · rw [DSt.push_look_other _ hjs, D13.out.2.2.2.2.2 j]
                    by_cases h2 : st + 1 ≤ j ∧ j < st + k
                    · rw [if_pos h2, if_pos (by omega)]
                    · rw [if_neg h2, if_neg (by omega)]
                · rw [HDD.out, HND.out, HSM.out]
                  exact HHF.out
end
end Go.Proofs.YtcpcnfedbffecaaDoor
