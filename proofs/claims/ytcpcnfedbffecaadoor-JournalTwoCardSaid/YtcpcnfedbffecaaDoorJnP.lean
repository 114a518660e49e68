/- The operations of chapter 17's laws as data; contracts of First, play and small. -/
import Derived.Test.YtcpcnfedbffecaaDoorJnQ
import Derived.Test.YtcpcnfedbffecaaDoorOpenV
import Derived.WalkMore
namespace Go.Proofs.YtcpcnfedbffecaaDoor
open Go.RowKit Go.Maps Go.Deep
set_option linter.unusedSimpArgs false
structure Op17 where
  kind : Int
  batch : List (List UInt8)
  n : Int
/-- The four cells of an operation in memory. -/
def OpV17 (w : World) (F : Nat → Prop) (E : List Value) (o : Op17) : Prop :=
  ∃ bv ka kn kc, E = [.int .i64 o.kind, bv, .int .i64 o.n, .slice ka kn kc] ∧ LV w F bv o.batch
/-- The slice value v reads as the operations l. -/
def OpsV17 (w : World) (F : Nat → Prop) (v : Value) (l : List Op17) : Prop :=
  ∃ a c, v = .slice a l.length c ∧ l.length ≤ c ∧ c ≤ maxLen ∧ (a = none → c = 0) ∧
    (0 < l.length → ∃ b o, a = some ⟨b, o, none⟩ ∧ F b ∧ ∀ i, (h : i < l.length) → ∃ E, OpV17 w F E l[i] ∧ ∀ j, j < 4 → w.cell? ⟨b, o + i * 4 + j, none⟩ = E[j]?)
section
variable {F G : Nat → Prop} {w w' : World} {v : Value} {l : List Op17} {E : List Value} {o : Op17}
theorem OpV17.same (h : OpV17 w F E o) (hs : Same F w w') : OpV17 w' F E o := by
  obtain ⟨bv, ka, kn, kc, e, h1⟩ := h; exact ⟨bv, ka, kn, kc, e, h1.same hs⟩
theorem OpsV17.same (h : OpsV17 w F v l) (hs : Same F w w') : OpsV17 w' F v l := by
  obtain ⟨a, c, e, h1, h2, h3, h4⟩ := h
  refine ⟨a, c, e, h1, h2, h3, fun hp => ?_⟩
  obtain ⟨b, o, e2, hb, hc⟩ := h4 hp
  refine ⟨b, o, e2, hb, fun i hi => ?_⟩
  obtain ⟨E, hE, hj⟩ := hc i hi
  exact ⟨E, hE.same hs, fun j h => (hs.cell (p := ⟨b, o + i * 4 + j, none⟩) hb).trans (hj j h)⟩
theorem OpsV17.get (h : OpsV17 w F v l) : ∃ a c, v = .slice a l.length c ∧ l.length ≤ c ∧ c ≤ maxLen ∧ ∀ i, (hi : i < l.length) → ∃ b o bv ka kn kc, a = some ⟨b, o, none⟩ ∧ F b ∧ LV w F bv l[i].batch ∧
    w.cell? ⟨b, o + i * 4, none⟩ = some (.int .i64 l[i].kind) ∧ w.cell? ⟨b, o + i * 4 + 1, none⟩ = some bv ∧ w.cell? ⟨b, o + i * 4 + 2, none⟩ = some (.int .i64 l[i].n) ∧ w.cell? ⟨b, o + i * 4 + 3, none⟩ = some (.slice ka kn kc) := by
  obtain ⟨a, c, e, h1, h2, h3, h4⟩ := h
  refine ⟨a, c, e, h1, h2, fun i hi => ?_⟩
  obtain ⟨b, o, e2, hF, hc⟩ := h4 (by omega)
  obtain ⟨E, ⟨bv, ka, kn, kc, rfl, hd⟩, hj⟩ := hc i hi
  exact ⟨b, o, bv, ka, kn, kc, e2, hF, hd, hj 0 (by omega), hj 1 (by omega), hj 2 (by omega), hj 3 (by omega)⟩
end
section
variable {H : Type} {enc : TypeId × Value → H} {w : World} {sp : Nat → Bool} {held : Bool} {fuel : Nat} {cs : List Value} {x : DataW H × List MemPlace}
theorem open_op17 (h : DataW.trod enc Tryd.prog w 0 sp held fuel 35 cs = some x) : ∃ o, OpV17 w (fun k => k < w.heap.size) cs o := by
  obtain ⟨xs, n, _, _, hlen, _, hf⟩ := DataW.trod_struct Tryd.underlying35 h
  have hc : Tryd.prog.cellsOf 35 = 4 := by kernel_rfl
  rw [hc] at hlen
  obtain ⟨c0, c1, c2, c3, rfl⟩ : ∃ c0 c1 c2 c3, cs = [c0, c1, c2, c3] := by
    match cs, hlen with
    | [c0, c1, c2, c3], _ => exact ⟨_, _, _, _, rfl⟩
  have k1 : Tryd.prog.cellsOf 3 = 1 := by kernel_rfl
  have k2 : Tryd.prog.cellsOf 32 = 1 := by kernel_rfl
  have k3 : Tryd.prog.cellsOf 33 = 1 := by kernel_rfl
  have g : ∀ i (h : i < xs.length), xs[i]? = some xs[i] := fun i h => List.getElem?_eq_getElem h
  have f0 : DataW.trod enc Tryd.prog w 0 sp held n 3 (([c0, c1, c2, c3].drop 0).take (Tryd.prog.cellsOf 3)) = xs[0]? := hf 0 _ rfl
  have f1 : DataW.trod enc Tryd.prog w 0 sp held n 32 (([c0, c1, c2, c3].drop 1).take (Tryd.prog.cellsOf 32)) = xs[1]? := hf 1 _ rfl
  have f2 : DataW.trod enc Tryd.prog w 0 sp held n 3 (([c0, c1, c2, c3].drop 2).take (Tryd.prog.cellsOf 3)) = xs[2]? := hf 2 _ rfl
  have f3 : DataW.trod enc Tryd.prog w 0 sp held n 33 (([c0, c1, c2, c3].drop 3).take (Tryd.prog.cellsOf 33)) = xs[3]? := hf 3 _ rfl
  rw [k1] at f0 f2
  rw [k2] at f1
  rw [k3] at f3
  rw [g 0 (by simp_all)] at f0
  rw [g 1 (by simp_all)] at f1
  rw [g 2 (by simp_all)] at f2
  rw [g 3 (by simp_all)] at f3
  obtain ⟨a0, e0, _, w0⟩ := DataW.trod_int Tryd.underlying3 f0
  obtain ⟨v1, l1, e1, h1⟩ := open_listsV f1
  obtain ⟨a2, e2, _, w2⟩ := DataW.trod_int Tryd.underlying3 f2
  have h3 : ∃ ka kn kc, (([c0, c1, c2, c3].drop 3).take 1) = [Value.slice ka kn kc] := by
    rcases open_slice Tryd.underlying33 f3 with ⟨h, _⟩ | ⟨a, len, cap, _, _, _, _, h, _⟩
    · exact ⟨_, _, _, h⟩
    · exact ⟨_, _, _, h⟩
  obtain ⟨ka, kn, kc, e3⟩ := h3
  simp at e0 e1 e2 e3
  subst e0; subst e1; subst e2; subst e3
  exact ⟨⟨a0, l1, a2⟩, _, _, _, _, rfl, h1⟩
theorem open_ops17 (h : DataW.trod enc Tryd.prog w 0 sp held fuel 22 cs = some x) : ∃ v l, cs = [v] ∧ OpsV17 w (fun k => k < w.heap.size) v l := by
  obtain ⟨a, len, cap, ES, rfl, hE, h1, h2, h3, h4⟩ := open_list (fun cs => ∃ o, OpV17 w (fun k => k < w.heap.size) cs o) Tryd.underlying22 4 (by kernel_rfl) (by omega) (fun _ _ _ h => open_op17 h) h
  by_cases h0 : 0 < len
  · obtain ⟨b, o, rfl, hb, hel⟩ := h4 h0
    obtain ⟨l, hl, hr⟩ := list_of (fun E o => OpV17 w (fun k => k < w.heap.size) E o) ES (fun E hE => by
      obtain ⟨i, hi, rfl⟩ := List.getElem_of_mem hE
      exact (hel i _ (List.getElem?_eq_getElem hi)).1)
    obtain rfl : l.length = len := by omega
    refine ⟨_, l, rfl, _, cap, rfl, h1, h2, h3, fun _ => ⟨b, o, rfl, hb, fun i hi => ⟨ES[i], hr i hi (by omega), fun j hj => ?_⟩⟩⟩
    exact (hel i _ (List.getElem?_eq_getElem (by omega))).2 j hj
  · obtain rfl : len = 0 := by omega
    exact ⟨_, [], rfl, a, cap, rfl, h1, h2, h3, fun h => absurd h (by simp)⟩
end
def Jn.first (l : List (List UInt8)) : List UInt8 := l.headD []
def JSt.play (t : JSt) (size : Nat) (o : Op17) : JSt := if o.kind = 0 then t.app size [Jn.first o.batch] else if o.kind = 1 then t.app size o.batch else t.reset size (Jn.first o.batch)
def JSt.playErr (t : JSt) (size : Nat) (o : Op17) : Int := if o.kind = 0 then t.appErr size [Jn.first o.batch] else if o.kind = 1 then t.appErr size o.batch else t.resErr size (Jn.first o.batch)
def JSt.playImg (t : JSt) (size : Nat) (o : Op17) (f : Nat → List UInt8) : Nat → List UInt8 := if o.kind = 0 then t.appImg size [Jn.first o.batch] f else if o.kind = 1 then t.appImg size o.batch f else t.resImg size (Jn.first o.batch) f
/-- What 'small' lets pass. -/
def Op17.Few (o : Op17) : Prop := o.batch.length ≤ 4 ∧ ∀ r ∈ o.batch, r.length ≤ 300
theorem Op17.Few.first {o : Op17} (h : o.Few) : (Jn.first o.batch).length ≤ 300 := by
  unfold Jn.first
  cases hb : o.batch with
  | nil => simp
  | cons r l => exact h.2 r (by rw [hb]; simp)
section
variable {w w' : World} {F G FJ FD FX : Nat → Prop} {t : JSt} {s : DSt} {b bd : Nat} {l : List (List UInt8)} {xv bv : Value} {x : List UInt8} {o : Op17} {ka : Option Addr} {kn kc : Nat}
set_option maxRecDepth 100000 in
set_option maxHeartbeats 1000000 in
theorem first17_any (hx : LV w F xv l) : Calls Tryd.prog 28 #[xv] w fun e w' => ∃ v, e = .returned v ∧ w = w' ∧ BV w F v (Jn.first l) := by
  obtain ⟨a, c, rfl, h1, h2, hget⟩ := hx.get
  unfold maxLen at h2
  cases l with
  | nil =>
    have hb : BV w F (.slice none 0 0) (Jn.first []) := ⟨none, 0, rfl, Nat.le_refl _, by unfold maxLen; omega, fun _ => rfl, fun h => absurd h (by simp [Jn.first])⟩
    clear hget
    go_enter Tryd.func28, Tryd.ntmps28
    go_wp2_with fail
    go_ret
    exact ⟨_, rfl, rfl, hb⟩
  | cons r l =>
    obtain ⟨pb, po, v, rfl, -, hc, hv⟩ := hget 0 (by simp)
    rw [Nat.add_zero] at hc
    have hlen : (r :: l).length = l.length + 1 := by simp
    rw [hlen] at h1 ⊢
    have i1 : ((l.length + 1 : Nat) : Int) ≠ 0 := by omega
    have i2 : 0 < l.length + 1 := by omega
    have hv' : BV w F v (Jn.first (r :: l)) := hv
    clear hget hv
    go_enter Tryd.func28, Tryd.ntmps28
    go_wp2_with fail
    go_ret
    exact ⟨_, rfl, rfl, hv'⟩
set_option maxRecDepth 100000 in
set_option maxHeartbeats 2000000 in
theorem play17_any (h : JAt w t b bd FJ) (hD : DiskAt w s bd FD) (hc : s.Calm) (hpn : s.pend.length ≤ 1000) (hdj : Dj FD FJ) (hg : Glob w) (ok : t.Ok s.dur.length)
    (hx : LV w FX bv o.batch) (hXI : Inn FX w) (hXD : Dj FX FD) (hXJ : Dj FX FJ) (hf : o.Few) :
    Calls Tryd.prog 10 #[.pointer (some ⟨b, 0, none⟩), .agg #[.int .i64 o.kind, bv, .int .i64 o.n, .slice ka kn kc]] w (JP w b bd FJ FD (t.playErr s.size o) (t.play s.size o) s (t.playImg s.size o s.look)) := by
  obtain ⟨ba, bc, rfl, -, -, -⟩ := hx.get
  have hb1 : Below w.heap.size w (w.alloc (.cells #[.int .i64 o.kind, .slice ba o.batch.length bc, .int .i64 o.n, .slice ka kn kc] 35)) := (Below.refl _ _).alloc (Nat.le_refl _) _
  have hbk := Blk.new w [.int .i64 o.kind, .slice ba o.batch.length bc, .int .i64 o.n, .slice ka kn kc] 35
  obtain ⟨w1, hw1⟩ : ∃ w1, w.alloc (.cells #[.int .i64 o.kind, .slice ba o.batch.length bc, .int .i64 o.n, .slice ka kn kc] 35) = w1 := ⟨_, rfl⟩
  have hx1 := hx.grow hb1
  have hf1 := hf.first
  have hfl : Jn.flen o.batch ≤ 1000000 := by
    have h1 := Jn.recs_le o.batch 300 hf.2
    have h2 := hf.1
    unfold Jn.flen
    have : o.batch.length * (300 + 4) ≤ 4 * 304 := Nat.mul_le_mul_right _ h2
    omega
  rw [hw1] at hb1 hbk hx1
  have VF := Lib.hid (first17_any hx1)
  have HB1 := Lib.hid hb1
  have VP := Lib.hid (fun (v : Value) (hv : BV w1 FX v (Jn.first o.batch)) => append_any (h.below hb1) (hD.below hb1) hc hpn hdj (hg.below hb1 hg.lt) ok hv (fun k hk => Nat.lt_of_lt_of_le (hXI k hk) hb1.size) hXD hXJ (by omega))
  have VA := Lib.hid (appendall_any (h.below hb1) (hD.below hb1) hc hpn hdj (hg.below hb1 hg.lt) ok hx1 (fun k hk => Nat.lt_of_lt_of_le (hXI k hk) hb1.size) hXD hXJ (by have := hf.1; omega) hfl)
  have VR := Lib.hid (fun (v : Value) (hv : BV w1 FX v (Jn.first o.batch)) => reset_any (h.below hb1) (hD.below hb1) hc hpn hdj (hg.below hb1 hg.lt) ok hv (fun k hk => Nat.lt_of_lt_of_le (hXI k hk) hb1.size) hXD hXJ (by omega))
  obtain ⟨kd, hkd⟩ : ∃ kd, o.kind = kd := ⟨_, rfl⟩
  obtain ⟨on, hon⟩ : ∃ on, o.n = on := ⟨_, rfl⟩
  obtain ⟨bl, hbl⟩ : ∃ bl, o.batch.length = bl := ⟨_, rfl⟩
  have HPE : Hid (t.playErr s.size o = if kd = 0 then t.appErr s.size [Jn.first o.batch] else if kd = 1 then t.appErr s.size o.batch else t.resErr s.size (Jn.first o.batch)) := Lib.hid (by unfold JSt.playErr; rw [hkd])
  have HPT : Hid (t.play s.size o = if kd = 0 then t.app s.size [Jn.first o.batch] else if kd = 1 then t.app s.size o.batch else t.reset s.size (Jn.first o.batch)) := Lib.hid (by unfold JSt.play; rw [hkd])
  have HPI : Hid (t.playImg s.size o s.look = if kd = 0 then t.appImg s.size [Jn.first o.batch] s.look else if kd = 1 then t.appImg s.size o.batch s.look else t.resImg s.size (Jn.first o.batch) s.look) := Lib.hid (by unfold JSt.playImg; rw [hkd])
  rw [HPE.out, HPT.out, HPI.out]
  rw [hkd, hon, hbl] at hbk hw1
  rw [hkd, hon, hbl]
  rw [hbl] at VA VF
  obtain ⟨bx, hbx⟩ : ∃ bx, w.heap.size = bx := ⟨_, rfl⟩
  rw [hbx] at hbk
  have c0 := hbk.cell (i := 0) rfl
  have c1 := hbk.cell (i := 1) rfl
  clear h hD hc hpn hdj hg ok hx hXI hXD hXJ hf hb1 hx1 hf1 hfl hkd hon hbl HPE HPT HPI hbk
  by_cases k0 : kd = 0
  · subst k0
    rw [if_pos rfl, if_pos rfl, if_pos rfl]
    go_enter Tryd.func10, Tryd.ntmps10
    go_wp2_with fail
    refine (VF.out).mono ?_
    rintro e w' ⟨fv, rfl, rfl, hfv⟩
    have HF := Lib.hid hfv
    obtain ⟨fa, fc, rfl, -⟩ := hfv.get
    have VV := Lib.hid (VP.out _ HF.out)
    clear hfv VF VP
    go_wp2_with (go_at_call 12; refine (VV.out).mono ?_; rintro e w' q; obtain ⟨rfl, q2⟩ := q)
    go_ret
    exact JP.back ⟨rfl, q2⟩ HB1.out
  · rw [if_neg k0, if_neg k0, if_neg k0]
    by_cases k1 : kd = 1
    · subst k1
      rw [if_pos rfl, if_pos rfl, if_pos rfl]
      go_enter Tryd.func10, Tryd.ntmps10
      go_wp2_with (go_at_call 21; refine (VA.out).mono ?_; rintro e w' q; obtain ⟨rfl, q2⟩ := q)
      go_ret
      exact JP.back ⟨rfl, q2⟩ HB1.out
    · rw [if_neg k1, if_neg k1, if_neg k1]
      go_enter Tryd.func10, Tryd.ntmps10
      go_wp2_with fail
      refine (VF.out).mono ?_
      rintro e w' ⟨fv, rfl, rfl, hfv⟩
      have HF := Lib.hid hfv
      obtain ⟨fa, fc, rfl, -⟩ := hfv.get
      have VV := Lib.hid (VR.out _ HF.out)
      clear hfv VF VR
      go_wp2_with (go_at_call 22; refine (VV.out).mono ?_; rintro e w' q; obtain ⟨rfl, q2⟩ := q)
      go_ret
      exact JP.back ⟨rfl, q2⟩ HB1.out
/-- What 'small' says. -/
def SmallIs (size count : Int) (l : List Op17) (w : World) (e : Ending) (w' : World) : Prop :=
  ∃ r, e = .returned (.bool r) ∧ w = w' ∧ (r = true → 64 ≤ size ∧ size ≤ 100 ∧ 4 ≤ count ∧ count ≤ 24 ∧ l.length ≤ 30 ∧ ∀ i, (h : i < l.length) → l[i].Few)
end
end Go.Proofs.YtcpcnfedbffecaaDoor
