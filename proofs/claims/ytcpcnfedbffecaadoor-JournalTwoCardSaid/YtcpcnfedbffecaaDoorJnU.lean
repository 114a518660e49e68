/- Two journals on one disk, and a third on a disk of its own. -/
import Derived.Test.YtcpcnfedbffecaaDoorJnT
namespace Go.Proofs.YtcpcnfedbffecaaDoor
open Go.RowKit Go.Maps
set_option linter.unusedSimpArgs false
/-- Footprints apart from each other. -/
structure Fam (B : Nat) (w : World) (F : Nat → Nat → Prop) : Prop where
  base : ∀ i k, F i k → B ≤ k
  dj : ∀ i j, i ≠ j → Dj (F i) (F j)
  inn : ∀ i, Inn (F i) w
  low : B ≤ w.heap.size
def upd (F : Nat → Nat → Prop) (i d : Nat) (FJ FD : Nat → Prop) : Nat → Nat → Prop := fun x => if x = i then FJ else if x = d then FD else F x
section
variable {B : Nat} {w w' : World} {F : Nat → Nat → Prop} {i d : Nat} {FJ FD : Nat → Prop}
theorem Fam.same (h : Fam B w F) (st : Stp (fun k => F i k ∨ F d k) w w') {x : Nat} (h1 : x ≠ i) (h2 : x ≠ d) : Same (F x) w w' :=
  st.same (h.inn x) (fun k hk hf => by
    rcases hf with hf | hf
    · exact h.dj x i h1 k hk hf
    · exact h.dj x d h2 k hk hf)
theorem Fam.turn (h : Fam B w F) (hid : i ≠ d) (st : Stp (fun k => F i k ∨ F d k) w w') (g1 : ∀ k, FJ k → Plus (F i) w w' k) (g2 : ∀ k, FD k → Plus (F d) w w' k) (g3 : Dj FD FJ) (hJ : Inn FJ w') (hD : Inn FD w') : Fam B w' (upd F i d FJ FD) := by
  have hs := st.size
  have key : ∀ x, (upd F i d FJ FD x = FJ ∧ x = i) ∨ (upd F i d FJ FD x = FD ∧ x = d) ∨ (upd F i d FJ FD x = F x ∧ x ≠ i ∧ x ≠ d) := fun x => by
    unfold Go.Proofs.YtcpcnfedbffecaaDoor.upd
    by_cases h1 : x = i
    · exact .inl ⟨if_pos h1, h1⟩
    · by_cases h2 : x = d
      · exact .inr (.inl ⟨by rw [if_neg h1, if_pos h2], h2⟩)
      · exact .inr (.inr ⟨by rw [if_neg h1, if_neg h2], h1, h2⟩)
  have pj : ∀ x, x ≠ i → Dj (F x) FJ := fun x hx k hk hf => Plus.dj (h.inn x) (h.dj x i hx) k hk (g1 k hf)
  have pd : ∀ x, x ≠ d → Dj (F x) FD := fun x hx k hk hf => Plus.dj (h.inn x) (h.dj x d hx) k hk (g2 k hf)
  have hlow := h.low
  refine ⟨fun x k hk => ?_, fun x y hxy => ?_, fun x => ?_, by omega⟩
  · rcases key x with ⟨e, rfl⟩ | ⟨e, rfl⟩ | ⟨e, -, -⟩ <;> rw [e] at hk
    · rcases g1 k hk with h1 | h1
      · exact h.base _ k h1
      · have := h1.1; omega
    · rcases g2 k hk with h1 | h1
      · exact h.base _ k h1
      · have := h1.1; omega
    · exact h.base _ k hk
  · rcases key x with ⟨e, hx⟩ | ⟨e, hx⟩ | ⟨e, hx1, hx2⟩ <;> rcases key y with ⟨e', hy⟩ | ⟨e', hy⟩ | ⟨e', hy1, hy2⟩ <;> rw [e, e']
    · exact absurd (hx.trans hy.symm) hxy
    · exact g3.symm
    · exact (pj y hy1).symm
    · exact g3
    · exact absurd (hx.trans hy.symm) hxy
    · exact (pd y hy2).symm
    · exact pj x hx1
    · exact pd x hx2
    · exact h.dj x y hxy
  · rcases key x with ⟨e, rfl⟩ | ⟨e, rfl⟩ | ⟨e, -, -⟩ <;> rw [e]
    · exact hJ
    · exact hD
    · exact st.inn (h.inn x)
end
/-- The three journals: 0, 1 on the disk 3; 2 on the disk 4. -/
structure TJ (B : Nat) (w : World) (F : Nat → Nat → Prop) (ta tb tc : JSt) (s e : DSt) (ja jb jc bd be : Nat) : Prop where
  fam : Fam B w F
  hD : DiskAt w s bd (F 3)
  hE : DiskAt w e be (F 4)
  cD : s.Calm
  cE : e.Calm
  pD : s.pend.length ≤ 1000
  pE : e.pend.length ≤ 1000
  hA : JAt w ta ja bd (F 0)
  hB : JAt w tb jb bd (F 1)
  hC : JAt w tc jc be (F 2)
section
variable {B : Nat} {w w' : World} {F : Nat → Nat → Prop} {ta tb tc : JSt} {s e : DSt} {ja jb jc bd be : Nat} {FX : Nat → Prop} {bv : Value} {o : Op17} {ka : Option Addr} {kn kc z : Nat}
theorem Fam.grow (h : Fam B w F) (hb : Below w.heap.size w w') : Fam B w' F := ⟨h.base, h.dj, fun i k hk => Nat.lt_of_lt_of_le (h.inn i k hk) hb.size, Nat.le_trans h.low hb.size⟩
theorem TJ.grow (h : TJ B w F ta tb tc s e ja jb jc bd be) (hb : Below w.heap.size w w') : TJ B w' F ta tb tc s e ja jb jc bd be :=
  ⟨h.fam.grow hb, h.hD.below hb, h.hE.below hb, h.cD, h.cE, h.pD, h.pE, h.hA.below hb, h.hB.below hb, h.hC.below hb⟩
/-- What an operation leaves: the states P. -/
def TJP (B : Nat) (w : World) (r : Int) (s e : DSt) (P : World → (Nat → Nat → Prop) → DSt → DSt → Prop) (en : Ending) (w' : World) : Prop :=
  en = .returned (.int .i64 r) ∧ Below B w w' ∧ ∃ F' s' e', (s'.size = s.size ∧ s'.dur.length = s.dur.length ∧ e'.size = e.size ∧ e'.dur.length = e.dur.length) ∧ P w' F' s' e'
theorem Fam.bel (h : Fam B w F) {i d : Nat} (st : Stp (fun k => F i k ∨ F d k) w w') : Below B w w' := st.below (fun k hk => by
  rcases hk with hk | hk
  · exact h.base i k hk
  · exact h.base d k hk) h.low
theorem TJ.playA (h : TJ B w F ta tb tc s e ja jb jc bd be) (hg : Glob w) (ok : ta.Ok s.dur.length) (hz : s.size = z) (hx : LV w FX bv o.batch) (hXI : Inn FX w) (hX : ∀ k, FX k → k < B) (hf : o.Few) :
    Calls Tryd.prog 10 #[.pointer (some ⟨ja, 0, none⟩), .agg #[.int .i64 o.kind, bv, .int .i64 o.n, .slice ka kn kc]] w (TJP B w (ta.playErr z o) s e fun w' F' s' e' => TJ B w' F' (ta.play z o) tb tc s' e' ja jb jc bd be) := by
  subst hz
  refine (play17_any h.hA h.hD h.cD h.pD (h.fam.dj 3 0 (by omega)) hg ok hx hXI (fun k hk hf => by have := hX k hk; have := h.fam.base 3 k hf; omega) (fun k hk hf => by have := hX k hk; have := h.fam.base 0 k hf; omega) hf).mono fun en w' q => ?_
  obtain ⟨he, st, FJ', FD', s', g1, g2, g3, g4, g5, g6, g7⟩ := q
  have fm := h.fam.turn (i := 0) (d := 3) (by omega) st g1 g2 g3 g7.1 g4.inn
  exact ⟨he, h.fam.bel st, upd F 0 3 FJ' FD', s', e, ⟨g5.size, g5.len, rfl, rfl⟩, fm, g4, h.hE.same (h.fam.same st (x := 4) (by omega) (by omega)) st.size, g5.calm, h.cE, Nat.le_trans g6 h.pD, h.pE, g7, h.hB.same (h.fam.same st (x := 1) (by omega) (by omega)) st.size, h.hC.same (h.fam.same st (x := 2) (by omega) (by omega)) st.size⟩
theorem TJ.playB (h : TJ B w F ta tb tc s e ja jb jc bd be) (hg : Glob w) (ok : tb.Ok s.dur.length) (hz : s.size = z) (hx : LV w FX bv o.batch) (hXI : Inn FX w) (hX : ∀ k, FX k → k < B) (hf : o.Few) :
    Calls Tryd.prog 10 #[.pointer (some ⟨jb, 0, none⟩), .agg #[.int .i64 o.kind, bv, .int .i64 o.n, .slice ka kn kc]] w (TJP B w (tb.playErr z o) s e fun w' F' s' e' => TJ B w' F' ta (tb.play z o) tc s' e' ja jb jc bd be) := by
  subst hz
  refine (play17_any h.hB h.hD h.cD h.pD (h.fam.dj 3 1 (by omega)) hg ok hx hXI (fun k hk hf => by have := hX k hk; have := h.fam.base 3 k hf; omega) (fun k hk hf => by have := hX k hk; have := h.fam.base 1 k hf; omega) hf).mono fun en w' q => ?_
  obtain ⟨he, st, FJ', FD', s', g1, g2, g3, g4, g5, g6, g7⟩ := q
  have fm := h.fam.turn (i := 1) (d := 3) (by omega) st g1 g2 g3 g7.1 g4.inn
  exact ⟨he, h.fam.bel st, upd F 1 3 FJ' FD', s', e, ⟨g5.size, g5.len, rfl, rfl⟩, fm, g4, h.hE.same (h.fam.same st (x := 4) (by omega) (by omega)) st.size, g5.calm, h.cE, Nat.le_trans g6 h.pD, h.pE, h.hA.same (h.fam.same st (x := 0) (by omega) (by omega)) st.size, g7, h.hC.same (h.fam.same st (x := 2) (by omega) (by omega)) st.size⟩
theorem TJ.playC (h : TJ B w F ta tb tc s e ja jb jc bd be) (hg : Glob w) (ok : tc.Ok e.dur.length) (hz : e.size = z) (hx : LV w FX bv o.batch) (hXI : Inn FX w) (hX : ∀ k, FX k → k < B) (hf : o.Few) :
    Calls Tryd.prog 10 #[.pointer (some ⟨jc, 0, none⟩), .agg #[.int .i64 o.kind, bv, .int .i64 o.n, .slice ka kn kc]] w (TJP B w (tc.playErr z o) s e fun w' F' s' e' => TJ B w' F' ta tb (tc.play z o) s' e' ja jb jc bd be) := by
  subst hz
  refine (play17_any h.hC h.hE h.cE h.pE (h.fam.dj 4 2 (by omega)) hg ok hx hXI (fun k hk hf => by have := hX k hk; have := h.fam.base 4 k hf; omega) (fun k hk hf => by have := hX k hk; have := h.fam.base 2 k hf; omega) hf).mono fun en w' q => ?_
  obtain ⟨he, st, FJ', FD', e', g1, g2, g3, g4, g5, g6, g7⟩ := q
  have fm := h.fam.turn (i := 2) (d := 4) (by omega) st g1 g2 g3 g7.1 g4.inn
  exact ⟨he, h.fam.bel st, upd F 2 4 FJ' FD', s, e', ⟨rfl, rfl, g5.size, g5.len⟩, fm, h.hD.same (h.fam.same st (x := 3) (by omega) (by omega)) st.size, g4, h.cD, g5.calm, h.pD, Nat.le_trans g6 h.pE, h.hA.same (h.fam.same st (x := 0) (by omega) (by omega)) st.size, h.hB.same (h.fam.same st (x := 1) (by omega) (by omega)) st.size, g7⟩
end
end Go.Proofs.YtcpcnfedbffecaaDoor
