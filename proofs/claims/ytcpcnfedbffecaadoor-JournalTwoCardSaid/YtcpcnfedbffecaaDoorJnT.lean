/- What the states of a journal are behind few operations; 'play' on a journal with its disk. -/
import Derived.Test.YtcpcnfedbffecaaDoorJnS
namespace Go.Proofs.YtcpcnfedbffecaaDoor
open Go.RowKit Go.Maps
set_option linter.unusedSimpArgs false
namespace Jn
theorem need_exact {z q : Nat} (h : 0 < z) : need z (q * z) = q ∧ need z (q * z + 1) = q + 1 := by
  unfold need
  refine ⟨?_, ?_⟩
  · rw [show q * z + z - 1 = (z - 1) + q * z from by omega, Nat.add_mul_div_right _ _ h, Nat.div_eq_of_lt (by omega)]; omega
  · rw [show q * z + 1 + z - 1 = 0 + (q + 1) * z from by rw [Nat.add_mul]; omega, Nat.add_mul_div_right _ _ h, Nat.zero_div]; omega
/-- The states behind i operations. -/
structure Inv (t : JSt) (f0 f1 room i : Nat) : Prop where
  eq0 : t.f0 = f0
  eq1 : t.f1 = f1
  eqr : t.room = room
  used : t.used ≤ room
  epoch : t.epoch ≤ i
  recs : t.recs.length ≤ 4 * i
  last : t.last.length = 32
  size : ∀ r ∈ t.recs, r.length ≤ 300
variable {t : JSt} {f0 f1 room i n size : Nat} {o : Op17}
theorem Inv.ok (h : Inv t f0 f1 room i) (h0 : f0 + room ≤ n) (h1 : f1 + room ≤ n) (hr : room ≤ 65536) (hi : i ≤ 1000) : t.Ok n :=
  ⟨by rw [h.eq0, h.eqr]; exact h0, by rw [h.eq1, h.eqr]; exact h1, by rw [h.eqr]; exact h.used, by rw [h.eqr]; exact hr, by have := h.epoch; omega, by have := h.recs; omega, by rw [h.last]; omega⟩
theorem Inv.app (h : Inv t f0 f1 room i) {l : List (List UInt8)} (hl : l.length ≤ 4) (hr : ∀ r ∈ l, r.length ≤ 300) : Inv (t.app size l) f0 f1 room (i + 1) := by
  unfold JSt.app
  split
  · rename_i hf
    refine ⟨h.eq0, h.eq1, h.eqr, ?_, Nat.le_succ_of_le h.epoch, ?_, rfl, fun r hr2 => ?_⟩
    · have h1 := hf.2
      have h2 := h.used
      have h3 := h.eqr
      show t.used + _ ≤ _
      omega
    · have := h.recs
      show (t.recs ++ l).length ≤ _
      rw [List.length_append]; omega
    · rcases List.mem_append.1 hr2 with h1 | h1
      · exact h.size r h1
      · exact hr r h1
  · exact ⟨h.eq0, h.eq1, h.eqr, h.used, Nat.le_succ_of_le h.epoch, by have := h.recs; omega, h.last, h.size⟩
theorem Inv.reset (h : Inv t f0 f1 room i) {x : List UInt8} (hx : x.length ≤ 300) : Inv (t.reset size x) f0 f1 room (i + 1) := by
  unfold JSt.reset
  split
  · rename_i hf
    refine ⟨h.eq0, h.eq1, h.eqr, ?_, Nat.succ_le_succ h.epoch, ?_, rfl, fun r hr2 => ?_⟩
    · have h3 := h.eqr
      unfold JSt.resFits at hf
      show need size (flen [x]) ≤ _
      omega
    · show ([x] : List (List UInt8)).length ≤ _
      simp; omega
    · have hr2' : r ∈ [x] := hr2
      rw [List.mem_singleton] at hr2'
      rw [hr2']; exact hx
  · exact ⟨h.eq0, h.eq1, h.eqr, h.used, Nat.le_succ_of_le h.epoch, by have := h.recs; omega, h.last, h.size⟩
theorem Inv.play (h : Inv t f0 f1 room i) (hf : o.Few) : Inv (t.play size o) f0 f1 room (i + 1) := by
  unfold JSt.play
  split
  · exact h.app (by simp) (fun r hr => by
      rw [List.mem_singleton] at hr
      rw [hr]; exact hf.first)
  · split
    · exact h.app hf.1 hf.2
    · exact h.reset hf.first
theorem Inv.start (f0 n : Nat) : Inv (openSt f0 n [] []) f0 (f0 + n / 2) (n / 2) 0 :=
  ⟨rfl, rfl, rfl, Nat.zero_le _, Nat.le_refl _, Nat.le_refl _, rfl, fun r hr => by cases hr⟩
end Jn
section
variable {w w' : World} {FX : Nat → Prop} {t : JSt} {s : DSt} {b bd B E : Nat} {bv : Value} {o : Op17} {ka : Option Addr} {kn kc : Nat}
theorem JD.play (h : JD B E w t s b bd) (hg : Glob w) (ok : t.Ok s.dur.length) (hx : LV w FX bv o.batch) (hXI : Inn FX w) (hX : ∀ k, FX k → k < B ∨ E ≤ k) (hf : o.Few) :
    Calls Tryd.prog 10 #[.pointer (some ⟨b, 0, none⟩), .agg #[.int .i64 o.kind, bv, .int .i64 o.n, .slice ka kn kc]] w (JDP B w b bd (t.playErr s.size o) (t.play s.size o) s (t.playImg s.size o s.look)) := by
  obtain ⟨FJ, FD, h1, h2, h3, h4, h5, h6, h7, h8, h9⟩ := h
  exact (play17_any h7 h4 h5 h6 h3 hg ok hx hXI (fun k hk hf => by have := h2 k hf; have := hX k hk; omega) (fun k hk hf => by have := h1 k hf; have := hX k hk; omega) hf).mono fun e w' q => q.jd h1 h2 h6 h8 h9
end
end Go.Proofs.YtcpcnfedbffecaaDoor
