/- The memory of Sha256State: two states and two texts, and how each statement turns it. -/
import Derived.Test.YtiakmpnmooobbaaDoorStM
import Derived.Test.YtiakmpnmooobbaaDoorShaC
namespace Go.Proofs.YtiakmpnmooobbaaDoor
open Go.RowKit
set_option linter.unusedVariables false
theorem ShaIs.lt {w : World} {b : Nat} {l : List UInt8} {T : TypeId} {rest : List Value} (h : ShaIs w b l rest T) : b < w.heap.size := by
  obtain ⟨_, _, _, _, _, h⟩ := h; exact h.lt
/-- Blocks that a text may lie in. -/
def StF (bs bt s0 s1 n : Nat) : Nat → Prop := fun x => x < n ∧ x ≠ bs ∧ x ≠ bt ∧ x ≠ s0 ∧ x ≠ s1
def Ptr (b : Nat) : Value := .pointer (some ⟨b, 0, none⟩)
structure StR (W : World) (bs bt s0 s1 : Nat) (l0 l1 m0 m1 : List UInt8) (v0 v1 : Value) (w : World) : Prop where
  below : Below W.heap.size W w
  cs : Blk w bs [.pointer (some ⟨s0, 0, none⟩), .pointer (some ⟨s1, 0, none⟩)] 35
  ct : Blk w bt [v0, v1] 22
  h0 : ShaIs w s0 l0 [] 56
  h1 : ShaIs w s1 l1 [] 56
  t0 : BV w (StF bs bt s0 s1 w.heap.size) v0 m0
  t1 : BV w (StF bs bt s0 s1 w.heap.size) v1 m1
  os : W.heap.size ≤ bs
  ot : W.heap.size ≤ bt
  o0 : W.heap.size ≤ s0
  o1 : W.heap.size ≤ s1
  d1 : bs ≠ bt
  d2 : s0 ≠ s1
  d3 : s0 ≠ bs
  d4 : s0 ≠ bt
  d5 : s1 ≠ bs
  d6 : s1 ≠ bt
section
variable {W w w' w1 : World} {bs bt s0 s1 : Nat} {l0 l1 m0 m1 l m : List UInt8} {v0 v1 v : Value}
theorem StR.grow (h : StR W bs bt s0 s1 l0 l1 m0 m1 v0 v1 w) (hb : Below w.heap.size w w') : StR W bs bt s0 s1 l0 l1 m0 m1 v0 v1 w' :=
  ⟨h.below.trans (hb.mono h.below.size), h.cs.of_same (hb.block _ h.cs.lt), h.ct.of_same (hb.block _ h.ct.lt), h.h0.of_same (hb.block _ h.h0.lt), h.h1.of_same (hb.block _ h.h1.lt),
    (h.t0.grow hb).mono (fun x hx => ⟨Nat.lt_of_lt_of_le hx.1 hb.size, hx.2⟩), (h.t1.grow hb).mono (fun x hx => ⟨Nat.lt_of_lt_of_le hx.1 hb.size, hx.2⟩), h.os, h.ot, h.o0, h.o1, h.d1, h.d2, h.d3, h.d4, h.d5, h.d6⟩
theorem cs_stp {b : Nat} (hs : Stp (· = b) w w') {k : Nat} (hk : k < w.heap.size) (hne : k ≠ b) : w'.heap[k]? = w.heap[k]? := hs.keep k hk hne
theorem StF.ne {n x : Nat} (h : StF bs bt s0 s1 n x) : x < n ∧ x ≠ bs ∧ x ≠ bt ∧ x ≠ s0 ∧ x ≠ s1 := h
theorem stp_cell (w : World) (b j : Nat) (v : Value) : Stp (· = b) w (w.setCell ⟨b, j, none⟩ v) := (Stp.refl (· = b) w).set (a := ⟨b, j, none⟩) (.inl (.inl rfl)) v
theorem StR.wrote0 (h : StR W bs bt s0 s1 l0 l1 m0 m1 v0 v1 w) (hs : Stp (· = s0) w w') (hS : ShaIs w' s0 l [] 56) : StR W bs bt s0 s1 l l1 m0 m1 v0 v1 w' :=
  ⟨h.below.trans (hs.below (B := W.heap.size) (fun k hk => by have := h.o0; omega) h.below.size), h.cs.of_same (cs_stp hs h.cs.lt (Ne.symm h.d3)), h.ct.of_same (cs_stp hs h.ct.lt (Ne.symm h.d4)), hS, h.h1.of_same (cs_stp hs h.h1.lt (Ne.symm h.d2)),
    (h.t0.same (fun x hx => cs_stp hs (StF.ne hx).1 (by have := StF.ne hx; omega))).mono (fun x hx => ⟨Nat.lt_of_lt_of_le hx.1 hs.size, hx.2⟩),
    (h.t1.same (fun x hx => cs_stp hs (StF.ne hx).1 (by have := StF.ne hx; omega))).mono (fun x hx => ⟨Nat.lt_of_lt_of_le hx.1 hs.size, hx.2⟩), h.os, h.ot, h.o0, h.o1, h.d1, h.d2, h.d3, h.d4, h.d5, h.d6⟩
theorem StR.text0 (h : StR W bs bt s0 s1 l0 l1 m0 m1 v0 v1 w) (hm : BV w (StF bs bt s0 s1 w.heap.size) v m) : StR W bs bt s0 s1 l0 l1 m m1 v v1 (w.setCell ⟨bt, 0, none⟩ v) := by
  have hs := stp_cell w bt 0 v
  exact ⟨h.below.setCell (p := ⟨bt, 0, none⟩) h.ot v, h.cs.of_same (cs_stp hs h.cs.lt h.d1), h.ct.set 0 v, h.h0.of_same (cs_stp hs h.h0.lt h.d4), h.h1.of_same (cs_stp hs h.h1.lt h.d6),
    ((hm.same (fun x hx => cs_stp hs (StF.ne hx).1 (by have := StF.ne hx; omega))).mono (fun x hx => ⟨by simpa using hx.1, hx.2⟩)), ((h.t1.same (fun x hx => cs_stp hs (StF.ne hx).1 (by have := StF.ne hx; omega))).mono (fun x hx => ⟨by simpa using hx.1, hx.2⟩)), h.os, h.ot, h.o0, h.o1, h.d1, h.d2, h.d3, h.d4, h.d5, h.d6⟩
theorem StR.clone0 (h : StR W bs bt s0 s1 l0 l1 m0 m1 v0 v1 w) (hb : Below w.heap.size w w1) (hS : ShaIs w1 w.heap.size l0 [] 56) (hz : w1.heap.size = w.heap.size + 1) :
    StR W bs bt s0 w.heap.size l0 l0 m0 m1 v0 v1 (w1.setCell ⟨bs, 1, none⟩ (.pointer (some ⟨w.heap.size, 0, none⟩))) := by
  have hs := stp_cell w1 bs 1 (.pointer (some ⟨w.heap.size, 0, none⟩))
  have hk : ∀ x, x < w.heap.size → bs ≠ x → (w1.setCell ⟨bs, 1, none⟩ (.pointer (some ⟨w.heap.size, 0, none⟩))).heap[x]? = w.heap[x]? := fun x hx hne => (cs_stp hs (by omega) (Ne.symm hne)).trans (hb.block x hx)
  have hS2 := hS.of_same (cs_stp hs (by omega) (by have := h.cs.lt; omega))
  exact ⟨(h.below.trans (hb.mono h.below.size)).setCell (p := ⟨bs, 1, none⟩) h.os _, (h.cs.of_same (hb.block _ h.cs.lt)).set 1 _, h.ct.of_same (hk _ h.ct.lt h.d1), h.h0.of_same (hk _ h.h0.lt (Ne.symm (by have := h.d3; omega))), hS2,
    (h.t0.same (fun x hx => hk x (StF.ne hx).1 (Ne.symm (StF.ne hx).2.1))).mono (fun x hx => by have := StF.ne hx; exact ⟨by simp; omega, by omega, by omega, by omega, by omega⟩),
    (h.t1.same (fun x hx => hk x (StF.ne hx).1 (Ne.symm (StF.ne hx).2.1))).mono (fun x hx => by have := StF.ne hx; exact ⟨by simp; omega, by omega, by omega, by omega, by omega⟩), h.os, h.ot, h.o0, h.below.size, h.d1, Nat.ne_of_lt h.h0.lt, h.d3, h.d4, Ne.symm (Nat.ne_of_lt h.cs.lt), Ne.symm (Nat.ne_of_lt h.ct.lt)⟩
theorem StR.wrote1 (h : StR W bs bt s0 s1 l0 l1 m0 m1 v0 v1 w) (hs : Stp (· = s1) w w') (hS : ShaIs w' s1 l [] 56) : StR W bs bt s0 s1 l0 l m0 m1 v0 v1 w' :=
  ⟨h.below.trans (hs.below (B := W.heap.size) (fun k hk => by have := h.o1; omega) h.below.size), h.cs.of_same (cs_stp hs h.cs.lt (Ne.symm h.d5)), h.ct.of_same (cs_stp hs h.ct.lt (Ne.symm h.d6)), h.h0.of_same (cs_stp hs h.h0.lt h.d2), hS,
    (h.t0.same (fun x hx => cs_stp hs (StF.ne hx).1 (by have := StF.ne hx; omega))).mono (fun x hx => ⟨Nat.lt_of_lt_of_le hx.1 hs.size, hx.2⟩),
    (h.t1.same (fun x hx => cs_stp hs (StF.ne hx).1 (by have := StF.ne hx; omega))).mono (fun x hx => ⟨Nat.lt_of_lt_of_le hx.1 hs.size, hx.2⟩), h.os, h.ot, h.o0, h.o1, h.d1, h.d2, h.d3, h.d4, h.d5, h.d6⟩
theorem StR.text1 (h : StR W bs bt s0 s1 l0 l1 m0 m1 v0 v1 w) (hm : BV w (StF bs bt s0 s1 w.heap.size) v m) : StR W bs bt s0 s1 l0 l1 m0 m v0 v (w.setCell ⟨bt, 1, none⟩ v) := by
  have hs := stp_cell w bt 1 v
  exact ⟨h.below.setCell (p := ⟨bt, 1, none⟩) h.ot v, h.cs.of_same (cs_stp hs h.cs.lt h.d1), h.ct.set 1 v, h.h0.of_same (cs_stp hs h.h0.lt h.d4), h.h1.of_same (cs_stp hs h.h1.lt h.d6),
    ((h.t0.same (fun x hx => cs_stp hs (StF.ne hx).1 (by have := StF.ne hx; omega))).mono (fun x hx => ⟨by simpa using hx.1, hx.2⟩)), ((hm.same (fun x hx => cs_stp hs (StF.ne hx).1 (by have := StF.ne hx; omega))).mono (fun x hx => ⟨by simpa using hx.1, hx.2⟩)), h.os, h.ot, h.o0, h.o1, h.d1, h.d2, h.d3, h.d4, h.d5, h.d6⟩
theorem StR.clone1 (h : StR W bs bt s0 s1 l0 l1 m0 m1 v0 v1 w) (hb : Below w.heap.size w w1) (hS : ShaIs w1 w.heap.size l1 [] 56) (hz : w1.heap.size = w.heap.size + 1) :
    StR W bs bt w.heap.size s1 l1 l1 m0 m1 v0 v1 (w1.setCell ⟨bs, 0, none⟩ (.pointer (some ⟨w.heap.size, 0, none⟩))) := by
  have hs := stp_cell w1 bs 0 (.pointer (some ⟨w.heap.size, 0, none⟩))
  have hk : ∀ x, x < w.heap.size → bs ≠ x → (w1.setCell ⟨bs, 0, none⟩ (.pointer (some ⟨w.heap.size, 0, none⟩))).heap[x]? = w.heap[x]? := fun x hx hne => (cs_stp hs (by omega) (Ne.symm hne)).trans (hb.block x hx)
  have hS2 := hS.of_same (cs_stp hs (by omega) (by have := h.cs.lt; omega))
  exact ⟨(h.below.trans (hb.mono h.below.size)).setCell (p := ⟨bs, 0, none⟩) h.os _, (h.cs.of_same (hb.block _ h.cs.lt)).set 0 _, h.ct.of_same (hk _ h.ct.lt h.d1), hS2, h.h1.of_same (hk _ h.h1.lt (Ne.symm (by have := h.d5; omega))),
    (h.t0.same (fun x hx => hk x (StF.ne hx).1 (Ne.symm (StF.ne hx).2.1))).mono (fun x hx => by have := StF.ne hx; exact ⟨by simp; omega, by omega, by omega, by omega, by omega⟩),
    (h.t1.same (fun x hx => hk x (StF.ne hx).1 (Ne.symm (StF.ne hx).2.1))).mono (fun x hx => by have := StF.ne hx; exact ⟨by simp; omega, by omega, by omega, by omega, by omega⟩), h.os, h.ot, h.below.size, h.o1, h.d1, Ne.symm (Nat.ne_of_lt h.h1.lt), Ne.symm (Nat.ne_of_lt h.cs.lt), Ne.symm (Nat.ne_of_lt h.ct.lt), h.d5, h.d6⟩
end
end Go.Proofs.YtiakmpnmooobbaaDoor
