/- 'append' onto the row of a conversion, again and again; 'append(x, make([]byte, n)...)'. -/
import Derived.Test.YtcpcnfedbffecaaDoorConvA
import Derived.Lib.AppendZeros
namespace Go.Proofs.YtcpcnfedbffecaaDoor
open Go.RowKit
section
variable {w w0 : World} {B : Nat} {l m : List UInt8} {v : Value} {F : Nat → Prop}
/-- A block of new cells is such a row. -/
theorem RowC.made {W : World} {fr : Nat × Nat} {cs : Array Value} {cap : Nat} (hb : Below B w0 w) (hB : B ≤ w.heap.size) (hW : w.heap.size ≤ W.heap.size) (hbel : Below w.heap.size w W) (hg : W.heap[w.heap.size]? = some (.cells cs 5 fr)) (h0 : fr = (0, 0)) (hl : cs.toList.take l.length = By l) (hc : cs.size = cap) (hlc : l.length ≤ cap) (hcm : cap ≤ maxLen) :
    RowC B w0 l (.slice (some ⟨w.heap.size, 0, none⟩) l.length cap) W := by
  subst h0
  have hlt : w.heap.size < W.heap.size := by
    by_cases h : w.heap.size < W.heap.size
    · exact h
    · rw [Array.getElem?_eq_none (by omega)] at hg; cases hg
  refine ⟨hb.trans (hbel.mono hB), Nat.le_trans hB hW, w.heap.size, cap, rfl, hB, hlt, hlc, hcm, fun i hi => ?_, fun i hi => ⟨?_, ?_⟩⟩
  · rw [cell_of_row _ w.heap.size i _ _ _ hg]
    have h1 := By_get l i hi
    rw [← hl, List.getElem?_take, if_pos hi] at h1
    simpa using h1
  · rw [cell_of_row _ w.heap.size i _ _ _ hg, Array.getElem?_eq_getElem (by omega)]; rfl
  · exact frozen_of_row _ _ i _ _ hg
/-- Cells written into its room. -/
theorem RowC.wrote {b c : Nat} (hb0 : Below B w0 w) (hBs : B ≤ w.heap.size) (h1 : B ≤ b) (h2 : b < w.heap.size) (h4 : c ≤ maxLen) (h5 : ∀ i, (h : i < l.length) → w.cell? ⟨b, i, none⟩ = some (.int .u8 (l[i].toNat : Int))) (h6 : ∀ i, i < c → (w.cell? ⟨b, i, none⟩).isSome = true ∧ w.frozen? ⟨b, i, none⟩ = false) (hr : l.length + m.length ≤ c) :
    RowC B w0 (l ++ m) (.slice (some ⟨b, 0, none⟩) (l.length + m.length) c) (w.setCells b l.length (By m)) := by
  obtain ⟨q1, q2, q3, q4, q5⟩ := heap_setCells (b := b) (By m) l.length w
  refine ⟨⟨q3.trans hb0.os, q4.trans hb0.tape, q5.trans hb0.output, by rw [q2]; exact hb0.size, fun j hj => (q1 j (by omega)).trans (hb0.block j hj)⟩, by rw [q2]; exact hBs, b, c, by rw [List.length_append], h1, by rw [q2]; exact h2, by rw [List.length_append]; exact hr, h4, fun i hi2 => ?_, fun i hi => ⟨?_, ?_⟩⟩
  · rw [List.length_append] at hi2
    by_cases hil : i < l.length
    · rw [World.cell?_setCells_out b (By m) l.length w ⟨b, i, none⟩ (fun _ _ => .inl hil), h5 i hil]
      simp [List.getElem_append_left hil]
    · obtain ⟨j, rfl⟩ : ∃ j, i = l.length + j := ⟨i - l.length, by omega⟩
      rw [World.cell?_setCells_in b (By m) l.length w (fun k hk => (h6 _ (by rw [By_length] at hk; omega)).1) j (by simp; omega)]
      have := By_get m j (by omega)
      rw [List.getElem?_eq_getElem (by simp; omega)] at this
      simp [List.getElem_append_right, By]
  · by_cases hin : l.length ≤ i ∧ i < l.length + m.length
    · obtain ⟨j, rfl⟩ : ∃ j, i = l.length + j := ⟨i - l.length, by omega⟩
      rw [World.cell?_setCells_in b (By m) l.length w (fun k hk => (h6 _ (by rw [By_length] at hk; omega)).1) j (by simp; omega)]
      rfl
    · rw [World.cell?_setCells_out b (By m) l.length w ⟨b, i, none⟩ (fun _ _ => by rw [By_length]; show i < l.length ∨ _ ≤ i; omega)]
      exact (h6 i hi).1
  · rw [World.frozen?_setCells]
    exact (h6 i hi).2
theorem run_append_rowC (h : RowC B w0 l v w) {xv : Value} (hx : BV w F xv m) (hm : 0 < m.length) (hn : l.length + m.length ≤ 1000000000000) (ty : TypeId) :
    ∃ a c w', (Builtin.append_ #[39, 39] ty #[v, xv]).run Tryd.prog w = .ok (.slice a (l.length + m.length) c) w' ∧ RowC B w0 (l ++ m) (.slice a (l.length + m.length) c) w' := by
  obtain ⟨i0, hi, hz0, hz1, hz2⟩ := info_parts Tryd.infoB
  obtain ⟨hb, hBs, b, c, rfl, h1, h2, h3, h4, h5, h6⟩ := h
  obtain ⟨xa, xc, rfl, x1, x2, x3, x4⟩ := id hx
  obtain ⟨xb, xo, rfl, _, _⟩ := x4 hm
  by_cases hr : l.length + m.length ≤ c
  · have hrun := run_append_room_cells (P := Tryd.prog) w 39 ty 5 i0 Tryd.underlying39 hi b 0 l.length c ⟨xb, xo, none⟩ m.length xc (By m) (by rw [hz1]; simp) (hx.cells.2.2 _ rfl) (By_oneCell m) hr
      (fun j hj => by rw [By_length] at hj; rw [hz1]; exact (h6 _ (by omega)).1) (fun j hj => by rw [By_length] at hj; rw [hz1]; exact (h6 _ (by omega)).2)
    rw [hz1, Nat.mul_one, Nat.zero_add] at hrun
    exact ⟨_, c, _, hrun, RowC.wrote hb hBs h1 h2 h4 h5 h6 hr⟩
  · have hrun := run_append_grow (P := Tryd.prog) w 39 ty 5 i0 (.int .u8 0) Tryd.underlying39 hi hz0 ⟨b, 0, none⟩ l.length c (By l) (by rw [hz1]; simp) (fun j u hj => by
        have hj2 : j < l.length := by have := (List.getElem?_eq_some_iff.1 hj).1; simpa using this
        have e : (⟨b, 0, none⟩ : Addr).add j = ⟨b, j, none⟩ := by unfold Addr.add; split <;> simp_all
        rw [e, h5 j hj2, ← By_get l j hj2, hj]) ⟨xb, xo, none⟩ m.length xc (By m) (by rw [hz1]; simp) (hx.cells.2.2 _ rfl) (by omega) (by omega) (growslice_fits (by omega) (by rw [hz2]; omega))
    refine ⟨_, _, _, hrun, ?_⟩
    have hge := grownCap_ge w (l.length + m.length) c 5
    have hcm := grownCap_le_maxLen w (l.length + m.length) c 5 (by unfold maxLen; omega)
    have := RowC.made (W := w.drew.alloc (.cells ((By l).toArray ++ (By m).toArray ++ Builtin.zeroCells (Value.int .u8 0).cells (grownCap w (l.length + m.length) c 5 - (l.length + m.length))) 5)) (cs := (By l).toArray ++ (By m).toArray ++ Builtin.zeroCells (Value.int .u8 0).cells (grownCap w (l.length + m.length) c 5 - (l.length + m.length))) (fr := (0, 0)) (l := l ++ m) (cap := grownCap w (l.length + m.length) c 5) hb hBs (by simp) ((Below.refl _ _).drew.alloc (Nat.le_refl _) _) (heap_alloc_new w.drew _) rfl (by
      rw [Array.toList_append, Array.toList_append, By_append, List.length_append]
      exact List.take_left' (by simp)) (by rw [Array.size_append, Array.size_append, size_zeroCells, show (Value.int IntKind.u8 0).cells.size = 1 from rfl]; simp; omega) (by rw [List.length_append]; exact hge) hcm
    rw [List.length_append] at this
    exact this
theorem wpList_append_rowC {ops : Array Oper} {rest : List Oper} {o : Oper} {a : Act} {Q : Exit → Act → World → Prop} (hgd : o.guard = none) (s x : Operand)
    (ho : o.op = .call { callee := .builtin .append, args := #[s, x], argTypes := #[39, 39] })
    (sv xv : Value) (hs : a.eval s = sv) (hx : a.eval x = xv) (h : RowC B w0 l sv w) (hb : BV w F xv m) (hm : 0 < m.length) (hn : l.length + m.length ≤ 1000000000000)
    (hK : ∀ (b : Option Addr) (c : Nat) (w' : World), RowC B w0 (l ++ m) (.slice b (l.length + m.length) c) w' → wpList Tryd.prog ops Q rest (a.put o.dst (.slice b (l.length + m.length) c)) w') : wpList Tryd.prog ops Q (o :: rest) a w := by
  obtain ⟨b, c, w', hrun, h1⟩ := run_append_rowC h hb hm hn o.type
  exact Lib.wpList_append_run w hgd s x _ _ ho _ _ hs hx _ _ hrun (hK b c w' h1)
/-- 'append(v, make([]byte, n)...)'. -/
theorem run_append_zeros (h : RowC B w0 l v w) (n : Nat) (hn : l.length + n ≤ 1000000000000) (ty : TypeId) :
    ∃ a c w', (Builtin.append_ #[39, 3] ty #[v, .int .i64 (n : Int)]).run Tryd.prog w = .ok (.slice a (l.length + n) c) w' ∧ RowC B w0 (l ++ List.replicate n 0) (.slice a (l.length + n) c) w' := by
  obtain ⟨i0, hi, hz0, hz1, hz2⟩ := info_parts Tryd.infoB
  obtain ⟨hb, hBs, b, c, rfl, h1, h2, h3, h4, h5, h6⟩ := h
  have hw : IntKind.i64.wrap (n : Int) = n := by rw [IntKind.wrap_i64]; omega
  have hneg : ¬ ((n : Int) < 0) := by omega
  have h48i : ¬ (281474976710656 < (n : Int) * (i0.bytes : Int)) := by rw [hz2]; omega
  have hzl : (Builtin.zeroCells (Value.int .u8 0).cells n).toList = By (List.replicate n 0) := by
    rw [show (Value.int IntKind.u8 0).cells = #[.int .u8 0] from rfl, By_zero, Builtin.zeroCells]
    apply List.ext_getElem?
    intro j
    by_cases hj : j < n
    · simp [hj, Nat.mod_one]
    · simp [hj]
  by_cases hr : l.length + n ≤ c
  · by_cases h0 : n = 0
    · subst h0
      refine ⟨_, c, w, ?_, by rw [List.replicate_zero, List.append_nil]; exact ⟨hb, hBs, b, c, rfl, h1, h2, h3, h4, h5, h6⟩⟩
      have hst0 : (storeCells (Addr.add ⟨b, 0, none⟩ l.length) [] 0).run Tryd.prog w = .ok () w := rfl
      simp [Builtin.append_, run_underlying Tryd.underlying39, run_underlying Tryd.underlying3, sizeOf, typeInfo, zeroValue, hi, hz0, hz1, asInt, asIntOf, show IntKind.i64.wrap 0 = 0 from by decide, hst0, h3]
    · have hst := run_storeCells_cells (P := Tryd.prog) b l.length (By (List.replicate n 0)) 0 w (by intro j hj; simp at hj; simpa using (h6 (l.length + j) (by omega)).1) (by intro j hj; simp at hj; simpa using (h6 (l.length + j) (by omega)).2) (By_oneCell _)
      simp only [Nat.add_zero] at hst
      have := RowC.wrote (m := List.replicate n 0) hb hBs h1 h2 h4 h5 h6 (by simpa using hr)
      simp only [List.length_replicate] at this
      refine ⟨_, c, _, ?_, this⟩
      simp [Builtin.append_, run_underlying Tryd.underlying39, run_underlying Tryd.underlying3, sizeOf, typeInfo, zeroValue, hi, hz0, hz1, asInt, asIntOf, hw, hneg, h48i, hr, h0, Addr.add_lit, hzl, hst]
  · have h0 : n ≠ 0 := by omega
    have hrn : ¬ (l.length + n ≤ c) := hr
    have h63' : ¬ (9223372036854775807 < ((l.length : Int) + (n : Int))) := by omega
    have h48' : ¬ (281474976710656 < Builtin.nextslicecap (l.length + n) c * i0.bytes) := by
      have := growslice_fits (need := l.length + n) (old := c) (bytes := i0.bytes) (by omega) (by rw [hz2]; omega)
      omega
    have hfo := run_firstCells_some (P := Tryd.prog) w.drew i0.size l.length ⟨b, 0, none⟩ l.length c (By l) (by rw [hz1]; simp) (fun j u hj => by
        have hj2 : j < l.length := by have := (List.getElem?_eq_some_iff.1 hj).1; simpa using this
        have e : (⟨b, 0, none⟩ : Addr).add j = ⟨b, j, none⟩ := by unfold Addr.add; split <;> simp_all
        rw [e, World.cell?_drew, h5 j hj2, ← By_get l j hj2, hj])
    rw [hz1] at hfo
    have hge := grownCap_ge w (l.length + n) c 5
    have hcm := grownCap_le_maxLen w (l.length + n) c 5 (by unfold maxLen; omega)
    have := RowC.made (W := w.drew.alloc (.cells ((By l).toArray ++ (Builtin.zeroCells (Value.int .u8 0).cells n ++ Builtin.zeroCells (Value.int .u8 0).cells (grownCap w (l.length + n) c 5 - (l.length + n)))) 5)) (cs := (By l).toArray ++ (Builtin.zeroCells (Value.int .u8 0).cells n ++ Builtin.zeroCells (Value.int .u8 0).cells (grownCap w (l.length + n) c 5 - (l.length + n)))) (fr := (0, 0)) (l := l ++ List.replicate n 0) (cap := grownCap w (l.length + n) c 5) hb hBs (by simp) ((Below.refl _ _).drew.alloc (Nat.le_refl _) _) (heap_alloc_new w.drew _) rfl (by
      rw [Array.toList_append, Array.toList_append, hzl, By_append, List.length_append, ← List.append_assoc]
      exact List.take_left' (by simp)) (by rw [Array.size_append, Array.size_append, size_zeroCells, size_zeroCells, show (Value.int IntKind.u8 0).cells.size = 1 from rfl]; simp; omega) (by rw [List.length_append, List.length_replicate]; exact hge) hcm
    rw [List.length_append, List.length_replicate] at this
    refine ⟨_, _, _, ?_, this⟩
    simp [Builtin.append_, run_underlying Tryd.underlying39, run_underlying Tryd.underlying3, sizeOf, typeInfo, zeroValue, hi, hz0, hz1, asInt, asIntOf, hw, hneg, h48i, hrn, h0, h63', h48', Question.forced, hfo, newRow, grownCap]
theorem wpList_append_zeros {ops : Array Oper} {rest : List Oper} {o : Oper} {a : Act} {Q : Exit → Act → World → Prop} (hgd : o.guard = none) (s x : Operand)
    (ho : o.op = .call { callee := .builtin .append, args := #[s, x], argTypes := #[39, 3] })
    (sv : Value) (n : Nat) (hs : a.eval s = sv) (hx : a.eval x = .int .i64 (n : Int)) (h : RowC B w0 l sv w) (hn : l.length + n ≤ 1000000000000)
    (hK : ∀ (b : Option Addr) (c : Nat) (w' : World), RowC B w0 (l ++ List.replicate n 0) (.slice b (l.length + n) c) w' → wpList Tryd.prog ops Q rest (a.put o.dst (.slice b (l.length + n) c)) w') : wpList Tryd.prog ops Q (o :: rest) a w := by
  obtain ⟨b, c, w', hrun, h1⟩ := run_append_zeros h n hn o.type
  exact Lib.wpList_append_run w hgd s x _ _ ho _ _ hs hx _ _ hrun (hK b c w' h1)
end
end Go.Proofs.YtcpcnfedbffecaaDoor
