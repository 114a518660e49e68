/- 'append([]byte(s), ..)': onto the row that a conversion has made. -/
import Derived.Test.YtcpcnfedbffecaaDoorNewB
import Derived.Test.YtcpcnfedbffecaaDoorShaN
import Derived.ArgAppend
import Derived.Laws.IdiomCopy
namespace Go.Proofs.YtcpcnfedbffecaaDoor
open Go.RowKit
section
variable {w w0 : World} {B : Nat} {l m : List UInt8} {v : Value} {F : Nat → Prop}
/-- A row of the call's own that may be appended to: its cells are there, and none up to its capacity is frozen. -/
def RowC (B : Nat) (w0 : World) (l : List UInt8) (v : Value) (w : World) : Prop :=
  Below B w0 w ∧ B ≤ w.heap.size ∧ ∃ b c, v = .slice (some ⟨b, 0, none⟩) l.length c ∧ B ≤ b ∧ b < w.heap.size ∧ l.length ≤ c ∧ c ≤ maxLen ∧ (∀ i, (h : i < l.length) → w.cell? ⟨b, i, none⟩ = some (.int .u8 (l[i].toNat : Int))) ∧ (∀ i, i < c → (w.cell? ⟨b, i, none⟩).isSome = true ∧ w.frozen? ⟨b, i, none⟩ = false)
theorem RowC.bv (h : RowC B w0 l v w) : BV w (fun k => B ≤ k ∧ k < w.heap.size) v l := by
  obtain ⟨_, _, b, c, rfl, h1, h2, h3, h4, h5, _⟩ := h
  exact ⟨_, c, rfl, h3, h4, (fun e => by cases e), fun _ => ⟨b, 0, rfl, ⟨h1, h2⟩, fun i hi => by rw [Nat.zero_add]; exact h5 i hi⟩⟩
theorem RowC.grow {w' : World} (h : RowC B w0 l v w) (hb : Below w.heap.size w w') : RowC B w0 l v w' := by
  obtain ⟨h0, hBs, b, c, rfl, h1, h2, h3, h4, h5, h6⟩ := h
  exact ⟨h0.trans (hb.mono hBs), Nat.le_trans hBs hb.size, b, c, rfl, h1, Nat.lt_of_lt_of_le h2 hb.size, h3, h4, fun i hi => (hb.cell (p := ⟨b, i, none⟩) h2).trans (h5 i hi), fun i hi => ⟨by rw [hb.cell (p := ⟨b, i, none⟩) h2]; exact (h6 i hi).1, by rw [hb.frozen (p := ⟨b, i, none⟩) h2]; exact (h6 i hi).2⟩⟩
theorem conv_row (w : World) (s : ByteArray) (hs : s.size ≤ 1000000000000) : ∃ c w', (convert 9 39 (.string s)).run Tryd.prog w = .ok (.slice (some ⟨w.heap.size, 0, none⟩) s.size c) w' ∧ RowC w.heap.size w s.data.toList (.slice (some ⟨w.heap.size, 0, none⟩) s.size c) w' ∧ w'.heap.size = w.heap.size + 1 := by
  have hl : s.data.toList.length = s.size := rfl
  have hge := grownCap_ge w s.size 0 5
  have hcm := grownCap_le_maxLen w s.size 0 5 (by unfold maxLen; omega)
  have hrow := run_bytes_of_string (P := Tryd.prog) w 9 39 5 s Tryd.underlying9 Tryd.underlying39 Tryd.underlying5
  obtain ⟨c, hc⟩ : ∃ c, grownCap w s.size 0 5 = c := ⟨_, rfl⟩
  rw [hc] at hge hcm hrow
  have hsz : (bytesRow s c).size = c := by
    simp only [bytesRow, Array.size_append, Array.size_map, Array.size_replicate]
    show s.size + (c - s.size) = c; omega
  refine ⟨c, _, hrow, ⟨(Below.refl _ _).drew.alloc (Nat.le_refl _) _, by simp, w.heap.size, c, by rw [hl], Nat.le_refl _, by simp, by rw [hl]; exact hge, hcm, fun i hi => ?_, fun i hi => ⟨?_, ?_⟩⟩, by simp⟩
  · rw [cell_of_row _ w.heap.size i _ _ _ (heap_alloc_new w.drew _)]
    have hi2 : i < s.size := by rw [← hl]; exact hi
    simp [bytesRow, Array.getElem?_append, hi2]
  · rw [cell_of_row _ w.heap.size i _ _ _ (heap_alloc_new w.drew _)]
    rw [Array.getElem?_eq_getElem (by omega)]; rfl
  · have hf := World.frozen?_alloc_mark w.drew (bytesRow s c) 5 (bytesRow s c).size ((bytesRow s c).size + 1) i
    have hz : decide ((bytesRow s c).size ≤ i) = false := decide_eq_false (by omega)
    rw [hz, Bool.false_and] at hf
    exact hf
theorem run_append_row (h : RowC B w0 l v w) {xv : Value} (hx : BV w F xv m) (hm : 0 < m.length) (hn : l.length + m.length ≤ 1000000000000) (ty : TypeId) :
    ∃ a c w', (Builtin.append_ #[39, 39] ty #[v, xv]).run Tryd.prog w = .ok (.slice a (l.length + m.length) c) w' ∧ Below B w0 w' ∧ BV w' (fun k => B ≤ k ∧ k < w'.heap.size) (.slice a (l.length + m.length) c) (l ++ m) := by
  obtain ⟨i0, hi, hz0, hz1, hz2⟩ := info_parts Tryd.infoB
  obtain ⟨hb, hBs, b, c, rfl, h1, h2, h3, h4, h5, h6⟩ := h
  obtain ⟨xa, xc, rfl, x1, x2, x3, x4⟩ := id hx
  obtain ⟨xb, xo, rfl, _, _⟩ := x4 hm
  by_cases hr : l.length + m.length ≤ c
  · have hrun := run_append_room_cells (P := Tryd.prog) w 39 ty 5 i0 Tryd.underlying39 hi b 0 l.length c ⟨xb, xo, none⟩ m.length xc (By m) (by rw [hz1]; simp) (hx.cells.2.2 _ rfl) (By_oneCell m) hr
      (fun j hj => by rw [By_length] at hj; rw [hz1]; exact (h6 _ (by omega)).1) (fun j hj => by rw [By_length] at hj; rw [hz1]; exact (h6 _ (by omega)).2)
    rw [hz1, Nat.mul_one, Nat.zero_add] at hrun
    obtain ⟨q1, q2, q3, q4, q5⟩ := heap_setCells (b := b) (By m) l.length w
    refine ⟨_, c, _, hrun, ⟨q3.trans hb.os, q4.trans hb.tape, q5.trans hb.output, by rw [q2]; exact hb.size, fun j hj => (q1 j (by omega)).trans (hb.block j hj)⟩, ?_⟩
    refine ⟨_, c, by rw [List.length_append], by rw [List.length_append]; exact hr, h4, (fun e => by cases e), fun _ => ⟨b, 0, rfl, ⟨h1, by rw [q2]; exact h2⟩, fun i hi2 => ?_⟩⟩
    rw [Nat.zero_add]
    rw [List.length_append] at hi2
    by_cases hil : i < l.length
    · rw [World.cell?_setCells_out b (By m) l.length w ⟨b, i, none⟩ (fun _ _ => .inl hil), h5 i hil]
      simp [List.getElem_append_left hil]
    · obtain ⟨j, rfl⟩ : ∃ j, i = l.length + j := ⟨i - l.length, by omega⟩
      rw [World.cell?_setCells_in b (By m) l.length w (fun k hk => (h6 _ (by rw [By_length] at hk; omega)).1) j (by simp; omega)]
      have := By_get m j (by omega)
      rw [List.getElem?_eq_getElem (by simp; omega)] at this
      simp [List.getElem_append_right, By]
  · obtain ⟨v', w', hrun, hown, hgrow⟩ := run_append_arg_grows (P := Tryd.prog) w 39 ty 5 i0 (.int .u8 0) 1 1 Tryd.underlying39 hi hz0 hz1 hz2 rfl (by omega) ⟨b, 0, none⟩ l.length c (By l) (by simp) (fun j u hj => by
        have hj2 : j < l.length := by have := (List.getElem?_eq_some_iff.1 hj).1; simpa using this
        have e : (⟨b, 0, none⟩ : Addr).add j = ⟨b, j, none⟩ := by unfold Addr.add; split <;> simp_all
        rw [e, h5 j hj2, ← By_get l j hj2, hj]) ⟨xb, xo, none⟩ m.length xc (By m) (by simp) (hx.cells.2.2 _ rfl) (by omega) (by unfold maxLen; omega) (by omega)
    have hO : NewB w.heap.size w (l ++ m) v' w' := by
      have st : Stp (fun _ => False) w w' := (Stp.refl _ _).grown hgrow (fun x hx => by cases hx)
      have hbl : Below w.heap.size w w' := st.below (fun x hx => hx.elim) (Nat.le_refl _)
      obtain ⟨o1, o2⟩ := hown
      rw [← By_append] at o1 o2
      refine ⟨hbl, ⟨by simp, ?_⟩, hbl.size, fun g e => ?_⟩
      · rcases o2 with ⟨rfl, h0⟩ | ⟨g, cap, cur, he, _, r⟩
        · omega
        · exact .inr ⟨g, cap, cur, by rw [List.length_append]; exact he, Nat.zero_le _, by rw [List.length_append]; exact r⟩
      · rcases o2 with ⟨rfl, h0⟩ | ⟨g2, cap, cur, he, hg2, _⟩
        · cases e
        · rw [he] at e; simp only [Value.ownBlock, Option.some.injEq] at e; omega
    obtain ⟨a, c', rfl, _⟩ := hO.2.1.form
    rw [List.length_append] at hrun hO
    exact ⟨a, c', w', hrun, hb.trans (hO.1.mono hBs), hO.2.1.bv.mono (fun k hk => ⟨Nat.le_trans hBs (hO.2.2.2 k hk), hO.2.1.lt k hk⟩)⟩
theorem wpList_append_row {ops : Array Oper} {rest : List Oper} {o : Oper} {a : Act} {Q : Exit → Act → World → Prop} (hgd : o.guard = none) (s x : Operand)
    (ho : o.op = .call { callee := .builtin .append, args := #[s, x], argTypes := #[39, 39] })
    (sv xv : Value) (hs : a.eval s = sv) (hx : a.eval x = xv) (h : RowC B w0 l sv w) (hb : BV w F xv m) (hm : 0 < m.length) (hn : l.length + m.length ≤ 1000000000000)
    (hK : ∀ (b : Option Addr) (c : Nat) (w' : World), Below B w0 w' → BV w' (fun k => B ≤ k ∧ k < w'.heap.size) (.slice b (l.length + m.length) c) (l ++ m) → wpList Tryd.prog ops Q rest (a.put o.dst (.slice b (l.length + m.length) c)) w') : wpList Tryd.prog ops Q (o :: rest) a w := by
  refine wpList_plain hgd fun K hK2 => ?_
  obtain ⟨b, c, w', hrun, h1, h2⟩ := run_append_row h hb hm hn o.type
  unfold Oper.wp
  simp only [execOp, ho, resolve, invoke, builtin, Sem.run_bind, Sem.run_pure, Result.andThen_ok, List.map_toArray, List.map_cons, List.map_nil, hs, hx, hrun]
  exact hK2 _ _ (hK b c w' h1 h2)
end
end Go.Proofs.YtcpcnfedbffecaaDoor
