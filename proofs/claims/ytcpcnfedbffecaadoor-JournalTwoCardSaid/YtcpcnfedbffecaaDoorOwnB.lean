/- Byte slices that the call itself has made and appends to: 'OwnB'. -/
import Derived.Test.YtcpcnfedbffecaaDoorChecked
import Derived.Test.YtcpcnfedbffecaaDoorLaws
import Derived.Maps.AppendAt
namespace Go.Proofs.YtcpcnfedbffecaaDoor
open Go.RowKit
theorem Tryd.infoB : (Tryd.prog.info? 5).map (fun i => (i.zero, i.size, i.bytes)) = some (some (.int .u8 0), 1, 1) := by kernel_rfl
/-- v is nil and l empty, or v begins at the head of an unfrozen block of bytes that begins with l. -/
def OwnB (w : World) (v : Value) (l : List UInt8) : Prop := w.ownsRow 0 5 1 v l.length (By l)
section
variable {w w' : World} {v : Value} {l : List UInt8} {F : Nat → Prop}
theorem OwnB.nil (w : World) : OwnB w (.slice none 0 0) [] := World.ownsRow_nil _ _ _ _
theorem OwnB.form (h : OwnB w v l) : ∃ a c, v = .slice a l.length c ∧ l.length ≤ c ∧ c ≤ maxLen ∧ (a = none → l = []) ∧ ∀ ad, a = some ad → ∃ g, ad = ⟨g, 0, none⟩ ∧ g < w.heap.size ∧ v.ownBlock = some g := by
  rcases h.2 with ⟨rfl, h0⟩ | ⟨g, cap, cur, rfl, _, hb, h1, h2, _⟩
  · exact ⟨none, 0, by rw [h0], by omega, by unfold maxLen; omega, fun _ => List.eq_nil_of_length_eq_zero h0, fun ad e => by cases e⟩
  · exact ⟨_, cap, rfl, h1, h2, fun e => (by cases e), fun ad e => ⟨g, (Option.some.inj e).symm, lt_of_block hb, rfl⟩⟩
theorem OwnB.bv (h : OwnB w v l) : BV w (fun k => v.ownBlock = some k) v l := by
  rcases h.2 with ⟨rfl, h0⟩ | ⟨g, cap, cur, rfl, hg, hb, h1, h2, hs, ht⟩
  · obtain rfl := List.eq_nil_of_length_eq_zero h0
    exact BV.nil _ _
  · refine ⟨_, cap, rfl, h1, h2, (fun e => by cases e), fun _ => ⟨g, 0, rfl, rfl, fun i hi => ?_⟩⟩
    have hx := h.cellAt i (by omega)
    rw [Nat.zero_add, hx]
    exact By_get l i hi
theorem OwnB.same (h : OwnB w v l) (hs : Same F w w') (hv : ∀ g, v.ownBlock = some g → F g) : OwnB w' v l := hs.row h hv
theorem OwnB.lt (h : OwnB w v l) : ∀ g, v.ownBlock = some g → g < w.heap.size := fun g hg => (World.ownsRow.lt h g hg).2
theorem OwnB.grow (h : OwnB w v l) (hb : Below w.heap.size w w') : OwnB w' v l := h.same (F := fun g => g < w.heap.size) (fun k hk => hb.block k hk) h.lt
/-- The cells of an own slice that is not empty. -/
theorem OwnB.cells (h : OwnB w v l) (hl : 0 < l.length) : ∃ g c, v = .slice (some ⟨g, 0, none⟩) l.length c ∧ l.length ≤ c ∧ c ≤ maxLen ∧ g < w.heap.size ∧ (∀ i, (hi : i < l.length) → w.cell? ⟨g, i, none⟩ = some (.int .u8 (l[i].toNat : Int))) ∧ (∀ i, w.frozen? ⟨g, i, none⟩ = false) ∧
    ∀ i (x : UInt8), i < l.length → OwnB (w.setCell ⟨g, i, none⟩ (.int .u8 (x.toNat : Int))) v (l.set i x) := by
  rcases h.2 with ⟨rfl, h0⟩ | ⟨g, cap, cur, rfl, hg, hb, h1, h2, hs, ht⟩
  · omega
  · refine ⟨g, cap, rfl, h1, h2, lt_of_block hb, fun i hi => ?_, fun i => h.frozenAt i, fun i x hi => ?_⟩
    · rw [h.cellAt i (by omega)]; exact By_get l i hi
    · have := h.stored i (.int .u8 (x.toNat : Int))
      unfold OwnB
      rw [By_set, List.length_set]
      exact this.1
/-- 'append(v, x...)' of bytes, at the run. -/
theorem run_append_bytes (h : OwnB w v l) {x : Value} {m : List UInt8} (hx : BV w F x m) (hn : l.length + m.length ≤ 1000000000000) (ty : TypeId) :
    ∃ a c w', (Builtin.append_ #[39, 39] ty #[v, x]).run Tryd.prog w = .ok (.slice a (l.length + m.length) c) w' ∧ OwnB w' (.slice a (l.length + m.length) c) (l ++ m) ∧ w.grownBy w' v.ownBlock ∧
      ((Value.slice a (l.length + m.length) c).ownBlock = v.ownBlock ∨ (Value.slice a (l.length + m.length) c).ownBlock = some w.heap.size) := by
  obtain ⟨i0, hi, hz0, hz1, hz2⟩ := info_parts Tryd.infoB
  obtain ⟨xa, xc, rfl, x1, x2, x3, x4⟩ := id hx
  cases xa with
  | none =>
    obtain rfl := x3 rfl
    have hm : m = [] := List.eq_nil_of_length_eq_zero (by omega)
    subst hm
    obtain ⟨a, c, rfl, _⟩ := h.form
    refine ⟨a, c, w, ?_, ?_, World.grownBy.refl _ _, .inl rfl⟩
    · exact run_append_owned_none (P := Tryd.prog) (w := w) 0 _ ty 5 i0 1 Tryd.underlying39 hi _ _ _ h
    · simpa using h
  | some ad =>
    obtain ⟨v', w', hrun, hown, hgrow, _, hat⟩ := run_append_own_at (P := Tryd.prog) w 0 39 ty 5 i0 (.int .u8 0) 1 1 Tryd.underlying39 hi hz0 hz1 hz2 rfl (by omega) v l.length (By l) h ad m.length xc (By m) (by simp) (hx.cells.2.2 ad rfl) (By_oneCell m) (by unfold maxLen; omega) (by omega) (by omega)
    have hO : OwnB w' v' (l ++ m) := by unfold OwnB; rw [By_append, List.length_append]; exact hown
    obtain ⟨a, c, rfl, _⟩ := hO.form
    rw [List.length_append] at hrun hO hat
    exact ⟨a, c, w', hrun, hO, hgrow, hat⟩
theorem wpList_append_bytes {ops : Array Oper} {rest : List Oper} {o : Oper} {a : Act} {Q : Exit → Act → World → Prop} (hgd : o.guard = none) (s x : Operand)
    (ho : o.op = .call { callee := .builtin .append, args := #[s, x], argTypes := #[39, 39] })
    (sv xv : Value) (m : List UInt8) (hs : a.eval s = sv) (hx : a.eval x = xv) (hown : OwnB w sv l) (hb : BV w F xv m) (hn : l.length + m.length ≤ 1000000000000)
    (h : ∀ (b : Option Addr) (c : Nat) (w' : World), OwnB w' (.slice b (l.length + m.length) c) (l ++ m) → w.grownBy w' sv.ownBlock → ((Value.slice b (l.length + m.length) c).ownBlock = sv.ownBlock ∨ (Value.slice b (l.length + m.length) c).ownBlock = some w.heap.size) →
      wpList Tryd.prog ops Q rest (a.put o.dst (.slice b (l.length + m.length) c)) w') : wpList Tryd.prog ops Q (o :: rest) a w := by
  refine wpList_plain hgd fun K hK => ?_
  obtain ⟨b, c, w', hrun, hO, hg, hat⟩ := run_append_bytes hown hb hn o.type
  unfold Oper.wp
  simp only [execOp, ho, resolve, invoke, builtin, Sem.run_bind, Sem.run_pure, Result.andThen_ok, List.map_toArray, List.map_cons, List.map_nil, hs, hx, hrun]
  exact hK _ _ (h b c w' hO hg hat)
end
end Go.Proofs.YtcpcnfedbffecaaDoor
