/- 'append(v, s...)' of a string's bytes to a slice that the call has made. -/
import Derived.Test.YtcpcnfedbffecaaDoorNewB
import Derived.Lib.AppendStr
namespace Go.Proofs.YtcpcnfedbffecaaDoor
open Go.RowKit
section
variable {w0 wr : World} {B : Nat} {acc : List UInt8} {sv : Value}
theorem NewB.base (h : NewB B w0 acc sv wr) : wr.ownsRow B 5 1 sv acc.length (By acc) := by
  obtain ⟨h1, h2⟩ := h.2.1
  refine ⟨h1, ?_⟩
  rcases h2 with h2 | ⟨g, cap, cur, he, _, r⟩
  · exact .inl h2
  · exact .inr ⟨g, cap, cur, he, h.2.2.2 g (by rw [he]; rfl), r⟩
theorem NewB.of_base {w' : World} {n : Nat} (hb : Below B w0 w') (hB : B ≤ w'.heap.size) (hn : acc.length = n) (h : w'.ownsRow B 5 1 sv n (By acc)) : NewB B w0 acc sv w' := by
  subst hn
  obtain ⟨h1, h2⟩ := h
  rcases h2 with ⟨rfl, h0⟩ | ⟨g, cap, cur, he, hg, r⟩
  · exact ⟨hb, ⟨h1, .inl ⟨rfl, h0⟩⟩, hB, fun g e => by cases e⟩
  · exact ⟨hb, ⟨h1, .inr ⟨g, cap, cur, he, Nat.zero_le _, r⟩⟩, hB, fun g' e => by rw [he] at e; simp only [Value.ownBlock, Option.some.injEq] at e; omega⟩
theorem NewB.none (w : World) : NewB w.heap.size w [] (.slice none 0 0) w := ⟨Below.refl _ _, World.ownsRow_nil _ _ _ _, Nat.le_refl _, fun g e => by cases e⟩
theorem run_append_str (h : NewB B w0 acc sv wr) (s : ByteArray) (hn : acc.length + s.size ≤ 1000000000000) (ty : TypeId) :
    ∃ a c w', (Builtin.append_ #[39, 9] ty #[sv, .string s]).run Tryd.prog wr = .ok (.slice a (acc.length + s.size) c) w' ∧ NewB B w0 (acc ++ s.data.toList) (.slice a (acc.length + s.size) c) w' := by
  obtain ⟨i0, hi, hz0, hz1, hz2⟩ := info_parts Tryd.infoB
  obtain ⟨v', w', hrun, hown, hgrow, _⟩ := Lib.run_append_own_string (P := Tryd.prog) wr B 39 9 ty 5 i0 Tryd.underlying39 Tryd.underlying9 hi hz0 hz1 hz2 sv acc.length (By acc) h.base s (by unfold maxLen; omega) (by omega) h.2.2.1
  have e : By acc ++ Lib.strCells s = By (acc ++ s.data.toList) := by rw [By_append]; rfl
  rw [e] at hown
  have st : Stp (fun x => sv.ownBlock = some x) wr w' := (Stp.refl _ _).grown hgrow (fun x hx => .inl hx)
  have hN : NewB B w0 (acc ++ s.data.toList) v' w' := NewB.of_base (h.1.trans (st.below (fun x hx => h.2.2.2 x hx) h.2.2.1)) (Nat.le_trans h.2.2.1 st.size) (by rw [List.length_append]; rfl) hown
  obtain ⟨a, c, rfl, _⟩ := hN.2.1.form
  rw [List.length_append] at hrun hN
  exact ⟨a, c, w', hrun, hN⟩
theorem wpList_append_str {ops : Array Oper} {rest : List Oper} {o : Oper} {a : Act} {Q : Exit → Act → World → Prop} (hgd : o.guard = none) (s x : Operand)
    (ho : o.op = .call { callee := .builtin .append, args := #[s, x], argTypes := #[39, 9] })
    (sv : Value) (t : ByteArray) (hs : a.eval s = sv) (hx : a.eval x = .string t) (hN : NewB B w0 acc sv wr) (hn : acc.length + t.size ≤ 1000000000000)
    (h : ∀ (b : Option Addr) (c : Nat) (w' : World), NewB B w0 (acc ++ t.data.toList) (.slice b (acc.length + t.size) c) w' → wpList Tryd.prog ops Q rest (a.put o.dst (.slice b (acc.length + t.size) c)) w') : wpList Tryd.prog ops Q (o :: rest) a wr := by
  refine wpList_plain hgd fun K hK => ?_
  obtain ⟨b, c, w', hrun, hN2⟩ := run_append_str hN t hn o.type
  unfold Oper.wp
  simp only [execOp, ho, resolve, invoke, builtin, Sem.run_bind, Sem.run_pure, Result.andThen_ok, List.map_toArray, List.map_cons, List.map_nil, hs, hx, hrun]
  exact hK _ _ (h b c w' hN2)
end
end Go.Proofs.YtcpcnfedbffecaaDoor
