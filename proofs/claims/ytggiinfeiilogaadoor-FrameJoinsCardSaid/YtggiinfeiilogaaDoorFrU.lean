/- 'append(x, y...)' of lists of messages; a slice from an index on. -/
import Derived.Test.YtggiinfeiilogaaDoorFrT
namespace Go.Proofs.YtggiinfeiilogaaDoor
open Go.RowKit
section
variable {w w' : World} {F G : Nat → Prop} {B : Nat}
/-- A slice from an index on: the address moves on, unless nothing of the capacity is left. -/
theorem BV.from {a : Option Addr} {n c lo : Nat} {l : List UInt8} (h : BV w F (.slice a n c) l) (hn : l.length = n) (hlo : lo ≤ n) :
    (c = lo → BV w F (.slice a (n - lo) (c - lo)) (l.drop lo)) ∧ ∀ b o, a = some ⟨b, o, none⟩ → BV w F (.slice (some ⟨b, o + lo, none⟩) (n - lo) (c - lo)) (l.drop lo) := by
  refine ⟨fun e => ?_, fun b o e => ?_⟩
  · obtain ⟨a', c', e1, h1, h2, h3, h4⟩ := h
    injection e1 with e2 e3 e4
    have hnil : l.drop lo = [] := List.drop_of_length_le (by omega)
    rw [hnil]
    refine ⟨a, c - lo, ?_, by simp, by omega, fun e5 => ?_, fun h0 => absurd h0 (by simp)⟩
    · have : n - lo = 0 := by omega
      rw [this]; rfl
    · omega
  · subst e
    have := h.subAt (lo := lo) (k := n - lo) hn (by omega)
    rwa [List.take_of_length_le (by rw [List.length_drop]; omega)] at this
set_option maxRecDepth 100000 in
theorem MsO.appendMs {v yv : Value} {L M : List Fr.Msg} (h : MsO B w v L) (hy : MsV w G yv M) (hG : ∀ k, G k → B ≤ k ∧ k < w.heap.size ∧ v.ownBlock ≠ some k) (hn : L.length + M.length ≤ 1000000000) (ty : TypeId) :
    ∃ a c w', (Builtin.append_ #[22, 22] ty #[v, yv]).run Tryd.prog w = .ok (.slice a (L.length + M.length) c) w' ∧ MsO B w' (.slice a (L.length + M.length) c) (L ++ M) ∧ w.grownBy w' v.ownBlock := by
  obtain ⟨i0, hi, hz0, hz1, hz2⟩ := info_parts Tryd.infoM
  obtain ⟨vs, hr, hb, hB, hel⟩ := id h
  obtain ⟨ya, yc, rfl, y1, y2, y3, y4⟩ := id hy
  have hvl : vs.length = L.length * 2 := hr.1
  have h0 : M.length = 0 ∨ 0 < M.length := by omega
  cases ya with
  | none =>
    have := y3 rfl
    obtain rfl : M = [] := List.eq_nil_of_length_eq_zero (by omega)
    obtain ⟨a, c, rfl, _, _⟩ := h.shape
    have e0 : L.length + ([] : List Fr.Msg).length = L.length := rfl
    rw [e0, List.append_nil]
    exact ⟨a, c, w, run_append_owned_none (P := Tryd.prog) (w := w) 0 _ ty 32 i0 2 Tryd.underlying22 hi _ _ _ hr, h, World.grownBy.refl _ _⟩
  | some ad =>
    obtain ⟨news, hnl, hnews, h1, hne⟩ : ∃ news : List Value, news.length = M.length * 2 ∧ (∀ j u, news[j]? = some u → w.cell? (ad.add j) = some u) ∧ (∀ u ∈ news, u.oneCell' = true) ∧
        ∀ i, (h : i < M.length) → news[i * 2]? = some (.int .i64 M[i].1) ∧ ∃ x, news[i * 2 + 1]? = some x ∧ BV w G x M[i].2 := by
      rcases h0 with h0 | h0
      · obtain rfl := List.eq_nil_of_length_eq_zero h0
        exact ⟨[], rfl, (fun j u e => by simp at e), (fun u e => by cases e), (fun i h => absurd h (by simp))⟩
      · obtain ⟨b, o, e, hGb, hc⟩ := y4 h0
        have e := Option.some.inj e
        subst e
        have hcell : ∀ j, j < M.length * 2 → ∃ u, w.cell? ⟨b, o + j, none⟩ = some u ∧ u.oneCell' = true := fun j hj => by
          obtain ⟨x, hk, hx, hv⟩ := hc (j / 2) (by omega)
          by_cases hp : j % 2 = 0
          · have : o + j / 2 * 2 = o + j := by omega
            rw [this] at hk
            exact ⟨_, hk, rfl⟩
          · have : o + j / 2 * 2 + 1 = o + j := by omega
            rw [this] at hx
            obtain ⟨xa, xc, rfl, _⟩ := hv
            exact ⟨_, hx, rfl⟩
        have hget : ∀ j, j < M.length * 2 → ((List.range (M.length * 2)).map fun j => (w.cell? ⟨b, o + j, none⟩).getD undef)[j]? = w.cell? ⟨b, o + j, none⟩ := fun j hj => by
          obtain ⟨u, hu, _⟩ := hcell j hj
          rw [List.getElem?_map, List.getElem?_range hj, hu]
          simp [hu]
        refine ⟨(List.range (M.length * 2)).map fun j => (w.cell? ⟨b, o + j, none⟩).getD undef, by simp, fun j u hj => ?_, fun u hu => ?_, fun i hi => ?_⟩
        · have hjl : j < M.length * 2 := by have := (List.getElem?_eq_some_iff.1 hj).1; simpa using this
          rw [hget j hjl] at hj
          rw [Addr.add_lit]; exact hj
        · obtain ⟨j, hj, rfl⟩ := List.mem_map.1 hu
          obtain ⟨u, hu, h1⟩ := hcell j (List.mem_range.1 hj)
          rw [hu]; exact h1
        · obtain ⟨x, hk, hx, hv⟩ := hc i hi
          exact ⟨(hget _ (by omega)).trans hk, x, (hget _ (by omega)).trans hx, hv⟩
    obtain ⟨v', w', hrun, hown, hgrow, _, hat⟩ := run_append_own_at (P := Tryd.prog) w 0 22 ty 32 i0 _ 2 32 Tryd.underlying22 hi hz0 hz1 hz2 rfl (by omega) v L.length vs hr ad M.length yc news hnl hnews h1 (by unfold maxLen; omega) (by omega) (Nat.zero_le _)
    have hlt := h.lt
    have keep : ∀ {y : Value} {l : List UInt8}, BV w (fun k => B ≤ k ∧ k < w.heap.size ∧ v.ownBlock ≠ some k) y l → BV w' (fun k => B ≤ k ∧ k < w'.heap.size ∧ v'.ownBlock ≠ some k) y l := fun hy =>
      (hy.same (fun k hk => hgrow.block k hk.2.1 (fun e => hk.2.2 e.symm))).mono (fun k hk => ⟨hk.1, Nat.lt_of_lt_of_le hk.2.1 hgrow.size, fun e => by
        rcases hat with e2 | e2
        · rw [e2] at e; exact hk.2.2 e
        · rw [e2] at e; simp only [Option.some.injEq] at e; omega⟩)
    have hM : MsO B w' v' (L ++ M) := by
      refine ⟨vs ++ news, by rw [List.length_append]; exact hown, fun j hj => ?_, Nat.le_trans hB hgrow.size, fun i hi2 => ?_⟩
      · rcases hat with e2 | e2
        · rw [e2] at hj; exact hb j hj
        · rw [e2] at hj; simp only [Option.some.injEq] at hj; omega
      · rw [List.length_append] at hi2
        by_cases hil : i < L.length
        · obtain ⟨hk, y, hy, hv⟩ := hel i hil
          rw [List.getElem?_append_left (by omega), List.getElem?_append_left (by omega), List.getElem_append_left hil]
          exact ⟨hk, y, hy, keep hv⟩
        · obtain ⟨j, rfl⟩ : ∃ j, i = L.length + j := ⟨i - L.length, by omega⟩
          obtain ⟨hk, y, hy, hv⟩ := hne j (by omega)
          rw [List.getElem?_append_right (by omega), List.getElem?_append_right (by omega), List.getElem_append_right (by omega)]
          have e1 : (L.length + j) * 2 - vs.length = j * 2 := by omega
          have e2 : (L.length + j) * 2 + 1 - vs.length = j * 2 + 1 := by omega
          have e3 : L.length + j - L.length = j := by omega
          rw [e1, e2]
          simp only [e3]
          exact ⟨hk, y, hy, keep (hv.mono hG)⟩
    obtain ⟨a, c, rfl, _, _⟩ := hM.shape
    rw [List.length_append] at hrun hM
    exact ⟨a, c, w', hrun, hM, hgrow⟩
theorem wpList_append_ms {L M : List Fr.Msg} {ops : Array Oper} {rest : List Oper} {o : Oper} {a : Act} {Q : Exit → Act → World → Prop} (hgd : o.guard = none) (s x : Operand)
    (ho : o.op = .call { callee := .builtin .append, args := #[s, x], argTypes := #[22, 22] })
    (sv xv : Value) (hs : a.eval s = sv) (hx : a.eval x = xv) (h : MsO B w sv L) (hy : MsV w G xv M) (hG : ∀ k, G k → B ≤ k ∧ k < w.heap.size ∧ sv.ownBlock ≠ some k) (hn : L.length + M.length ≤ 1000000000)
    (hK : ∀ (b : Option Addr) (c : Nat) (w' : World), MsO B w' (.slice b (L.length + M.length) c) (L ++ M) → w.grownBy w' sv.ownBlock → wpList Tryd.prog ops Q rest (a.put o.dst (.slice b (L.length + M.length) c)) w') : wpList Tryd.prog ops Q (o :: rest) a w := by
  refine wpList_plain hgd fun K hK2 => ?_
  obtain ⟨b, c, w', hrun, h1, h2⟩ := h.appendMs hy hG hn o.type
  unfold Oper.wp
  simp only [execOp, ho, resolve, invoke, builtin, Sem.run_bind, Sem.run_pure, Result.andThen_ok, List.map_toArray, List.map_cons, List.map_nil, hs, hx, hrun]
  exact hK2 _ _ (hK b c w' h1 h2)
end
end Go.Proofs.YtggiinfeiilogaaDoor
