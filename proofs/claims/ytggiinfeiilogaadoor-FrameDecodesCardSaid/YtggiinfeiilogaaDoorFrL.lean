/- Slices of messages: read only ('MsV'), or made and appended to by the call itself ('MsO'). -/
import Derived.Test.YtggiinfeiilogaaDoorFrX
import Derived.Deep.AppendLies
namespace Go.Proofs.YtggiinfeiilogaaDoor
open Go.RowKit
/-- The slice value v reads as the messages L. -/
def MsV (w : World) (F : Nat → Prop) (v : Value) (L : List Fr.Msg) : Prop :=
  ∃ a c, v = .slice a L.length c ∧ L.length ≤ c ∧ c ≤ maxLen ∧ (a = none → c = 0) ∧
    (0 < L.length → ∃ b o, a = some ⟨b, o, none⟩ ∧ F b ∧ ∀ i, (h : i < L.length) → ∃ x, w.cell? ⟨b, o + i * 2, none⟩ = some (.int .i64 L[i].1) ∧ w.cell? ⟨b, o + i * 2 + 1, none⟩ = some x ∧ BV w F x L[i].2)
section
variable {w w' : World} {F G : Nat → Prop} {v : Value} {L : List Fr.Msg} {B : Nat}
theorem MsV.same (h : MsV w F v L) (hs : Same F w w') : MsV w' F v L := by
  obtain ⟨a, c, e, h1, h2, h3, h4⟩ := h
  refine ⟨a, c, e, h1, h2, h3, fun hp => ?_⟩
  obtain ⟨b, o, e2, hb, hc⟩ := h4 hp
  refine ⟨b, o, e2, hb, fun i hi => ?_⟩
  obtain ⟨x, hk, hx, hv⟩ := hc i hi
  exact ⟨x, (hs.cell (p := ⟨b, o + i * 2, none⟩) hb).trans hk, (hs.cell (p := ⟨b, o + i * 2 + 1, none⟩) hb).trans hx, hv.same hs⟩
theorem MsV.mono (h : MsV w F v L) (hs : ∀ k, F k → G k) : MsV w G v L := by
  obtain ⟨a, c, e, h1, h2, h3, h4⟩ := h
  refine ⟨a, c, e, h1, h2, h3, fun hp => ?_⟩
  obtain ⟨b, o, e2, hb, hc⟩ := h4 hp
  refine ⟨b, o, e2, hs b hb, fun i hi => ?_⟩
  obtain ⟨x, hk, hx, hv⟩ := hc i hi
  exact ⟨x, hk, hx, hv.mono hs⟩
theorem MsV.grow (h : MsV w F v L) (hb : Below w.heap.size w w') : MsV w' F v L := by
  obtain ⟨a, c, e, h1, h2, h3, h4⟩ := h
  refine ⟨a, c, e, h1, h2, h3, fun hp => ?_⟩
  obtain ⟨b, o, e2, hF, hc⟩ := h4 hp
  refine ⟨b, o, e2, hF, fun i hi => ?_⟩
  obtain ⟨x, hk, hx, hv⟩ := hc i hi
  exact ⟨x, (hb.cell (p := ⟨b, o + i * 2, none⟩) (block_lt_of_cell hk)).trans hk, (hb.cell (p := ⟨b, o + i * 2 + 1, none⟩) (block_lt_of_cell hx)).trans hx, hv.grow hb⟩
theorem MsV.get (h : MsV w F v L) : ∃ a c, v = .slice a L.length c ∧ L.length ≤ c ∧ c ≤ maxLen ∧ ∀ i, (hi : i < L.length) → ∃ b o x, a = some ⟨b, o, none⟩ ∧ F b ∧ w.cell? ⟨b, o + i * 2, none⟩ = some (.int .i64 L[i].1) ∧ w.cell? ⟨b, o + i * 2 + 1, none⟩ = some x ∧ BV w F x L[i].2 := by
  obtain ⟨a, c, e, h1, h2, h3, h4⟩ := h
  refine ⟨a, c, e, h1, h2, fun i hi => ?_⟩
  obtain ⟨b, o, e2, hF, hc⟩ := h4 (by omega)
  obtain ⟨x, hk, hx, hv⟩ := hc i hi
  exact ⟨b, o, x, e2, hF, hk, hx, hv⟩
/-- Some of the first messages. -/
theorem MsV.take {a : Option Addr} {n c k : Nat} (h : MsV w F (.slice a n c) L) (hk : k ≤ n) : MsV w F (.slice a k c) (L.take k) := by
  obtain ⟨a', c', e, h1, h2, h3, h4⟩ := h
  injection e with e1 e2 e3
  subst e1; subst e2; subst e3
  have hl : (L.take k).length = k := by rw [List.length_take]; omega
  refine ⟨a, c, by rw [hl], by rw [hl]; omega, h2, h3, fun hp => ?_⟩
  obtain ⟨b, o, e2, hb, hc⟩ := h4 (by rw [hl] at hp; omega)
  refine ⟨b, o, e2, hb, fun i hi => ?_⟩
  obtain ⟨x, hk, hx, hv⟩ := hc i (by rw [hl] at hi; omega)
  exact ⟨x, by rw [hk, List.getElem_take], hx, by rw [List.getElem_take]; exact hv⟩
/-- The slice value v is the call's own, of the messages L; all of it lies from block B on. -/
def MsO (B : Nat) (w : World) (v : Value) (L : List Fr.Msg) : Prop :=
  ∃ vs, w.ownsRow 0 32 2 v L.length vs ∧ (∀ g, v.ownBlock = some g → B ≤ g) ∧ B ≤ w.heap.size ∧
    ∀ i, (h : i < L.length) → vs[i * 2]? = some (.int .i64 L[i].1) ∧ ∃ x, vs[i * 2 + 1]? = some x ∧ BV w (fun k => B ≤ k ∧ k < w.heap.size ∧ v.ownBlock ≠ some k) x L[i].2
theorem MsO.nil (hB : B ≤ w.heap.size) : MsO B w (.slice none 0 0) [] := ⟨[], World.ownsRow_nil _ _ _ _, (fun g e => by cases e), hB, fun i h => absurd h (by simp)⟩
theorem MsO.empty (hB : B ≤ w.heap.size) : MsO B (w.alloc (.cells #[] 32)) (.slice (some ⟨w.heap.size, 0, none⟩) 0 0) [] :=
  ⟨[], ⟨by simp, .inr ⟨w.heap.size, 0, #[], rfl, Nat.zero_le _, heap_alloc_new w _, by simp, by unfold maxLen; omega, by simp, by simp⟩⟩, (fun g e => by simp only [Value.ownBlock, Option.some.injEq] at e; omega), by simp; omega, fun i h => absurd h (by simp)⟩
theorem MsO.lt (h : MsO B w v L) : ∀ g, v.ownBlock = some g → g < w.heap.size := fun g hg => (World.ownsRow.lt h.choose_spec.1 g hg).2
theorem MsO.shape (h : MsO B w v L) : ∃ a c, v = .slice a L.length c ∧ L.length ≤ c ∧ c ≤ maxLen := by
  obtain ⟨vs, h, _⟩ := h
  rcases h.2 with ⟨rfl, h0⟩ | ⟨g, cap, cur, rfl, _, _, h1, h2, _⟩
  · exact ⟨none, 0, by rw [h0], by omega, by unfold maxLen; omega⟩
  · exact ⟨_, cap, rfl, h1, h2⟩
/-- Nothing from block B on has turned. -/
theorem MsO.same (h : MsO B w v L) (hs : Same (fun k => B ≤ k ∧ k < w.heap.size) w w') (hz : w.heap.size ≤ w'.heap.size) : MsO B w' v L := by
  have hlt := h.lt
  obtain ⟨vs, h1, h2, h3, h4⟩ := h
  refine ⟨vs, hs.row h1 (fun g hg => ⟨h2 g hg, hlt g hg⟩), h2, Nat.le_trans h3 hz, fun i hi => ?_⟩
  obtain ⟨hk, x, hx, hv⟩ := h4 i hi
  exact ⟨hk, x, hx, (hv.same (fun k hk => hs k ⟨hk.1, hk.2.1⟩)).mono (fun k hk => ⟨hk.1, by omega, hk.2.2⟩)⟩
theorem MsO.grow (h : MsO B w v L) (hb : Below w.heap.size w w') : MsO B w' v L := h.same (fun k hk => hb.block k hk.2) hb.size
theorem MsO.msv (h : MsO B w v L) : MsV w (fun k => B ≤ k ∧ k < w.heap.size) v L := by
  have hlt := h.lt
  obtain ⟨vs, h1, h2, h3, h4⟩ := h
  rcases h1.2 with ⟨rfl, h0⟩ | ⟨g, cap, cur, rfl, hg, hb, q1, q2, hs, ht⟩
  · obtain rfl : L = [] := List.eq_nil_of_length_eq_zero h0
    exact ⟨none, 0, rfl, Nat.le_refl _, by unfold maxLen; omega, fun _ => rfl, fun h => absurd h (by simp)⟩
  · refine ⟨_, cap, rfl, q1, q2, (fun e => by cases e), fun _ => ⟨g, 0, rfl, ⟨h2 g rfl, hlt g rfl⟩, fun i hi => ?_⟩⟩
    obtain ⟨hk, x, hx, hv⟩ := h4 i hi
    refine ⟨x, ?_, ?_, hv.mono (fun k hk => ⟨hk.1, hk.2.1⟩)⟩
    · rw [Nat.zero_add, h1.cellAt (i * 2) (by omega), hk]
    · rw [Nat.zero_add, h1.cellAt (i * 2 + 1) (by omega), hx]
/-- One message more; the append itself: 'wpList_append_lies' or 'step_append_lies'. -/
theorem MsO.push (h : MsO B w v L) {m : Fr.Msg} {x : Value} (hx : BV w (fun k => B ≤ k ∧ k < w.heap.size ∧ v.ownBlock ≠ some k) x m.2) {g cap n : Nat} (hn : L.length = n) {vs : List Value}
    (hvs : w.ownsRow 0 32 2 v n vs → ∀ i, (h : i < L.length) → vs[i * 2]? = some (.int .i64 L[i].1) ∧ ∃ x, vs[i * 2 + 1]? = some x ∧ BV w (fun k => B ≤ k ∧ k < w.heap.size ∧ v.ownBlock ≠ some k) x L[i].2) (hvr : w.ownsRow 0 32 2 v n vs)
    (hown : w'.ownsRow 0 32 2 (.slice (some ⟨g, 0, none⟩) (n + 1) cap) (n + 1) (vs ++ [.int .i64 m.1, x])) (hg : w.grownBy w' v.ownBlock) (hat : v.ownBlock = some g ∨ g = w.heap.size) :
    MsO B w' (.slice (some ⟨g, 0, none⟩) (n + 1) cap) (L ++ [m]) := by
  subst hn
  obtain ⟨_, _, h2, h3, _⟩ := h
  have hvl : vs.length = L.length * 2 := hvr.1
  have keep : ∀ {y : Value} {l : List UInt8}, BV w (fun k => B ≤ k ∧ k < w.heap.size ∧ v.ownBlock ≠ some k) y l → BV w' (fun k => B ≤ k ∧ k < w'.heap.size ∧ (Value.slice (some ⟨g, 0, none⟩) (L.length + 1) cap).ownBlock ≠ some k) y l := fun hy =>
    (hy.same (fun k hk => hg.block k hk.2.1 (fun e => hk.2.2 e.symm))).mono (fun k hk => ⟨hk.1, Nat.lt_of_lt_of_le hk.2.1 hg.size, fun e => by
      simp only [Value.ownBlock, Option.some.injEq] at e
      subst e
      rcases hat with e | e
      · exact hk.2.2 e
      · omega⟩)
  refine ⟨vs ++ [.int .i64 m.1, x], by rw [List.length_append]; exact hown, fun j hj => ?_, Nat.le_trans h3 hg.size, fun i hi => ?_⟩
  · simp only [Value.ownBlock, Option.some.injEq] at hj
    subst hj
    rcases hat with e | e
    · exact h2 _ e
    · omega
  · rw [List.length_append, List.length_cons, List.length_nil] at hi
    by_cases hil : i < L.length
    · obtain ⟨hk, y, hy, hv⟩ := hvs hvr i hil
      rw [List.getElem?_append_left (by omega), List.getElem?_append_left (by omega), List.getElem_append_left hil]
      exact ⟨hk, y, hy, keep hv⟩
    · obtain rfl : i = L.length := by omega
      rw [List.getElem?_append_right (by omega), List.getElem?_append_right (by omega), List.getElem_append_right (by omega)]
      have e1 : L.length * 2 - vs.length = 0 := by omega
      have e2 : L.length * 2 + 1 - vs.length = 1 := by omega
      rw [e1, e2]
      simp only [Nat.sub_self, List.getElem_cons_zero]
      exact ⟨rfl, x, rfl, keep hx⟩
end
end Go.Proofs.YtggiinfeiilogaaDoor
