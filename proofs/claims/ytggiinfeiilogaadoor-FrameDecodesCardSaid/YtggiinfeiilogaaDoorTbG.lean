/- A list of messages that the call itself makes, with a footprint; the contract of a19Awake. -/
import Derived.Test.YtggiinfeiilogaaDoorTbS
import Derived.Test.YtggiinfeiilogaaDoorFrT
namespace Go.Proofs.YtggiinfeiilogaaDoor
open Go.RowKit
/-- The slice value v is the call's own, of the messages L; all of it lies in blocks of F. -/
def MsF (F : Nat → Prop) (w : World) (v : Value) (L : List Fr.Msg) : Prop :=
  ∃ vs, w.ownsRow 0 32 2 v L.length vs ∧ (∀ g, v.ownBlock = some g → F g) ∧ Inn F w ∧
    ∀ i, (h : i < L.length) → vs[i * 2]? = some (.int .i64 L[i].1) ∧ ∃ x, vs[i * 2 + 1]? = some x ∧ BV w (fun k => F k ∧ v.ownBlock ≠ some k) x L[i].2
section
variable {w w' : World} {F G : Nat → Prop} {v : Value} {L : List Fr.Msg} {b : Nat}
theorem MsF.empty (w : World) : MsF (fun k => w.heap.size ≤ k ∧ k < w.heap.size + 1) (w.alloc (.cells #[] 32)) (.slice (some ⟨w.heap.size, 0, none⟩) 0 0) [] :=
  ⟨[], ⟨by simp, .inr ⟨w.heap.size, 0, #[], rfl, Nat.zero_le _, heap_alloc_new w _, by simp, by unfold maxLen; omega, by simp, by simp⟩⟩, (fun g e => by simp only [Value.ownBlock, Option.some.injEq] at e; omega), (fun k hk => by simp; omega), fun i h => absurd h (by simp)⟩
theorem MsF.inn (h : MsF F w v L) : Inn F w := h.choose_spec.2.2.1
theorem MsF.own (h : MsF F w v L) : ∀ g, v.ownBlock = some g → F g := h.choose_spec.2.1
theorem MsF.shape (h : MsF F w v L) : ∃ a c, v = .slice a L.length c ∧ L.length ≤ c ∧ c ≤ maxLen := by
  obtain ⟨vs, h, _⟩ := h
  rcases h.2 with ⟨rfl, h0⟩ | ⟨g, cap, cur, rfl, _, _, h1, h2, _⟩
  · exact ⟨none, 0, by rw [h0], by omega, by unfold maxLen; omega⟩
  · exact ⟨_, cap, rfl, h1, h2⟩
theorem MsF.same (h : MsF F w v L) (hs : Same F w w') (hz : w.heap.size ≤ w'.heap.size) : MsF F w' v L := by
  obtain ⟨vs, h1, h2, h3, h4⟩ := h
  refine ⟨vs, hs.row h1 (fun g hg => h2 g hg), h2, fun k hk => Nat.lt_of_lt_of_le (h3 k hk) hz, fun i hi => ?_⟩
  obtain ⟨hk, x, hx, hv⟩ := h4 i hi
  exact ⟨hk, x, hx, hv.same (fun k hk => hs k hk.1)⟩
theorem MsF.mono (h : MsF F w v L) (hs : ∀ k, F k → G k) (hG : Inn G w) : MsF G w v L := by
  obtain ⟨vs, h1, h2, h3, h4⟩ := h
  refine ⟨vs, h1, fun g hg => hs g (h2 g hg), hG, fun i hi => ?_⟩
  obtain ⟨hk, x, hx, hv⟩ := h4 i hi
  exact ⟨hk, x, hx, hv.mono (fun k hk => ⟨hs k hk.1, hk.2⟩)⟩
theorem MsF.grow (h : MsF F w v L) (hb : Below w.heap.size w w') : MsF F w' v L := h.same (fun k hk => hb.block k (h.inn k hk)) hb.size
theorem MsF.msv (h : MsF F w v L) : MsV w F v L := by
  obtain ⟨vs, h1, h2, h3, h4⟩ := h
  rcases h1.2 with ⟨rfl, h0⟩ | ⟨g, cap, cur, rfl, hg, hb, q1, q2, hs, ht⟩
  · obtain rfl : L = [] := List.eq_nil_of_length_eq_zero h0
    exact ⟨none, 0, rfl, Nat.le_refl _, by unfold maxLen; omega, fun _ => rfl, fun h => absurd h (by simp)⟩
  · refine ⟨_, cap, rfl, q1, q2, (fun e => by cases e), fun _ => ⟨g, 0, rfl, h2 g rfl, fun i hi => ?_⟩⟩
    obtain ⟨hk, x, hx, hv⟩ := h4 i hi
    refine ⟨x, ?_, ?_, hv.mono (fun k hk => hk.1)⟩
    · rw [Nat.zero_add, h1.cellAt (i * 2) (by omega), hk]
    · rw [Nat.zero_add, h1.cellAt (i * 2 + 1) (by omega), hx]
/-- One message more; the append itself: 'wpList_append_lies'. -/
theorem MsF.push (h : MsF F w v L) {m : Fr.Msg} {x : Value} (hx : BV w (fun k => F k ∧ v.ownBlock ≠ some k) x m.2) {g cap n : Nat} (hn : L.length = n) {vs : List Value}
    (hvs : w.ownsRow 0 32 2 v n vs → ∀ i, (h : i < L.length) → vs[i * 2]? = some (.int .i64 L[i].1) ∧ ∃ x, vs[i * 2 + 1]? = some x ∧ BV w (fun k => F k ∧ v.ownBlock ≠ some k) x L[i].2) (hvr : w.ownsRow 0 32 2 v n vs)
    (hown : w'.ownsRow 0 32 2 (.slice (some ⟨g, 0, none⟩) (n + 1) cap) (n + 1) (vs ++ [.int .i64 m.1, x])) (hg : w.grownBy w' v.ownBlock) (hat : v.ownBlock = some g ∨ g = w.heap.size) (hgl : g < w'.heap.size) :
    MsF (Plus F w w') w' (.slice (some ⟨g, 0, none⟩) (n + 1) cap) (L ++ [m]) := by
  subst hn
  obtain ⟨_, _, h2, h3, _⟩ := h
  have hvl : vs.length = L.length * 2 := hvr.1
  have keep : ∀ {y : Value} {l : List UInt8}, BV w (fun k => F k ∧ v.ownBlock ≠ some k) y l → BV w' (fun k => Plus F w w' k ∧ (Value.slice (some ⟨g, 0, none⟩) (L.length + 1) cap).ownBlock ≠ some k) y l := fun hy =>
    (hy.same (fun k hk => hg.block k (h3 k hk.1) (fun e => hk.2 e.symm))).mono (fun k hk => ⟨.inl hk.1, fun e => by
      simp only [Value.ownBlock, Option.some.injEq] at e
      subst e
      rcases hat with e | e
      · exact hk.2 e
      · have := h3 _ hk.1; omega⟩)
  refine ⟨vs ++ [.int .i64 m.1, x], by rw [List.length_append]; exact hown, fun j hj => ?_, Plus.inn h3 hg.size, fun i hi => ?_⟩
  · simp only [Value.ownBlock, Option.some.injEq] at hj
    subst hj
    rcases hat with e | e
    · exact .inl (h2 _ e)
    · exact .inr ⟨by omega, hgl⟩
  · rw [List.length_append, List.length_cons, List.length_nil] at hi
    by_cases hil : i < L.length
    · obtain ⟨hk, y, hy, hv⟩ := hvs hvr i hil
      rw [List.getElem?_append_left (by omega), List.getElem?_append_left (by omega), List.getElem_append_left hil]
      exact ⟨hk, y, hy, keep hv⟩
    · obtain rfl : i = L.length := by omega
      rw [List.getElem?_append_right (by omega), List.getElem?_append_right (by omega), List.getElem_append_right (by omega)]
      have e1 : L.length * 2 - vs.length = 0 := by omega
      have e2 : L.length * 2 + 1 - vs.length = 1 := by omega
      rw [e1, e2]
      simp only [Nat.sub_self, List.getElem_cons_zero]
      exact ⟨rfl, x, rfl, keep hx⟩
theorem cost_3 : Fr.cost 3 = 13 := by unfold Fr.cost; rw [Fr.num1 (by decide)]; rfl
set_option maxHeartbeats 1000000 in
theorem a19_any (w : World) : Calls Tryd.prog 15 #[] w fun e w' => e = .returned (.bool true) ∧ Below w.heap.size w w' := by
  go_enter Tryd.func15, Tryd.ntmps15
  go_wp2_with fail
  refine (fCost_any w 3).mono ?_
  rintro e w1 ⟨rfl, rfl⟩
  rw [if_neg (by decide), if_neg (by decide), show ((3 : Int).toNat) = 3 from rfl, cost_3]
  go_wp2_with fail
  refine (newlink_any w 10 (-1) (by decide)).mono ?_
  rintro e w2 ⟨rfl, hb2, hL2⟩
  have B2 := Lib.hid hb2
  have L2 := Lib.hid hL2
  clear hb2 hL2
  go_wp2_with fail
  refine (left_any L2.out (by simp) (by decide)).mono ?_
  rintro e w3 ⟨rfl, n, rfl⟩
  go_wp2_with fail
  go_ret
  exact ⟨rfl, below_drewN2 B2.out n⟩
end
end Go.Proofs.YtggiinfeiilogaaDoor
