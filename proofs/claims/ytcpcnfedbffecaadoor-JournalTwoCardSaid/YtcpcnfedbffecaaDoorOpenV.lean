/- Arguments opened: lists of byte slices (where there is no other list of many cells). -/
import Derived.Test.YtcpcnfedbffecaaDoorOpen
namespace Go.Proofs.YtcpcnfedbffecaaDoor
open Go.RowKit Go.Deep
section
variable {H : Type} {enc : TypeId × Value → H} {w : World} {sp : Nat → Bool} {held : Bool} {fuel : Nat} {cs : List Value} {x : DataW H × List MemPlace}
/-- A list of elements of several cells, each read by R. -/
theorem list_of {α : Type} (R : List Value → α → Prop) : ∀ (ES : List (List Value)), (∀ E ∈ ES, ∃ a, R E a) → ∃ l : List α, l.length = ES.length ∧ ∀ i (h : i < l.length) (h' : i < ES.length), R ES[i] l[i]
  | [], _ => ⟨[], rfl, fun i h => absurd h (by simp)⟩
  | E :: ES, h => by
    obtain ⟨a, ha⟩ := h E (by simp)
    obtain ⟨l, hl, hr⟩ := list_of R ES (fun E hE => h E (by simp [hE]))
    refine ⟨a :: l, by simp [hl], fun i h1 h2 => ?_⟩
    cases i with
    | zero => exact ha
    | succ i => exact hr i (by simpa using h1) (by simpa using h2)
theorem open_listsV (h : DataW.trod enc Tryd.prog w 0 sp held fuel 32 cs = some x) : ∃ v l, cs = [v] ∧ LV w (fun k => k < w.heap.size) v l := by
  obtain ⟨a, len, cap, ES, rfl, hE, h1, h2, h3, h4⟩ := open_list (fun cs => ∃ o : List UInt8, ∃ v, cs = [v] ∧ BV w (fun k => k < w.heap.size) v o) Tryd.underlying32 1 (by kernel_rfl) (by omega) (fun _ _ _ h => by
    obtain ⟨v, l, e, hb⟩ := open_bytes h
    exact ⟨l, v, e, hb⟩) h
  by_cases h0 : 0 < len
  · obtain ⟨b, o, rfl, hb, hel⟩ := h4 h0
    obtain ⟨l, hl, hr⟩ := list_of (fun E (o : List UInt8) => ∃ v, E = [v] ∧ BV w (fun k => k < w.heap.size) v o) ES (fun E hE => by
      obtain ⟨i, hi, rfl⟩ := List.getElem_of_mem hE
      exact (hel i _ (List.getElem?_eq_getElem hi)).1)
    obtain rfl : l.length = len := by omega
    refine ⟨_, l, rfl, _, cap, rfl, h1, h2, h3, fun _ => ⟨b, o, rfl, hb, fun i hi => ?_⟩⟩
    obtain ⟨v, hv, hbv⟩ := hr i hi (by omega)
    have := (hel i _ (List.getElem?_eq_getElem (by omega))).2 0 (by omega)
    rw [hv] at this
    exact ⟨v, by simpa using this, hbv⟩
  · obtain rfl : len = 0 := by omega
    exact ⟨_, [], rfl, a, cap, rfl, h1, h2, h3, fun h => absurd h (by simp)⟩
end
end Go.Proofs.YtcpcnfedbffecaaDoor
