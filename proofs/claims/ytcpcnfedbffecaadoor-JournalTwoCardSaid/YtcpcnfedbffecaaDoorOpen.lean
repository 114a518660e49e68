/- Arguments opened: from the form's reading of them to the words of the walks. -/
import Derived.Test.YtcpcnfedbffecaaDoorChecked
import Derived.Test.YtcpcnfedbffecaaDoorHeap
import Derived.ProofKit
import Derived.Deep.Slices
import Derived.ChangeOld
namespace Go.Proofs.YtcpcnfedbffecaaDoor
open Go.RowKit Go.Deep

section
variable {H : Type} {enc : TypeId × Value → H} {P : Program} {w : World} {sp : Nat → Bool} {held : Bool} {fuel : Nat} {t e : TypeId} {cs : List Value} {x : DataW H × List MemPlace}
/-- A slice, element by element: each element's cells, and what its reading says of them. -/
theorem open_list (R : List Value → Prop) (ht : P.underlying t = some (.slice e)) (n : Nat) (hn : P.cellsOf e = n) (hn0 : 0 < n)
    (hR : ∀ fuel cs x, DataW.trod enc P w 0 sp held fuel e cs = some x → R cs) (h : DataW.trod enc P w 0 sp held fuel t cs = some x) :
    ∃ a len cap ES, cs = [.slice a len cap] ∧ List.length ES = len ∧ len ≤ cap ∧ cap ≤ maxLen ∧ (a = none → cap = 0) ∧
      (0 < len → ∃ b o, a = some ⟨b, o, none⟩ ∧ b < w.heap.size ∧ ∀ i E, ES[i]? = some E → R E ∧ ∀ j, j < n → w.cell? ⟨b, o + i * n + j, none⟩ = E[j]?) := by
  subst hn
  rcases open_slice ht h with ⟨rfl, _⟩ | ⟨a, len, cap, m, k, D, Pl, rfl, _, hl, hm, hmm, _, hel⟩
  · exact ⟨none, 0, 0, [], rfl, rfl, Nat.le_refl _, Nat.zero_le _, fun _ => rfl, fun h => absurd h (by omega)⟩
  · have hlm : len ≤ m := by rw [hmm]; split <;> omega
    refine ⟨some a, len, cap, (List.range len).map fun i => (w.cells? 0 (a.add (i * P.cellsOf e)) (P.cellsOf e)).getD [], rfl, by simp, hl, hm, (fun e => by cases e), fun h0 => ?_⟩
    have key : ∀ i, i < len → ∃ E, w.cells? 0 (a.add (i * P.cellsOf e)) (P.cellsOf e) = some E ∧ R E ∧ ∀ j, j < P.cellsOf e → w.cell? ((a.add (i * P.cellsOf e)).add j) = E[j]? := fun i hi => by
      obtain ⟨E, hE, htr⟩ := hel i (by omega)
      exact ⟨E, hE, hR _ _ _ htr, (World.cells?_some hE).2.2⟩
    obtain ⟨E0, hE0, _, hc0⟩ := key 0 h0
    have hs : a.spot = none := by
      have h1 := hc0 0 hn0
      have hl0 := (World.cells?_some hE0).2.1
      have e1 : (a.add (0 * P.cellsOf e)).add 0 = a := by simp [Addr.add]
      rw [e1, List.getElem?_eq_getElem (by omega)] at h1
      cases ha : a.spot with
      | none => rfl
      | some z =>
        simp only [World.cell?] at h1
        split at h1
        · simp [ha] at h1
        · cases h1
    obtain ⟨b, o, s⟩ := a
    simp only at hs
    subst hs
    refine ⟨b, o, rfl, ?_, fun i E hE => ?_⟩
    · have := World.cells?_block hE0 hn0
      simpa [Addr.add] using this
    · have hi : i < len := by
        have := (List.getElem?_eq_some_iff.1 hE).1
        simpa using this
      obtain ⟨E', hE', hR', hc'⟩ := key i hi
      rw [List.getElem?_map, List.getElem?_range hi] at hE
      simp only [Option.map_some, Option.some.injEq, hE', Option.getD_some] at hE
      subst hE
      refine ⟨hR', fun j hj => ?_⟩
      rw [← hc' j hj, Addr.add_lit, Addr.add_lit]
end

section
variable {H : Type} {enc : TypeId × Value → H} {w : World} {sp : Nat → Bool} {held : Bool} {fuel : Nat} {cs : List Value} {x : DataW H × List MemPlace}
/-- One-cell elements, read by f. -/
theorem open_one {α : Type} (f : α → Value) {P : Program} {t e : TypeId} (ht : P.underlying t = some (.slice e)) (hn : P.cellsOf e = 1)
    (hR : ∀ fuel cs x, DataW.trod enc P w 0 sp held fuel e cs = some x → ∃ a, cs = [f a]) (h : DataW.trod enc P w 0 sp held fuel t cs = some x) :
    ∃ v l, cs = [v] ∧ SV f w (fun k => k < w.heap.size) v l := by
  obtain ⟨a, len, cap, ES, rfl, hE, h1, h2, h3, h4⟩ := open_list (fun cs => ∃ a, cs = [f a]) ht 1 hn (by omega) hR h
  by_cases h0 : 0 < len
  · obtain ⟨b, o, rfl, hb, hel⟩ := h4 h0
    have hall : ∀ E ∈ ES, ∃ a, E = [f a] := fun E hE => by
      obtain ⟨i, hi, rfl⟩ := List.getElem_of_mem hE
      exact (hel i _ (List.getElem?_eq_getElem hi)).1
    obtain ⟨l, hl⟩ : ∃ l : List α, ES = l.map fun a => [f a] := by
      clear hel h4 hE h0
      induction ES with
      | nil => exact ⟨[], rfl⟩
      | cons E ES ih =>
        obtain ⟨a, ha⟩ := hall E (by simp)
        obtain ⟨l, hl⟩ := ih (fun E hE => hall E (by simp [hE]))
        exact ⟨a :: l, by simp [ha, hl]⟩
    subst hl
    simp only [List.length_map] at hE
    subst hE
    refine ⟨_, l, rfl, _, cap, rfl, h1, h2, h3, fun _ => ⟨b, o, rfl, hb, fun i hi => ?_⟩⟩
    have := (hel i [f l[i]] (by simp [hi])).2 0 (by omega)
    simpa using this
  · have : len = 0 := by omega
    subst this
    exact ⟨_, [], rfl, a, cap, rfl, h1, h2, h3, fun h => absurd h (by simp)⟩
theorem u8_of {n : Int} (h : (Lit.int .u8 n).wf = true) : ∃ b : UInt8, n = (b.toNat : Int) := by
  have hb : 0 ≤ n ∧ n ≤ 255 := by
    simp [Lit.wf, IntKind.min, IntKind.max, IntKind.signed, IntKind.bits] at h; omega
  refine ⟨UInt8.ofNat n.toNat, ?_⟩
  simp only [UInt8.toNat_ofNat']
  omega
theorem i64_of {n : Int} (h : (Lit.int .i64 n).wf = true) : -9223372036854775808 ≤ n ∧ n ≤ 9223372036854775807 := by
  simp [Lit.wf, IntKind.min, IntKind.max, IntKind.signed, IntKind.bits] at h; omega
theorem open_bytes (h : DataW.trod enc Tryd.prog w 0 sp held fuel 39 cs = some x) : ∃ v l, cs = [v] ∧ BV w (fun k => k < w.heap.size) v l :=
  open_one (fun b : UInt8 => .int .u8 (b.toNat : Int)) Tryd.underlying39 (by kernel_rfl) (fun fuel cs x h => by
    obtain ⟨n, rfl, _, hw⟩ := DataW.trod_int Tryd.underlying5 h
    obtain ⟨b, rfl⟩ := u8_of hw
    exact ⟨b, rfl⟩) h
end
end Go.Proofs.YtcpcnfedbffecaaDoor
