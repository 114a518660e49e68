/- Arguments opened, with the bound on the bytes that each string and slice takes. -/
import Derived.Test.YtiakmpnmooobbaaDoorOpenS
namespace Go.Proofs.YtiakmpnmooobbaaDoor
open Go.RowKit Go.Deep
section
variable {H : Type} {enc : TypeId × Value → H} {P : Program} {w : World} {sp : Nat → Bool} {held : Bool} {fuel : Nat} {t e : TypeId} {cs : List Value} {x : DataW H × List MemPlace} {B : Nat}
theorem mem_weightsAll {z : Nat} {d : DataW H} (hz : z ∈ d.weights P e) : ∀ l : List (DataW H), d ∈ l → z ∈ DataW.weightsAll P e l
  | a :: r, h => by
    simp only [DataW.weightsAll, List.mem_append]
    rcases List.mem_cons.1 h with rfl | h
    · exact .inl hz
    · exact .inr (mem_weightsAll hz r h)
theorem mem_weightsEach {z : Nat} {d : DataW H} : ∀ (ts : List TypeId) (ds : List (DataW H)) (i : Nat), ts[i]? = some t → ds[i]? = some d → z ∈ d.weights P t → z ∈ DataW.weightsEach P ts ds
  | [], _, i, h, _, _ => by simp at h
  | _ :: _, [], i, _, h, _ => by simp at h
  | a :: ts, b :: ds, 0, h1, h2, hz => by
    simp only [List.getElem?_cons_zero, Option.some.injEq] at h1 h2
    subst h1; subst h2
    simp only [DataW.weightsEach, List.mem_append]; exact .inl hz
  | a :: ts, b :: ds, i + 1, h1, h2, hz => by
    simp only [List.getElem?_cons_succ] at h1 h2
    simp only [DataW.weightsEach, List.mem_append]; exact .inr (mem_weightsEach ts ds i h1 h2 hz)
/-- A slice, element by element, with the bytes that it takes. -/
theorem open_list_w (R : List Value → Prop) (ht : P.underlying t = some (.slice e)) (n : Nat) (hn : P.cellsOf e = n) (hn0 : 0 < n)
    (hR : ∀ fuel cs x, DataW.trod enc P w 0 sp held fuel e cs = some x → (∀ z ∈ x.1.weights P e, z ≤ B) → R cs) (h : DataW.trod enc P w 0 sp held fuel t cs = some x) (hB : ∀ z ∈ x.1.weights P t, z ≤ B) :
    ∃ a len cap ES, cs = [.slice a len cap] ∧ List.length ES = len ∧ len ≤ cap ∧ cap ≤ maxLen ∧ (a = none → cap = 0) ∧ len * P.bytesOf e ≤ B ∧
      (0 < len → ∃ b o, a = some ⟨b, o, none⟩ ∧ b < w.heap.size ∧ ∀ i E, ES[i]? = some E → R E ∧ ∀ j, j < n → w.cell? ⟨b, o + i * n + j, none⟩ = E[j]?) := by
  subst hn
  rcases open_slice ht h with ⟨rfl, _⟩ | ⟨a, len, cap, m, k, D, Pl, rfl, _, hl, hm, hmm, hx, hel⟩
  · exact ⟨none, 0, 0, [], rfl, rfl, Nat.le_refl _, Nat.zero_le _, fun _ => rfl, by omega, fun h => absurd h (by omega)⟩
  · have hlm : len ≤ m := by rw [hmm]; split <;> omega
    have hW : ∀ z, z ∈ ((((List.range len).map D).length + ((List.range (m - len)).map fun j => D (len + j)).length) * P.bytesOf e :: (DataW.weightsAll P e ((List.range len).map D) ++ DataW.weightsAll P e ((List.range (m - len)).map fun j => D (len + j)))) → z ≤ B := fun z hz => hB z (by
      rw [hx]
      simp only [DataW.weights, ht]
      exact hz)
    have hlenB : len * P.bytesOf e ≤ B := by
      refine Nat.le_trans (Nat.mul_le_mul_right _ ?_) (hW _ (List.mem_cons_self))
      simp
    have hDB : ∀ i, i < len → ∀ z ∈ (D i).weights P e, z ≤ B := fun i hi z hz => hW z (List.mem_cons_of_mem _ (List.mem_append_left _ (mem_weightsAll hz _ (List.mem_map.2 ⟨i, List.mem_range.2 hi, rfl⟩))))
    refine ⟨some a, len, cap, (List.range len).map fun i => (w.cells? 0 (a.add (i * P.cellsOf e)) (P.cellsOf e)).getD [], rfl, by simp, hl, hm, (fun e => by cases e), hlenB, fun h0 => ?_⟩
    have key : ∀ i, i < len → ∃ E, w.cells? 0 (a.add (i * P.cellsOf e)) (P.cellsOf e) = some E ∧ R E ∧ ∀ j, j < P.cellsOf e → w.cell? ((a.add (i * P.cellsOf e)).add j) = E[j]? := fun i hi => by
      obtain ⟨E, hE, htr⟩ := hel i (by omega)
      exact ⟨E, hE, hR _ _ _ htr (hDB i hi), (World.cells?_some hE).2.2⟩
    obtain ⟨E0, hE0, _, hc0⟩ := key 0 h0
    have hs : a.spot = none := by
      have h1 := hc0 0 hn0
      have hl0 := (World.cells?_some hE0).2.1
      have e1 : (a.add (0 * P.cellsOf e)).add 0 = a := by simp [Addr.add]
      rw [e1, List.getElem?_eq_getElem (by omega)] at h1
      cases ha : a.spot with
      | none => rfl
      | some z =>
        simp only [World.cell?] at h1
        split at h1
        · simp [ha] at h1
        · cases h1
    obtain ⟨b, o, s⟩ := a
    simp only at hs
    subst hs
    refine ⟨b, o, rfl, ?_, fun i E hE => ?_⟩
    · have := World.cells?_block hE0 hn0
      simpa [Addr.add] using this
    · have hi : i < len := by
        have := (List.getElem?_eq_some_iff.1 hE).1
        simpa using this
      obtain ⟨E', hE', hR', hc'⟩ := key i hi
      rw [List.getElem?_map, List.getElem?_range hi] at hE
      simp only [Option.map_some, Option.some.injEq, hE', Option.getD_some] at hE
      subst hE
      refine ⟨hR', fun j hj => ?_⟩
      rw [← hc' j hj, Addr.add_lit, Addr.add_lit]
/-- One-cell elements, read by f, each with p. -/
theorem open_one_w {α : Type} (f : α → Value) (p : α → Prop) (ht : P.underlying t = some (.slice e)) (hn : P.cellsOf e = 1)
    (hR : ∀ fuel cs x, DataW.trod enc P w 0 sp held fuel e cs = some x → (∀ z ∈ x.1.weights P e, z ≤ B) → ∃ a, cs = [f a] ∧ p a) (h : DataW.trod enc P w 0 sp held fuel t cs = some x) (hB : ∀ z ∈ x.1.weights P t, z ≤ B) :
    ∃ v l, cs = [v] ∧ SV f w (fun k => k < w.heap.size) v l ∧ (∀ a ∈ l, p a) ∧ l.length * P.bytesOf e ≤ B := by
  obtain ⟨a, len, cap, ES, rfl, hE, h1, h2, h3, hbB, h4⟩ := open_list_w (fun cs => ∃ a, cs = [f a] ∧ p a) ht 1 hn (by omega) hR h hB
  by_cases h0 : 0 < len
  · obtain ⟨b, o, rfl, hb, hel⟩ := h4 h0
    have hall : ∀ E ∈ ES, ∃ a, E = [f a] ∧ p a := fun E hE => by
      obtain ⟨i, hi, rfl⟩ := List.getElem_of_mem hE
      exact (hel i _ (List.getElem?_eq_getElem hi)).1
    obtain ⟨l, hl, hp⟩ : ∃ l : List α, (ES = l.map fun a => [f a]) ∧ ∀ a ∈ l, p a := by
      clear hel h4 hE h0
      induction ES with
      | nil => exact ⟨[], rfl, fun a h => by cases h⟩
      | cons E ES ih =>
        obtain ⟨a, ha, pa⟩ := hall E (by simp)
        obtain ⟨l, hl, hp⟩ := ih (fun E hE => hall E (by simp [hE]))
        exact ⟨a :: l, by simp [ha, hl], fun b hb => by rcases List.mem_cons.1 hb with rfl | hb; exact pa; exact hp b hb⟩
    subst hl
    simp only [List.length_map] at hE
    subst hE
    refine ⟨_, l, rfl, ⟨_, cap, rfl, h1, h2, h3, fun _ => ⟨b, o, rfl, hb, fun i hi => ?_⟩⟩, hp, hbB⟩
    have := (hel i [f l[i]] (by simp [hi])).2 0 (by omega)
    simpa using this
  · obtain rfl : len = 0 := by omega
    exact ⟨_, [], rfl, ⟨a, cap, rfl, h1, h2, h3, fun h => absurd h (by simp)⟩, (fun a h => by cases h), by simp⟩
end
section
variable {H : Type} {enc : TypeId × Value → H} {w : World} {sp : Nat → Bool} {held : Bool} {fuel : Nat} {cs : List Value} {x : DataW H × List MemPlace}
theorem open_stringsW (h : DataW.trod enc Tryd.prog w 0 sp held fuel 26 cs = some x) (hB : ∀ z ∈ x.1.weights Tryd.prog 26, z ≤ reachBytes) :
    ∃ v l, cs = [v] ∧ StringsV w (fun k => k < w.heap.size) v l ∧ (∀ s ∈ l, s.size ≤ 140737488351232) := by
  obtain ⟨v, l, h1, h2, h3, _⟩ := open_one_w Value.string (fun s => s.size ≤ 140737488351232) Tryd.underlying26 (by kernel_rfl) (fun fuel cs x h hB => by
    obtain ⟨n, rfl, rfl, _⟩ := DataW.trod_string Tryd.underlying9 h
    refine ⟨n, rfl, ?_⟩
    have := hB n.data.toList.length (by simp [DataW.weights])
    unfold reachBytes at this
    simpa using this) h hB
  exact ⟨v, l, h1, h2, h3⟩
end
end Go.Proofs.YtiakmpnmooobbaaDoor
