/- Split and Join are inverse: plain lists. -/
import Derived.Test.YthanbihdkjmeoaaDoorFrJ
namespace Go.Proofs.YthanbihdkjmeoaaDoor
namespace Fr
theorem parts_all {s : Nat} (hs : 0 < s) (P : List UInt8 → List (List UInt8) → Prop) (h0 : ∀ l, l.length ≤ s → P l [0 :: l]) (h1 : ∀ l r, s < l.length → P (l.drop s) r → P l ((1 :: l.take s) :: r)) : ∀ l, P l (parts s l) := by
  intro l
  induction hn : l.length using Nat.strongRecOn generalizing l with
  | ind n ih =>
    by_cases h : l.length ≤ s
    · rw [parts_last h]; exact h0 l h
    · rw [parts_more h hs]
      exact h1 l _ (by omega) (ih (l.drop s).length (by rw [List.length_drop]; omega) (l.drop s) rfl)
theorem parts_length {s : Nat} (hs : 0 < s) (l : List UInt8) : (parts s l).length = max 1 ((l.length + s - 1) / s) := by
  refine parts_all hs (fun l r => r.length = max 1 ((l.length + s - 1) / s)) (fun l h => ?_) (fun l r h ih => ?_) l
  · have : (l.length + s - 1) / s ≤ 1 := by
      rw [Nat.div_le_iff_le_mul_add_pred hs]; omega
    simp only [List.length_cons, List.length_nil]; omega
  · rw [List.length_cons, ih, List.length_drop]
    have e : l.length + s - 1 = (l.length - s + s - 1) + s := by omega
    rw [e, Nat.add_div_right _ hs]
    have : 1 ≤ (l.length - s + s - 1) / s := (Nat.one_le_div_iff hs).2 (by omega)
    omega
theorem parts_body {s : Nat} (hs : 0 < s) (l : List UInt8) : (parts s l).flatMap (·.drop 1) = l := by
  refine parts_all hs (fun l r => r.flatMap (·.drop 1) = l) (fun l h => by simp) (fun l r h ih => ?_) l
  rw [List.flatMap_cons, ih]
  simp [List.take_append_drop]
theorem parts_size {s : Nat} (hs : 0 < s) (l : List UInt8) : ∀ p ∈ parts s l, 0 < p.length ∧ p.length ≤ s + 1 := by
  refine parts_all hs (fun l r => ∀ p ∈ r, 0 < p.length ∧ p.length ≤ s + 1) (fun l h p hp => ?_) (fun l r h ih p hp => ?_) l
  · rw [List.mem_singleton.1 hp]; simp; omega
  · rcases List.mem_cons.1 hp with rfl | hp
    · refine ⟨by simp, ?_⟩
      rw [List.length_cons, List.length_take]; omega
    · exact ih p hp
theorem parts_flag {s : Nat} (hs : 0 < s) (l : List UInt8) : parts s l ≠ [] ∧ ∀ i, (h : i < (parts s l).length) → ((parts s l)[i]).getD 0 0 = if i + 1 = (parts s l).length then 0 else 1 := by
  refine parts_all hs (fun l r => r ≠ [] ∧ ∀ i, (h : i < r.length) → (r[i]).getD 0 0 = if i + 1 = r.length then 0 else 1) (fun l h => ⟨by simp, fun i hi => ?_⟩) (fun l r h ih => ⟨by simp, fun i hi => ?_⟩) l
  · obtain rfl : i = 0 := by simpa using hi
    rfl
  · cases i with
    | zero =>
      have : 0 < r.length := List.length_pos_iff.2 ih.1
      rw [if_neg (by rw [List.length_cons]; omega)]; rfl
    | succ i =>
      have := ih.2 i (by simpa using hi)
      simp only [List.getElem_cons_succ, List.length_cons]
      rw [this]
      by_cases hh : i + 1 = r.length
      · rw [if_pos hh, if_pos (by omega)]
      · rw [if_neg hh, if_neg (by omega)]
theorem split_length (k : Int) {s : Nat} (hs : 0 < s) (l : List UInt8) : (split k s l).length = max 1 ((l.length + s - 1) / s) := by unfold split; rw [List.length_map, parts_length hs]
theorem split_few (k : Int) {s : Nat} (hs : 0 < s) (l : List UInt8) : (split k s l).length ≤ 4096 ↔ l.length ≤ s * 4096 := by
  rw [split_length k hs]
  have h : (l.length + s - 1) / s ≤ 4096 ↔ l.length ≤ s * 4096 := by
    rw [Nat.div_le_iff_le_mul_add_pred hs]
    constructor <;> intro h <;> omega
  omega
theorem split_join {k : Int} (h0 : 0 ≤ k) (h1 : k ≤ 255) {s : Nat} (hs : 0 < s) (hs2 : s ≤ 65535) (l : List UInt8) (hl : l.length ≤ s * 4096) : jall (split k s l) ∧ jbody (split k s l) = l ∧ ∃ m ∈ (split k s l).head?, m.1 = k := by
  have hf := parts_flag hs l
  have hz := parts_size hs l
  have hm : ∀ m ∈ split k s l, m.1 = k := fun m hm => by
    unfold split at hm
    obtain ⟨p, _, rfl⟩ := List.mem_map.1 hm
    rfl
  have hhead : ∃ m, (split k s l).head? = some m ∧ m.1 = k := by
    cases hp : split k s l with
    | nil =>
      have := split_length k hs l
      rw [hp] at this
      simp only [List.length_nil] at this; omega
    | cons m r => exact ⟨m, rfl, hm m (by rw [hp]; simp)⟩
  obtain ⟨m, hmh, hmk⟩ := hhead
  refine ⟨⟨(split_few k hs l).2 hl, m, hmh, by omega, by omega, fun i hi => ?_⟩, ?_, m, hmh, hmk⟩
  · have hpl : (split k s l).length = (parts s l).length := by unfold split; rw [List.length_map]
    have e : (split k s l)[i] = (k, (parts s l)[i]'(by omega)) := by simp [split]
    have hsz := hz _ (List.getElem_mem (show i < (parts s l).length by omega))
    rw [e, hpl]
    exact ⟨hmk.symm, hsz.1, by have := hsz.2; show (parts s l)[i].length ≤ _; omega, hf.2 i (by omega)⟩
  · unfold jbody split
    rw [List.flatMap_map]
    exact parts_body hs l
end Fr
end Go.Proofs.YthanbihdkjmeoaaDoor
