/- What a crash leaves of writes to different sectors: all or nothing of each, but one that is torn. No program in sight. -/
import Derived.Test.YtibojbbhffoldaaPlayF
import Derived.BigQuiet
import Derived.Deep.QuietTactic
namespace Go.Proofs.Ytibojbbhffoldaa
open Go.RowKit Go.Maps
namespace DSt
theorem getD_set {α : Type} (d : List α) (k i : Nat) (a x : α) (hk : k < d.length) : (d.set k a).getD i x = if k = i then a else d.getD i x := by
  simp only [List.getD, List.getElem?_set]
  by_cases h : k = i
  · subst h; simp [hk]
  · simp [h]
theorem crashGo_mixed (keep : List Bool) (t : Nat) : ∀ (ps : List (Nat × List UInt8)) (i : Nat) (first : Bool) (d : List (List UInt8)), (ps.map (·.1)).Nodup → (∀ p ∈ ps, p.1 < d.length) →
    ∃ c : Option Nat, (first = false → c = none) ∧ (∀ k, c = some k → ∃ p, (k, p) ∈ ps ∧ (crashGo keep t i first d ps).getD k [] = torn t p (d.getD k [])) ∧
      ∀ k, c ≠ some k → (crashGo keep t i first d ps).getD k [] = d.getD k [] ∨ ∃ p, (k, p) ∈ ps ∧ (crashGo keep t i first d ps).getD k [] = p
  | [], _, _, _, _, _ => ⟨none, fun _ => rfl, fun k h => (by cases h), fun k _ => .inl rfl⟩
  | (k0, p0) :: ps, i, first, d, hn, hl => by
    simp only [List.map_cons, List.nodup_cons, List.mem_map] at hn
    have hk0 : k0 < d.length := hl (k0, p0) (by simp)
    have hnot : ∀ p, (k0, p) ∉ ps := fun p hp => hn.1 ⟨_, hp, rfl⟩
    have up : ∀ (f' : Bool) (x : List UInt8), ∃ c : Option Nat, (f' = false → c = none) ∧ c ≠ some k0 ∧ (crashGo keep t (i + 1) f' (d.set k0 x) ps).getD k0 [] = x ∧ (∀ k, c = some k → ∃ p, (k, p) ∈ ps ∧ (crashGo keep t (i + 1) f' (d.set k0 x) ps).getD k [] = torn t p (d.getD k [])) ∧
        ∀ k, k ≠ k0 → c ≠ some k → (crashGo keep t (i + 1) f' (d.set k0 x) ps).getD k [] = d.getD k [] ∨ ∃ p, (k, p) ∈ ps ∧ (crashGo keep t (i + 1) f' (d.set k0 x) ps).getD k [] = p := by
      intro f' x
      obtain ⟨c, h1, h2, h3⟩ := crashGo_mixed keep t ps (i + 1) f' (d.set k0 x) hn.2 (fun p hp => by simpa using hl p (by simp [hp]))
      have hc : c ≠ some k0 := fun e => by obtain ⟨p, hp, _⟩ := h2 k0 e; exact hnot p hp
      refine ⟨c, h1, hc, ?_, fun k e => ?_, fun k hk e => ?_⟩
      · rcases h3 k0 hc with h | ⟨p, hp, _⟩
        · rw [h, getD_set _ _ _ _ _ hk0, if_pos rfl]
        · exact absurd hp (hnot p)
      · obtain ⟨p, hp, hv⟩ := h2 k e
        have : k0 ≠ k := fun e' => hc (by rw [e, e'])
        exact ⟨p, hp, by rw [hv, getD_set _ _ _ _ _ hk0, if_neg this]⟩
      · rcases h3 k e with h | h
        · left; rw [h, getD_set _ _ _ _ _ hk0, if_neg (Ne.symm hk)]
        · right; exact h
    unfold crashGo
    by_cases hkeep : keep.getD i false = true
    · rw [if_pos hkeep]
      obtain ⟨c, h1, hc, h0, h2, h3⟩ := up first p0
      refine ⟨c, h1, fun k e => ?_, fun k e => ?_⟩
      · obtain ⟨p, hp, hv⟩ := h2 k e; exact ⟨p, by simp [hp], hv⟩
      · by_cases hk : k = k0
        · subst hk; exact .inr ⟨p0, by simp, h0⟩
        · rcases h3 k hk e with h | ⟨p, hp, hv⟩
          · exact .inl h
          · exact .inr ⟨p, by simp [hp], hv⟩
    · rw [if_neg hkeep]
      by_cases hf : first = true
      · rw [if_pos hf]
        obtain ⟨c, h1, hc, h0, h2, h3⟩ := up false (torn t p0 (d.getD k0 []))
        have hcn := h1 rfl
        subst hcn
        refine ⟨some k0, fun e => (by rw [hf] at e; cases e), fun k e => ?_, fun k e => ?_⟩
        · injection e with e; subst e; exact ⟨p0, by simp, h0⟩
        · have hk : k ≠ k0 := fun e' => e (by rw [e'])
          rcases h3 k hk (by simp) with h | ⟨p, hp, hv⟩
          · exact .inl h
          · exact .inr ⟨p, by simp [hp], hv⟩
      · rw [if_neg hf]
        obtain ⟨c, h1, h2, h3⟩ := crashGo_mixed keep t ps (i + 1) first d hn.2 (fun p hp => hl p (by simp [hp]))
        refine ⟨c, h1, fun k e => ?_, fun k e => ?_⟩
        · obtain ⟨p, hp, hv⟩ := h2 k e; exact ⟨p, by simp [hp], hv⟩
        · rcases h3 k e with h | ⟨p, hp, hv⟩
          · exact .inl h
          · exact .inr ⟨p, by simp [hp], hv⟩
/-- Writes to different sectors, and the list of what was written to each. -/
structure Wrt (ps : List (Nat × List UInt8)) (W : List (List UInt8)) (n m : Nat) : Prop where
  len : W.length = n
  keys : (ps.map (·.1)).Nodup
  inn : ∀ p ∈ ps, p.1 < n ∧ p.2.length = m ∧ W.getD p.1 [] = p.2
theorem Wrt.nil (n m : Nat) : Wrt [] (List.replicate n []) n m := ⟨by simp, by simp, fun p h => by simp at h⟩
theorem Wrt.push {ps : List (Nat × List UInt8)} {W : List (List UInt8)} {n m : Nat} (h : Wrt ps W n m) (hm : 1 ≤ m) {k : Nat} {d : List UInt8} (hk : k < n) (hd : d.length = m) (hw : (W.getD k []).length = 0) : Wrt (ps ++ [(k, d)]) (W.set k d) n m := by
  have hnew : ∀ p ∈ ps, p.1 ≠ k := fun p hp e => by
    obtain ⟨_, h2, h3⟩ := h.inn p hp
    rw [e] at h3; rw [h3] at hw; omega
  have hl := h.len
  refine ⟨by simp [hl], ?_, fun p hp => ?_⟩
  · rw [List.map_append, List.nodup_append]
    refine ⟨h.keys, by simp, fun a ha b hb => ?_⟩
    simp only [List.mem_map] at ha
    obtain ⟨p, hp, rfl⟩ := ha
    simp at hb; subst hb
    exact hnew p hp
  · simp only [List.mem_append, List.mem_singleton] at hp
    rcases hp with hp | rfl
    · obtain ⟨h1, h2, h3⟩ := h.inn p hp
      refine ⟨h1, h2, ?_⟩
      rw [getD_set _ _ _ _ _ (by omega), if_neg (Ne.symm (hnew p hp))]
      exact h3
    · exact ⟨hk, hd, by rw [getD_set _ _ _ _ _ (by omega), if_pos rfl]⟩
/-- What is on the disk behind the crash. -/
def Mix (old now W : List (List UInt8)) (n m t : Nat) (c : Option Nat) : Prop :=
  ∀ i, i < n → (c = some i → (W.getD i []).length = m ∧ now.getD i [] = torn t (W.getD i []) (old.getD i [])) ∧ (c ≠ some i → now.getD i [] = old.getD i [] ∨ now.getD i [] = W.getD i [])
theorem Wrt.mix {ps : List (Nat × List UInt8)} {W : List (List UInt8)} {n m : Nat} (h : Wrt ps W n m) (keep : List Bool) (t : Nat) (old : List (List UInt8)) (ho : old.length = n) :
    ∃ c, Mix old (crashGo keep t 0 true old ps) W n m t c := by
  obtain ⟨c, _, h2, h3⟩ := crashGo_mixed keep t ps 0 true old h.keys (fun p hp => by have := (h.inn p hp).1; omega)
  refine ⟨c, fun i hi => ⟨fun e => ?_, fun e => ?_⟩⟩
  · obtain ⟨p, hp, hv⟩ := h2 i e
    obtain ⟨_, e2, e3⟩ := h.inn _ hp
    simp only at e2 e3
    rw [e3]; exact ⟨e2, hv⟩
  · rcases h3 i e with h' | ⟨p, hp, hv⟩
    · exact .inl h'
    · obtain ⟨_, _, e3⟩ := h.inn _ hp
      simp only at e3
      right; rw [e3]; exact hv
theorem torn_len2 {t : Nat} {a b : List UInt8} (h : a.length = b.length) : (torn t a b).length = b.length := by
  simp [torn]; omega
theorem torn_rest {t k m : Nat} {a b : List UInt8} (ha : a.length = m) (hb : b.length = m) (hk : k ≤ m) (h : k = m ∨ (torn t a b).getD k 0 ≠ a.getD k 0) : (torn t a b).drop k = b.drop k := by
  by_cases hkm : k = m
  · subst hkm
    rw [List.drop_of_length_le (by rw [torn_len2 (by omega)]; omega), List.drop_of_length_le (by omega)]
  · have hk2 : k < m := by omega
    have hne := h.resolve_left hkm
    by_cases hkt : k < t
    · exfalso; apply hne
      simp only [torn, List.getD]
      rw [List.getElem?_append_left (by simp; omega), List.getElem?_take, if_pos hkt]
    · have htk : t ≤ k := by omega
      have hlt : (a.take t).length = t := by simp; omega
      rw [torn, List.drop_append, hlt, List.drop_of_length_le (by omega), List.nil_append, List.drop_drop]
      congr 1; omega
end DSt
theorem same_is {w : World} {F G : Nat → Prop} {a b : Value} {la lb : List UInt8} {c : Bool} (n : Nat) (ha : BV w F a la) (hb : BV w G b lb) (h : (la == lb) = c) :
    Calls Try.prog 15 #[a, b] (w.drewN n) fun e w' => e = .returned (.bool c) ∧ w' = w.drewN n := by
  have ha' : BV (w.drewN n) F a la := ha.same (fun _ _ => rfl)
  have hb' : BV (w.drewN n) G b lb := hb.same (fun _ _ => rfl)
  refine (same_any ha' hb').mono ?_
  rintro e w' ⟨rfl, rfl⟩
  rw [h]
  exact ⟨rfl, rfl⟩
end Go.Proofs.Ytibojbbhffoldaa
