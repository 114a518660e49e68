/- Plain: a whole frame is right just if its sum is. -/
import Derived.Test.YtggiinfeiilogaaDoorFdP
namespace Go.Proofs.YtggiinfeiilogaaDoor
namespace Fr
theorem lenAt_can {l : List UInt8} {bg s : Nat} (h : lenAt l = .ok bg s) : num s = (l.drop 1).take (bg - 1) := by
  unfold lenAt at h
  split at h
  · cases h
  rename_i c1
  match l, c1 with
  | [], c1 => exact absurd (by simp) c1
  | [_], c1 => exact absurd (by simp) c1
  | c0 :: d1 :: r, c1 =>
    have e1 : B (c0 :: d1 :: r) 1 = d1.toNat := rfl
    split at h
    · rename_i hb
      injection h with h1 h2
      subst h1; subst h2
      rw [e1] at hb ⊢
      rw [num1 hb, ofNat_eq rfl]
      rfl
    rename_i hb1
    rw [e1] at hb1
    split at h
    · cases h
    rename_i c2
    match r, c2 with
    | [], c2 => exact absurd (by simp) c2
    | d2 :: r, c2 =>
      have e1 : B (c0 :: d1 :: d2 :: r) 1 = d1.toNat := rfl
      have e2 : B (c0 :: d1 :: d2 :: r) 2 = d2.toNat := rfl
      split at h
      · rename_i hb2
        split at h
        · cases h
        · rename_i h0
          injection h with h1 h2
          subst h1; subst h2
          rw [e2] at hb2 h0
          rw [e1, e2]
          have ev : lval [d1, d2] = d1.toNat % 128 + 128 * d2.toNat := by simp [lval]; omega
          rw [← ev, (num_l2 d1 d2 (by omega) hb2).2 (by omega)]
          rfl
      rename_i hb2
      rw [e2] at hb2
      split at h
      · cases h
      rename_i c3
      match r, c3 with
      | [], c3 => exact absurd (by simp) c3
      | d3 :: r, c3 =>
        have e1 : B (c0 :: d1 :: d2 :: d3 :: r) 1 = d1.toNat := rfl
        have e2 : B (c0 :: d1 :: d2 :: d3 :: r) 2 = d2.toNat := rfl
        have e3 : B (c0 :: d1 :: d2 :: d3 :: r) 3 = d3.toNat := rfl
        split at h
        · rename_i hb3
          split at h
          · rename_i h0
            injection h with h1 h2
            subst h1; subst h2
            rw [e3] at hb3 h0
            have ev : lval [d1, d2, d3] = size3 (c0 :: d1 :: d2 :: d3 :: r) := by
              unfold size3
              rw [e1, e2, e3]
              simp [lval]; omega
            rw [← ev, (num_l3 d1 d2 d3 (by omega) (by omega) hb3).2 h0.2]
            rfl
          · cases h
        · cases h
theorem enc_iff {l : List UInt8} {bg s : Nat} (h : lenAt l = .ok bg s) (hl : bg + s + 8 ≤ l.length) {k0 : UInt8} (hk : l[0]? = some k0) :
    encM ((k0.toNat : Int), (l.drop bg).take s) = l.take (bg + s + 8) ↔ chk (l.take (bg + s)) = (l.drop (bg + s)).take 8 := by
  obtain ⟨g1, g2, g3, g4⟩ := lenAt_le h
  have hn := lenAt_can h
  have hbl : ((l.drop bg).take s).length = s := by rw [List.length_take, List.length_drop]; omega
  have hkb : kb (k0.toNat : Int) = k0 := by
    have := kb_toNat (k := (k0.toNat : Int)) (by omega) (by have := k0.toNat_lt; omega)
    exact UInt8.toNat_inj.1 (by omega)
  have hh : head k0 ((l.drop bg).take s) = l.take (bg + s) := by
    unfold head
    rw [hbl, hn]
    have e0 : l = k0 :: l.drop 1 := by
      match l, hk with
      | x :: r, hk => simp at hk; subst hk; rfl
    have e1 : l.take (bg + s) = l.take bg ++ (l.drop bg).take s := List.take_add
    have e2 : l.take bg = k0 :: (l.drop 1).take (bg - 1) := by
      conv => lhs; rw [e0]
      obtain ⟨m, rfl⟩ : ∃ m, bg = m + 1 := ⟨bg - 1, by omega⟩
      rfl
    rw [e1, e2]
    rfl
  unfold encM enc
  simp only [hkb]
  rw [hh]
  have e3 : l.take (bg + s + 8) = l.take (bg + s) ++ (l.drop (bg + s)).take 8 := List.take_add
  rw [e3]
  exact ⟨fun h => List.append_cancel_left h, fun h => by rw [h]⟩
end Fr
end Go.Proofs.YtggiinfeiilogaaDoor
