/- Plain: how the reference reads a length, against 'lenAt'. -/
import Derived.Test.YtggiinfeiilogaaDoorFdN
namespace Go.Proofs.YtggiinfeiilogaaDoor
namespace Fr
theorem two_mod {x : UInt8} (h : 128 ≤ x.toNat) : x.toNat % 128 + 128 = x.toNat := by have := x.toNat_lt; omega
theorem ofNat_eq {n : Nat} {x : UInt8} (h : n = x.toNat) : UInt8.ofNat n = x := by subst h; exact UInt8.toNat_inj.1 (toNat_of x.toNat_lt)
theorem num_l1 (x : UInt8) (h : x.toNat < 128) : num (lval [x]) = [x] := by
  have e : lval [x] = x.toNat := by simp [lval]; omega
  rw [e, num1 h, ofNat_eq rfl]
theorem num_l2 (x y : UInt8) (hx : 128 ≤ x.toNat) (hy : y.toNat < 128) : num (lval [x, y]) = [x, y] ↔ 0 < y.toNat := by
  have e : lval [x, y] = x.toNat % 128 + 128 * y.toNat := by simp [lval]; omega
  rw [e]
  by_cases h : 0 < y.toNat
  · refine ⟨fun _ => h, fun _ => ?_⟩
    rw [num2 (by omega) (by omega), ofNat_eq (x := x) (by have := two_mod hx; omega), ofNat_eq (x := y) (by omega)]
  · refine ⟨fun hh => ?_, fun hh => absurd hh h⟩
    rw [num1 (by omega)] at hh
    simp at hh
theorem num_l3 (x y z : UInt8) (hx : 128 ≤ x.toNat) (hy : 128 ≤ y.toNat) (hz : z.toNat < 128) : num (lval [x, y, z]) = [x, y, z] ↔ 0 < z.toNat := by
  have e : lval [x, y, z] = x.toNat % 128 + 128 * (y.toNat % 128 + 128 * z.toNat) := by simp [lval]; omega
  rw [e]
  by_cases h : 0 < z.toNat
  · refine ⟨fun _ => h, fun _ => ?_⟩
    rw [num3 (by omega) (by omega), ofNat_eq (x := x) (by have := two_mod hx; omega), ofNat_eq (x := y) (by have := two_mod hy; omega), ofNat_eq (x := z) (by omega)]
  · refine ⟨fun hh => ?_, fun hh => absurd hh h⟩
    by_cases h1 : x.toNat % 128 + 128 * (y.toNat % 128 + 128 * z.toNat) < 128
    · rw [num1 h1] at hh; simp at hh
    · rw [num2 h1 (by omega)] at hh; simp at hh
theorem lenAt_hit (L : List UInt8) (k : Nat) (h1 : 1 ≤ k) (h3 : k ≤ 3) (hl : k < L.length) (hj : ∀ j, 1 ≤ j → j < k → 128 ≤ B L j) (hk : B L k < 128) :
    Shp ((L.drop 1).take k) ∧ lenAt L = if num (lval ((L.drop 1).take k)) = (L.drop 1).take k ∧ lval ((L.drop 1).take k) ≤ 65536 then .ok (1 + k) (lval ((L.drop 1).take k)) else .bad := by
  match L, hl with
  | [], hl => simp at hl
  | [_], hl => simp at hl; omega
  | c0 :: c1 :: r, hl =>
    by_cases k1 : k = 1
    · subst k1
      have hb : c1.toNat < 128 := hk
      have e : ((c0 :: c1 :: r).drop 1).take 1 = [c1] := rfl
      rw [e]
      have ev : lval [c1] = c1.toNat := by simp [lval]; omega
      refine ⟨⟨by simp, by simp, fun i hi => ?_⟩, ?_⟩
      · simp at hi; subst hi; exact ⟨fun h => by simp at h, fun _ => hb⟩
      · rw [if_pos ⟨num_l1 c1 hb, by rw [ev]; omega⟩, ev]
        unfold lenAt
        rw [if_neg (by simp), if_pos (show B (c0 :: c1 :: r) 1 < 128 from hb)]
        rfl
    · have hb1 : 128 ≤ c1.toNat := hj 1 (by omega) (by omega)
      match r, hl with
      | [], hl => simp at hl; omega
      | c2 :: r, hl =>
        by_cases k2 : k = 2
        · subst k2
          have hb : c2.toNat < 128 := hk
          have e : ((c0 :: c1 :: c2 :: r).drop 1).take 2 = [c1, c2] := rfl
          rw [e]
          have ev : lval [c1, c2] = c1.toNat % 128 + 128 * c2.toNat := by simp [lval]; omega
          refine ⟨⟨by simp, by simp, fun i hi => ?_⟩, ?_⟩
          · match i, hi with
            | 0, _ => exact ⟨fun _ => hb1, fun h => by simp at h⟩
            | 1, _ => exact ⟨fun h => by simp at h, fun _ => hb⟩
            | i + 2, h => exact absurd h (by simp)
          · have hn := num_l2 c1 c2 hb1 hb
            unfold lenAt
            have e1 : B (c0 :: c1 :: c2 :: r) 1 = c1.toNat := rfl
            have e2 : B (c0 :: c1 :: c2 :: r) 2 = c2.toNat := rfl
            rw [e1, e2, if_neg (by simp), if_neg (by omega), if_neg (by simp), if_pos hb]
            by_cases h0 : c2.toNat = 0
            · rw [if_pos h0, if_neg (fun h => by have := hn.1 h.1; omega)]
            · rw [if_neg h0, if_pos ⟨hn.2 (by omega), by rw [ev]; omega⟩, ev]
        · obtain rfl : k = 3 := by omega
          have hb2 : 128 ≤ c2.toNat := hj 2 (by omega) (by omega)
          match r, hl with
          | [], hl => simp at hl
          | c3 :: r, hl =>
            have hb : c3.toNat < 128 := hk
            have e : ((c0 :: c1 :: c2 :: c3 :: r).drop 1).take 3 = [c1, c2, c3] := rfl
            rw [e]
            have ev : lval [c1, c2, c3] = size3 (c0 :: c1 :: c2 :: c3 :: r) := by
              have e1 : B (c0 :: c1 :: c2 :: c3 :: r) 1 = c1.toNat := rfl
              have e2 : B (c0 :: c1 :: c2 :: c3 :: r) 2 = c2.toNat := rfl
              have e3 : B (c0 :: c1 :: c2 :: c3 :: r) 3 = c3.toNat := rfl
              unfold size3
              rw [e1, e2, e3]
              simp [lval]; omega
            refine ⟨⟨by simp, by simp, fun i hi => ?_⟩, ?_⟩
            · match i, hi with
              | 0, _ => exact ⟨fun _ => hb1, fun h => by simp at h⟩
              | 1, _ => exact ⟨fun _ => hb2, fun h => by simp at h⟩
              | 2, _ => exact ⟨fun h => by simp at h, fun _ => hb⟩
              | i + 3, h => exact absurd h (by simp)
            · have hn := num_l3 c1 c2 c3 hb1 hb2 hb
              rw [ev] at hn ⊢
              unfold lenAt
              have e1 : B (c0 :: c1 :: c2 :: c3 :: r) 1 = c1.toNat := rfl
              have e2 : B (c0 :: c1 :: c2 :: c3 :: r) 2 = c2.toNat := rfl
              have e3 : B (c0 :: c1 :: c2 :: c3 :: r) 3 = c3.toNat := rfl
              rw [e1, e2, e3, if_neg (by simp), if_neg (by omega), if_neg (by simp), if_neg (by omega), if_neg (by simp), if_pos hb]
              by_cases hc : size3 (c0 :: c1 :: c2 :: c3 :: r) ≤ 65536 ∧ 0 < c3.toNat
              · rw [if_pos hc, if_pos ⟨hn.2 hc.2, hc.1⟩]
              · rw [if_neg hc, if_neg (fun h => hc ⟨h.2, hn.1 h.1⟩)]
theorem lenAt_exit (L : List UInt8) (k : Nat) (h1 : 1 ≤ k) (h4 : k ≤ 4) (hx : k = 4 ∨ L.length = k) (hj : ∀ j, 1 ≤ j → j < k → 128 ≤ B L j) :
    lenAt L = if 4 ≤ L.length then .bad else .need := by
  unfold lenAt
  by_cases c1 : L.length ≤ 1
  · rw [if_pos c1, if_neg (by omega)]
  rw [if_neg c1]
  have b1 := hj 1 (by omega) (by omega)
  rw [if_neg (by omega)]
  by_cases c2 : L.length ≤ 2
  · rw [if_pos c2, if_neg (by omega)]
  rw [if_neg c2]
  have b2 := hj 2 (by omega) (by omega)
  rw [if_neg (by omega)]
  by_cases c3 : L.length ≤ 3
  · rw [if_pos c3, if_neg (by omega)]
  rw [if_neg c3]
  have b3 := hj 3 (by omega) (by omega)
  rw [if_neg (by omega), if_pos (by omega)]
end Fr
end Go.Proofs.YtggiinfeiilogaaDoor
