/- The reference's number reader: its contract for the bytes that 'length' gives it. -/
import Derived.Test.YtggiinfeiilogaaDoorFrZ
import Derived.BigQuiet
import Derived.Deep.QuietTactic
namespace Go.Proofs.YtggiinfeiilogaaDoor
open Go.RowKit
namespace Fr
/-- The number that bytes say, seven bits each, the least first. -/
def lval : List UInt8 → Nat
  | [] => 0
  | x :: xs => x.toNat % 128 + 128 * lval xs
/-- Up to three bytes, of which the last alone is below 128. -/
def Shp (l : List UInt8) : Prop := 1 ≤ l.length ∧ l.length ≤ 3 ∧ ∀ i, (h : i < l.length) → (i + 1 < l.length → 128 ≤ l[i].toNat) ∧ (i + 1 = l.length → l[i].toNat < 128)
theorem lval_drop (l : List UInt8) (i : Nat) (h : i < l.length) : lval (l.drop i) = l[i].toNat % 128 + 128 * lval (l.drop (i + 1)) := by
  rw [List.drop_eq_getElem_cons h]; rfl
theorem lval_lt : ∀ (l : List UInt8), lval l < 128 ^ l.length
  | [] => by simp [lval]
  | x :: xs => by
    have := lval_lt xs
    simp only [lval, List.length_cons, Nat.pow_succ]
    omega
theorem lval_le (l : List UInt8) (h : l.length ≤ 3) (j : Nat) : lval (l.drop j) < 2097152 := by
  have h1 := lval_lt (l.drop j)
  have h2 : (l.drop j).length ≤ 3 := by rw [List.length_drop]; omega
  have h3 : 128 ^ (l.drop j).length ≤ 128 ^ 3 := Nat.pow_le_pow_right (by decide) h2
  omega
end Fr
def NumPost (l : List UInt8) (e : Ending) : Prop :=
  (Fr.num (Fr.lval l) = l ∧ e = .returned (.tuple #[.int .u64 (Fr.lval l : Int), .int .i64 (l.length : Int), .bool true])) ∨ (Fr.num (Fr.lval l) ≠ l ∧ e = .returned (.tuple #[.int .u64 0, .int .i64 0, .bool false]))
section
variable {w w' : World} {F : Nat → Prop} {xv : Value} {l : List UInt8}
set_option maxRecDepth 100000 in
set_option maxHeartbeats 2000000 in
theorem refnumber_any (hx : BV w F xv l) (hF : ∀ k, F k → k < w.heap.size) (hs : Fr.Shp l) : Calls Tryd.prog 69 #[xv, .int .i64 0] w fun e w' => NumPost l e ∧ Below w.heap.size w w' := by
  obtain ⟨xa, xc, rfl, x1, x2, hg⟩ := hx.get
  unfold maxLen at x2
  obtain ⟨hs1, hs3, hsb⟩ := hs
  obtain ⟨n, hn⟩ : ∃ n, l.length = n := ⟨_, rfl⟩
  obtain ⟨xb, xo, rfl, hxb, -⟩ := hg 0 (by omega)
  have hcell : ∀ i, (h : i < l.length) → w.cell? ⟨xb, xo + i, none⟩ = some (.int .u8 (l[i].toNat : Int)) := fun i hi => by
    obtain ⟨b', o', e, _, h⟩ := hg i hi
    simp only [Option.some.injEq, Addr.mk.injEq, and_true] at e
    obtain ⟨rfl, rfl⟩ := e
    exact h
  rw [hn] at hs1 hs3 x1 ⊢
  have HN := Lib.hid hn
  have HCELL := Lib.hid hcell
  have HSB := Lib.hid hsb
  have HXB := Lib.hid (hF xb hxb)
  have i3 : (n : Int) ≤ 3 := by omega
  have i1 : (1 : Int) ≤ (n : Int) := by omega
  clear hx hg hcell hsb hn hF hxb
  go_enter Tryd.func69, Tryd.ntmps69
  go_wp2_with fail
  go_loopw [7] (fun s7 wr => ∃ k : Nat, 1 ≤ k ∧ k ≤ n ∧ s7 = .int .i64 (k : Int) ∧ wr = w) (fun s7 _ => 10 - (intOf s7).toNat)
  case atStart => exact ⟨1, by omega, by omega, rfl, rfl⟩
  case round =>
    obtain ⟨k, hk1, hkn, rfl, rfl⟩ := hrel
    have ik1 : (1 : Int) ≤ (k : Int) := by omega
    have ikn : (k : Int) ≤ (n : Int) := by omega
    obtain ⟨y, hy⟩ : ∃ y, l[k - 1]'(by rw [HN.out]; omega) = y := ⟨_, rfl⟩
    have hc := HCELL.out (k - 1) (by rw [HN.out]; omega)
    have hyb := HSB.out (k - 1) (by rw [HN.out]; omega)
    rw [hy] at hc hyb
    rw [HN.out] at hyb
    obtain ⟨p, hp⟩ : ∃ p, k = p + 1 := ⟨k - 1, by omega⟩
    subst hp
    rw [Nat.add_sub_cancel] at hc hyb
    by_cases hlt : p + 1 < n
    · have iy : (128 : Int) ≤ (y.toNat : Int) := by have := hyb.1 hlt; omega
      clear hyb hy
      have hpe : ((p + 1 : Nat) : Int) - 1 = (p : Int) := by omega
      go_wp2_with fail
      refine ⟨⟨p + 1 + 1, by omega, by omega, by go_num, trivial⟩, by simp [intOf]; omega⟩
    · obtain rfl : n = p + 1 := by omega
      have iy : ¬ (128 : Int) ≤ (y.toNat : Int) := by have := hyb.2 rfl; omega
      have hdn : Fr.lval (l.drop (p + 1)) = 0 := by rw [List.drop_of_length_le (by rw [HN.out]; omega)]; rfl
      have HDN := Lib.hid hdn
      clear hyb hy hdn hlt
      go_wp2_with fail
      go_loopw [8, 9] (fun s8 s9 wr2 => ∃ j : Nat, j ≤ p + 1 ∧ s9 = .int .i64 ((j : Int) - 1) ∧ s8 = .int .u64 (Fr.lval (l.drop j) : Int) ∧ wr2 = wr) (fun _ s9 _ => (intOf s9 + 1).toNat)
      case atStart => exact ⟨p + 1, by omega, by go_num, by rw [HDN.out]; rfl, rfl⟩
      case round =>
        obtain ⟨j, hj, rfl, rfl, rfl⟩ := hrel
        have hv := Fr.lval_le l (by rw [HN.out]; omega) j
        obtain ⟨v, hvv⟩ : ∃ v, Fr.lval (l.drop j) = v := ⟨_, rfl⟩
        rw [hvv] at hv ⊢
        have HVV := Lib.hid hvv
        have iv : (v : Int) < 2097152 := by omega
        clear hvv
        by_cases hj0 : j = 0
        · subst hj0
          have HL0 : Hid (Fr.lval l = v) := HVV
          go_wp2_with fail
          refine (refnum_any wr v hv).mono ?_
          rintro e w2 ⟨sv, rfl, hN2⟩
          have hle := Fr.num_le (n := v) (by omega)
          obtain ⟨sa, sc, rfl, _, _, _, _⟩ := hN2.2.1.form
          have N2 := Lib.hid hN2
          obtain ⟨q, hq⟩ : ∃ q, (Fr.num v).length = q := ⟨_, rfl⟩
          rw [hq] at N2 hle ⊢
          have HQ := Lib.hid hq
          have B2 := Lib.hid hN2.1
          have hq1 : 0 < q := by rw [← hq]; exact Fr.num_pos v
          clear hN2 hq
          by_cases hqp : q = p + 1
          rotate_left
          · have iqb : ((q : Int) == (p : Int) + 1) = false := by rw [beq_eq_false_iff_ne]; omega
            have iqn : ((q : Int) != (p : Int) + 1) = true := by rw [bne, iqb]; rfl
            have HNO : Hid (Fr.num (Fr.lval l) ≠ l) := Lib.hid (fun h => hqp (by rw [← HQ.out, ← HL0.out, h, HN.out]))
            clear hqp
            go_wp2_with fail
            go_ret3
            exact ⟨.inr ⟨HNO.out, rfl⟩, B2.out⟩
          subst hqp
          go_wp2_with fail
          go_loopw [11] (fun s11 wz => ∃ j : Nat, j ≤ p + 1 ∧ s11 = .int .i64 (j : Int) ∧ (Fr.num v).take j = l.take j ∧ Below w2.heap.size w2 wz) (fun s11 _ => 10 - (intOf s11).toNat)
          case atStart => exact ⟨0, by omega, rfl, by simp, Below.refl _ _⟩
          case round =>
            obtain ⟨j, hj, rfl, htk, hbz⟩ := hrel
            have HTK := Lib.hid htk
            have HBZ := Lib.hid hbz
            clear htk hbz
            by_cases hjl : j < p + 1
            · have ij : (j : Int) < (p : Int) + 1 := by omega
              obtain ⟨_, _, e1, _, _, hget⟩ := (N2.out.bvs.grow HBZ.out).get
              rw [HQ.out] at e1
              obtain ⟨rfl, rfl⟩ : _ ∧ _ := by simpa using e1
              obtain ⟨gb, go, rfl, _, hg1⟩ := hget j (by rw [HQ.out]; exact hjl)
              have hl1 := ((B2.out.trans (HBZ.out.mono B2.out.size)).cell (p := ⟨xb, xo + j, none⟩) HXB.out).trans (HCELL.out j (by rw [HN.out]; exact hjl))
              have hnx : (Fr.num v).take (j + 1) = (Fr.num v).take j ++ [(Fr.num v)[j]'(by rw [HQ.out]; exact hjl)] := List.take_succ_eq_append_getElem (by rw [HQ.out]; exact hjl)
              have hlx : l.take (j + 1) = l.take j ++ [l[j]'(by rw [HN.out]; exact hjl)] := List.take_succ_eq_append_getElem (by rw [HN.out]; exact hjl)
              have hne : (Fr.num v)[j]'(by rw [HQ.out]; exact hjl) ≠ l[j]'(by rw [HN.out]; exact hjl) → Fr.num (Fr.lval l) ≠ l := fun h1 h2 => h1 (by
                rw [HL0.out] at h2
                simp only [h2])
              obtain ⟨y1, hy1⟩ : ∃ y1, (Fr.num v)[j]'(by rw [HQ.out]; exact hjl) = y1 := ⟨_, rfl⟩
              obtain ⟨y2, hy2⟩ : ∃ y2, l[j]'(by rw [HN.out]; exact hjl) = y2 := ⟨_, rfl⟩
              rw [hy1] at hg1 hnx hne
              rw [hy2] at hl1 hlx hne
              have HNX := Lib.hid hnx
              have HLX := Lib.hid hlx
              clear hget e1 hy1 hy2 hnx hlx
              by_cases hyy : y1 = y2
              · subst hyy
                clear hne
                go_wp2_with fail
                go_quiet (fail)
                go_wp2_with fail
                refine ⟨⟨j + 1, by omega, by go_num, by rw [HNX.out, HLX.out, HTK.out], below_drewN2 HBZ.out _⟩, by simp [intOf]; omega⟩
              · have HNO := Lib.hid (hne hyy)
                have iyy : ((y1.toNat : Int) == (y2.toNat : Int)) = false := by
                  rw [beq_eq_false_iff_ne]
                  exact fun h => hyy (UInt8.toNat_inj.1 (by omega))
                have iyn : ((y1.toNat : Int) != (y2.toNat : Int)) = true := by rw [bne, iyy]; rfl
                clear hne hyy
                go_wp2_with fail
                go_quiet (fail)
                go_wp2_with fail
                go_ret3
                exact ⟨.inr ⟨HNO.out, rfl⟩, B2.out.trans ((below_drewN2 HBZ.out _).mono B2.out.size)⟩
            · have ij : ¬ (j : Int) < (p : Int) + 1 := by omega
              obtain rfl : j = p + 1 := by omega
              have HYES : Hid (Fr.num (Fr.lval l) = l) := Lib.hid (by
                have h := HTK.out
                rw [List.take_of_length_le (by rw [HQ.out]; omega), List.take_of_length_le (by rw [HN.out]; omega)] at h
                rw [HL0.out]; exact h)
              go_wp2_with fail
              go_ret3
              exact ⟨.inl ⟨HYES.out, by rw [HL0.out, HN.out]; rfl⟩, B2.out.trans (HBZ.out.mono B2.out.size)⟩
        · obtain ⟨i, rfl⟩ : ∃ i, j = i + 1 := ⟨j - 1, by omega⟩
          have hij : ((i + 1 : Nat) : Int) - 1 = (i : Int) := by omega
          rw [hij]
          have hci := HCELL.out i (by rw [HN.out]; omega)
          have hld := Fr.lval_drop l i (by rw [HN.out]; omega)
          obtain ⟨x, hx⟩ : ∃ x, l[i]'(by rw [HN.out]; omega) = x := ⟨_, rfl⟩
          rw [hx] at hci hld
          rw [HVV.out] at hld
          have HLD := Lib.hid hld
          have hii : (i : Int) < ((p + 1 : Nat) : Int) := by omega
          have ix : (x.toNat : Int) ≤ 255 := by have := x.toNat_lt; omega
          clear hij hx hld hj0
          go_wp2_with fail
          refine ⟨⟨i, by omega, by go_num, by rw [HLD.out]; go_num, trivial⟩, by simp [intOf]⟩
end
end Go.Proofs.YtggiinfeiilogaaDoor
