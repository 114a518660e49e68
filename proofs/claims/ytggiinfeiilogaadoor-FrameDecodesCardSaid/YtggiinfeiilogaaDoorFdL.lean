/- Contract of the reference's length. -/
import Derived.Test.YtggiinfeiilogaaDoorFdP
import Derived.Test.YtggiinfeiilogaaDoorFdR
import Derived.Test.YtggiinfeiilogaaDoorFrT
namespace Go.Proofs.YtggiinfeiilogaaDoor
open Go.RowKit
/-- What the reference's 'length' returns at offset a + 1. -/
def RLenPost (a : Nat) (x : Fr.Len) (e : Ending) : Prop :=
  match x with
  | .ok b s => e = .returned (.tuple #[.int .i64 (s : Int), .int .i64 ((a + b : Nat) : Int), .bool true, .bool false])
  | .bad => ∃ c, e = .returned (.tuple #[.int .i64 0, .int .i64 0, .bool c, .bool true])
  | .need => e = .returned (.tuple #[.int .i64 0, .int .i64 0, .bool false, .bool false])
section
variable {w w' : World} {F : Nat → Prop} {xv : Value} {S : List UInt8}
set_option maxRecDepth 100000 in
set_option maxHeartbeats 2000000 in
theorem reflen_any {a : Nat} (hx : BV w F xv S) (hF : ∀ k, F k → k < w.heap.size) (ha : a < S.length) (hn : S.length ≤ 1000000) : Calls Tryd.prog 52 #[xv, .int .i64 ((a : Int) + 1)] w fun e w' => RLenPost a (Fr.lenAt (S.drop a)) e ∧ Below w.heap.size w w' := by
  have HX := Lib.hid hx
  have HF := Lib.hid hF
  obtain ⟨xa, xc, rfl, x1, x2, hg⟩ := hx.get
  obtain ⟨xb, xo, rfl, hxb, -⟩ := hg 0 (by omega)
  have hcell : ∀ i, (h : i < S.length) → w.cell? ⟨xb, xo + i, none⟩ = some (.int .u8 (S[i].toNat : Int)) := fun i hi => by
    obtain ⟨b', o', e, _, h⟩ := hg i hi
    simp only [Option.some.injEq, Addr.mk.injEq, and_true] at e
    obtain ⟨rfl, rfl⟩ := e
    exact h
  unfold maxLen at x2
  obtain ⟨n, hnn⟩ : ∃ n, S.length = n := ⟨_, rfl⟩
  obtain ⟨L, hL⟩ : ∃ L, S.drop a = L := ⟨_, rfl⟩
  have hLl : L.length = n - a := by rw [← hL, List.length_drop, hnn]
  have hB : ∀ j, (h : a + j < S.length) → Fr.B L j = S[a + j].toNat := fun j h => by
    unfold Fr.B
    rw [← hL, List.getD_eq_getElem?_getD, List.getElem?_drop, List.getElem?_eq_getElem h]
    rfl
  rw [hL]
  rw [hnn] at ha hn x1 HX ⊢
  have HCELL := Lib.hid hcell
  have HN := Lib.hid hnn
  have HL := Lib.hid hL
  have HLL := Lib.hid hLl
  have HB := Lib.hid hB
  have ia : (a : Int) < (n : Int) := by omega
  have in_ : (n : Int) ≤ 1000000 := by omega
  clear hx hF hg hxb hcell hnn hL hLl hB
  go_enter Tryd.func52, Tryd.ntmps52
  go_wp2_with fail
  go_loopw [8] (fun s8 wr => ∃ k : Nat, 1 ≤ k ∧ k ≤ 4 ∧ s8 = .int .i64 (k : Int) ∧ a + k ≤ n ∧ (∀ j, 1 ≤ j → j < k → 128 ≤ Fr.B L j) ∧ wr = w) (fun s8 _ => 10 - (intOf s8).toNat)
  case atStart => exact ⟨1, by omega, by omega, rfl, by omega, fun j h1 h2 => by omega, rfl⟩
  case round =>
    obtain ⟨k, hk1, hk4, rfl, hkn, hj, rfl⟩ := hrel
    have HJ := Lib.hid hj
    have ik1 : (1 : Int) ≤ (k : Int) := by omega
    have ik4 : (k : Int) ≤ 4 := by omega
    clear hj
    by_cases hin : k ≤ 3 ∧ a + k < n
    · obtain ⟨hk3, hkl⟩ := hin
      have ik3 : (k : Int) ≤ 3 := by omega
      have ikl : (a : Int) + 1 + (k : Int) ≤ (n : Int) := by omega
      have hc := HCELL.out (a + k) (by rw [HN.out]; exact hkl)
      have hb := HB.out k (by rw [HN.out]; exact hkl)
      obtain ⟨y, hy⟩ : ∃ y, S[a + k]'(by rw [HN.out]; exact hkl) = y := ⟨_, rfl⟩
      rw [hy] at hc hb
      have HBK := Lib.hid hb
      have hix : a + 1 + k - 1 = a + k := by omega
      by_cases hy8 : 128 ≤ y.toNat
      · have iy : (128 : Int) ≤ (y.toNat : Int) := by omega
        have HY8 := Lib.hid hy8
        clear hy hb hy8
        go_wp2_with fail
        refine ⟨⟨k + 1, by omega, by omega, by go_num, by omega, fun j h1 h2 => ?_, trivial⟩, by simp [intOf]; omega⟩
        by_cases hjk : j < k
        · exact HJ.out j h1 hjk
        · obtain rfl : j = k := by omega
          rw [HBK.out]; exact HY8.out
      · have iy : ¬ (128 : Int) ≤ (y.toNat : Int) := by omega
        have hhit := Fr.lenAt_hit L k hk1 hk3 (by rw [HLL.out]; omega) HJ.out (by rw [hb]; omega)
        obtain ⟨lk, hlk⟩ : ∃ lk, (L.drop 1).take k = lk := ⟨_, rfl⟩
        rw [hlk] at hhit
        have hlkl : lk.length = k := by rw [← hlk, List.length_take, List.length_drop, HLL.out]; omega
        have HSH := Lib.hid hhit.1
        have HLEN := Lib.hid hhit.2
        have HLKL := Lib.hid hlkl
        have HSUB : Hid (BV wr F (.slice (some ⟨xb, xo + (a + 1), none⟩) k (xc - (a + 1))) lk) := Lib.hid (by
          have h := HX.out.subAt (lo := a + 1) (k := k) HN.out (by omega)
          rw [← List.drop_drop, HL.out, hlk] at h
          exact h)
        clear hhit hlk hlkl hy hb hy8
        have hbz : Below wr.heap.size wr (wr.alloc (.cells #[.slice (some ⟨xb, xo + (a + 1), none⟩) k (xc - (a + 1)), .int .i64 0, .int .i64 0, .int .i64 0] 98)) := (Below.refl _ _).alloc (Nat.le_refl _) _
        have BR : Hid (Blk (wr.alloc (.cells #[.slice (some ⟨xb, xo + (a + 1), none⟩) k (xc - (a + 1)), .int .i64 0, .int .i64 0, .int .i64 0] 98)) wr.heap.size [.slice (some ⟨xb, xo + (a + 1), none⟩) k (xc - (a + 1)), .int .i64 0, .int .i64 0, .int .i64 0] 98) := Lib.hid (Blk.new _ _ _)
        have HS1 := Lib.hid (HSUB.out.grow hbz)
        have HF1 : Hid (∀ x, F x → x < (wr.alloc (.cells #[.slice (some ⟨xb, xo + (a + 1), none⟩) k (xc - (a + 1)), .int .i64 0, .int .i64 0, .int .i64 0] 98)).heap.size) := Lib.hid (fun x hx => Nat.lt_of_lt_of_le (HF.out x hx) hbz.size)
        have BB1 := Lib.hid hbz
        clear hbz
        go_wp2_with fail
        generalize (wr.alloc (.cells #[.slice (some ⟨xb, xo + (a + 1), none⟩) k (xc - (a + 1)), .int .i64 0, .int .i64 0, .int .i64 0] 98)) = w1 at *
        obtain ⟨v, hv⟩ : ∃ v, Fr.lval lk = v := ⟨_, rfl⟩
        have HV := Lib.hid hv
        have hlv := HLEN.out
        rw [hv] at hlv
        by_cases hok : Fr.num v = lk
        · have HOK : Hid (Fr.num (Fr.lval lk) = lk) := Lib.hid (by rw [hv]; exact hok)
          have hvl : v < 2097152 := by rw [← hv]; have h := Fr.lval_le lk HSH.out.2.1 0; rwa [List.drop_zero] at h
          refine (refRead_ok BR.out HS1.out HF1.out HSH.out HOK.out HV.out HLKL.out).mono ?_
          rintro e w2 ⟨rfl, hst, hbr⟩
          have BQ : Hid (Below wr.heap.size wr w2) := Lib.hid (BB1.out.trans (hst.below (fun x hx => by omega) BB1.out.size))
          have BR2 := Lib.hid hbr
          have BZ : Hid (Below wr.heap.size wr (w2.alloc (.cells (vC 1 (v : Int)).toArray 100))) := Lib.hid (BQ.out.alloc BQ.out.size _)
          have r3 : (w2.alloc (.cells (vC 1 (v : Int)).toArray 100)).cell? ⟨wr.heap.size, 3, none⟩ = some (.int .i64 0) := (hbr.alloc _).cell (i := 3) rfl
          have rl := hbr.lt
          clear hst hbr
          by_cases hv6 : v ≤ 65536
          · have iv : (v : Int) ≤ 65536 := by omega
            have HE : Hid (Fr.lenAt L = .ok (1 + k) v) := Lib.hid (by rw [hlv, if_pos ⟨hok, hv6⟩])
            clear hlv hok hv hv6 hvl
            go_wp2_with fail
            refine bodyPost_ret (results_tmp4 rfl _ _ _) rfl ⟨?_, BZ.out⟩
            rw [HE.out]
            show Ending.returned _ = _
            rw [show ((a + (1 + k) : Nat) : Int) = (a : Int) + 1 + (k : Int) from by omega]
            rfl
          · have iv : ¬ (v : Int) ≤ 65536 := by omega
            have iv2 : (65536 : Int) < (v : Int) := by omega
            have HE : Hid (Fr.lenAt L = .bad) := Lib.hid (by rw [hlv, if_neg (fun h => hv6 h.2)])
            clear hlv hok hv hv6 iv
            go_wp2_with fail
            refine bodyPost_ret (results_tmp4 rfl _ _ _) rfl ⟨?_, BZ.out⟩
            rw [HE.out]
            exact ⟨_, rfl⟩
        · have HNO : Hid (Fr.num (Fr.lval lk) ≠ lk) := Lib.hid (by rw [hv]; exact hok)
          have HE : Hid (Fr.lenAt L = .bad) := Lib.hid (by rw [hlv, if_neg (fun h => hok h.1)])
          refine (refRead_no BR.out HS1.out HF1.out HSH.out HNO.out).mono ?_
          rintro e w2 ⟨rfl, hst, hbr⟩
          have BQ : Hid (Below wr.heap.size wr w2) := Lib.hid (BB1.out.trans (hst.below (fun x hx => by omega) BB1.out.size))
          have BZ : Hid (Below wr.heap.size wr (w2.alloc (.cells (vC 1 0).toArray 100))) := Lib.hid (BQ.out.alloc BQ.out.size _)
          have r3 : (w2.alloc (.cells (vC 1 0).toArray 100)).cell? ⟨wr.heap.size, 3, none⟩ = some (.int .i64 3) := (hbr.alloc _).cell (i := 3) rfl
          have rl := hbr.lt
          clear hst hbr hlv hok hv
          go_wp2_with fail
          refine bodyPost_ret (results_tmp4 rfl _ _ _) rfl ⟨?_, BZ.out⟩
          rw [HE.out]
          exact ⟨_, rfl⟩
    · have hx4 : k = 4 ∨ L.length = k := by
        have := HLL.out
        by_cases h : k = 4
        · exact .inl h
        · exact .inr (by omega)
      have hex := Fr.lenAt_exit L k hk1 hk4 hx4 HJ.out
      have HEX := Lib.hid hex
      have HLE : Hid (L.length = n - a) := HLL
      clear hex
      by_cases h4 : k = 4
      · subst h4
        have h3 : (3 : Int) ≤ (n : Int) - ((a : Int) + 1) := by omega
        have HE : Hid (Fr.lenAt L = .bad) := Lib.hid (by rw [HEX.out, if_pos (by rw [HLE.out]; omega)])
        clear hx4 hin
        go_wp2_with fail
        refine bodyPost_ret (results_tmp4 rfl _ _ _) rfl ⟨?_, Below.refl _ _⟩
        rw [HE.out]
        exact ⟨_, rfl⟩
      · have ik3 : (k : Int) ≤ 3 := by omega
        have ikl : ¬ (a : Int) + 1 + (k : Int) ≤ (n : Int) := by omega
        have h3 : ¬ (3 : Int) ≤ (n : Int) - ((a : Int) + 1) := by omega
        have HE : Hid (Fr.lenAt L = .need) := Lib.hid (by rw [HEX.out, if_neg (by rw [HLE.out]; omega)])
        clear hx4 hin h4
        go_wp2_with fail
        refine bodyPost_ret (results_tmp4 rfl _ _ _) rfl ⟨?_, Below.refl _ _⟩
        rw [HE.out]
        rfl
end
end Go.Proofs.YtggiinfeiilogaaDoor
