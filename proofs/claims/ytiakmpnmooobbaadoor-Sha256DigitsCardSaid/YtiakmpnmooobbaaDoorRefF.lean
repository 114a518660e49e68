/- Contract of the reference's digit and FromHex. -/
import Derived.Test.YtiakmpnmooobbaaDoorRefH
import Derived.BigQuiet
import Derived.Deep.QuietTactic
namespace Go.Proofs.YtiakmpnmooobbaaDoor
open Go.RowKit
def digV (y : UInt8) : Int := if Sha.isDig y then ((Sha.dig y).toNat : Int) else -1
section
variable {w : World}
set_option maxHeartbeats 400000 in
theorem digit_any (y : UInt8) : Calls Tryd.prog 28 #[.int .u8 (y.toNat : Int)] w fun e w' => e = .returned (.int .i64 (digV y)) ∧ w = w' := by
  have y256 := y.toNat_lt
  have hcase : (48 ≤ y.toNat ∧ y.toNat ≤ 57) ∨ (97 ≤ y.toNat ∧ y.toNat ≤ 102) ∨ y.toNat < 48 ∨ (57 < y.toNat ∧ y.toNat < 97) ∨ 102 < y.toNat := by omega
  rcases hcase with ⟨h1, h2⟩ | ⟨h1, h2⟩ | h1 | ⟨h1, h2⟩ | h1
  · have j1 : (48 : Int) ≤ (y.toNat : Int) := by omega
    have j2 : (y.toNat : Int) ≤ 57 := by omega
    have hv : digV y = (y.toNat : Int) - 48 := by
      have hd : Sha.isDig y = true := by unfold Sha.isDig; simp; omega
      unfold digV
      rw [if_pos hd]
      unfold Sha.dig
      rw [if_pos h2, UInt8.toNat_sub]
      simp; omega
    rw [hv]
    clear hv
    go_enter Tryd.func28, Tryd.ntmps28
    go_wp2_with fail
    go_ret
    exact ⟨rfl, rfl⟩
  · have j1 : (97 : Int) ≤ (y.toNat : Int) := by omega
    have j2 : (y.toNat : Int) ≤ 102 := by omega
    have j3 : (57 : Int) < (y.toNat : Int) := by omega
    have j4 : (48 : Int) ≤ (y.toNat : Int) := by omega
    have hv : digV y = (y.toNat : Int) - 97 + 10 := by
      have hd : Sha.isDig y = true := by unfold Sha.isDig; simp; omega
      unfold digV
      rw [if_pos hd]
      unfold Sha.dig
      rw [if_neg (by omega), UInt8.toNat_add, UInt8.toNat_sub]
      simp; omega
    rw [hv]
    clear hv
    go_enter Tryd.func28, Tryd.ntmps28
    go_wp2_with fail
    go_ret
    exact ⟨rfl, rfl⟩
  · have j1 : (y.toNat : Int) < 48 := by omega
    have j2 : (y.toNat : Int) < 97 := by omega
    have hv : digV y = -1 := by
      have hd : Sha.isDig y = false := by unfold Sha.isDig; simp; omega
      unfold digV; rw [hd]; rfl
    rw [hv]
    clear hv
    go_enter Tryd.func28, Tryd.ntmps28
    go_wp2_with fail
    go_ret
    exact ⟨rfl, rfl⟩
  · have j1 : (57 : Int) < (y.toNat : Int) := by omega
    have j2 : (y.toNat : Int) < 97 := by omega
    have j3 : (48 : Int) ≤ (y.toNat : Int) := by omega
    have hv : digV y = -1 := by
      have hd : Sha.isDig y = false := by unfold Sha.isDig; simp; omega
      unfold digV; rw [hd]; rfl
    rw [hv]
    clear hv
    go_enter Tryd.func28, Tryd.ntmps28
    go_wp2_with fail
    go_ret
    exact ⟨rfl, rfl⟩
  · have j1 : (102 : Int) < (y.toNat : Int) := by omega
    have j2 : (97 : Int) ≤ (y.toNat : Int) := by omega
    have j3 : (57 : Int) < (y.toNat : Int) := by omega
    have j4 : (48 : Int) ≤ (y.toNat : Int) := by omega
    have hv : digV y = -1 := by
      have hd : Sha.isDig y = false := by unfold Sha.isDig; simp; omega
      unfold digV; rw [hd]; rfl
    rw [hv]
    clear hv
    go_enter Tryd.func28, Tryd.ntmps28
    go_wp2_with fail
    go_ret
    exact ⟨rfl, rfl⟩
theorem dig_is {w : World} {y : UInt8} {d : Int} (n : Nat) (h : digV y = d) : Calls Tryd.prog 28 #[.int .u8 (y.toNat : Int)] (w.drewN n) fun e w' => e = .returned (.int .i64 d) ∧ w' = w.drewN n := by
  refine (digit_any (w := w.drewN n) y).mono ?_
  rintro e w' ⟨rfl, rfl⟩
  rw [h]
  exact ⟨rfl, rfl⟩
theorem below_drewN {B : Nat} {w w' : World} (h : Below B w w') (n : Nat) : Below B w (w'.drewN n) := ⟨h.1, h.2, h.3, h.4, h.5⟩
theorem NewB.drewN {B : Nat} {acc : List UInt8} {sv : Value} {w wr : World} (h : NewB B w acc sv wr) (n : Nat) : NewB B w acc sv (wr.drewN n) := ⟨⟨h.1.1, h.1.2, h.1.3, h.1.4, h.1.5⟩, h.2.1, h.2.2.1, h.2.2.2⟩
set_option maxRecDepth 100000 in
set_option maxHeartbeats 2000000 in
theorem reffromhex_any (w : World) (s : ByteArray) (hlen : s.size ≤ 1000000000) :
    Calls Tryd.prog 19 #[.string s] w fun e w' => e = .returned (FromHexV s.data.toList) ∧ Below w.heap.size w w' := by
  obtain ⟨l, hl⟩ : ∃ l, s.data.toList = l := ⟨_, rfl⟩
  have hsl : l.length = s.size := by rw [← hl]; rfl
  rw [hl]
  by_cases hodd : s.size % 2 = 0
  rotate_left
  · have ho : (((s.size : Int) % 2) != 0) = true := by simp; omega
    have hok : Sha.hexOk l = false := by unfold Sha.hexOk; simp; omega
    unfold FromHexV
    rw [hok]
    clear hok hodd
    go_enter Tryd.func19, Tryd.ntmps19
    go_wp2_with fail
    go_ret2
    exact ⟨rfl, Below.refl _ _⟩
  have ho : (((s.size : Int) % 2) != 0) = false := by simp; omega
  have N0 := Lib.hid (NewB.empty w)
  have Hodd := Lib.hid hodd
  have Hl := Lib.hid hl
  have Hsl := Lib.hid hsl
  clear hodd hl hsl
  go_enter Tryd.func19, Tryd.ntmps19
  go_wp2_with fail
  generalize w.alloc (.cells #[] 5) = w1 at *
  go_loopw [4, 5] (fun sv si wr => ∃ j i : Nat, i = 2 * j ∧ i ≤ s.size ∧ si = .int .i64 (i : Int) ∧ NewB w.heap.size w ((Sha.unhex l).take j) sv wr ∧ ∀ t, t < i → Sha.isDig (l.getD t 0) = true) (fun _ si _ => s.size - (intOf si).toNat)
  case atStart => exact ⟨0, 0, rfl, by omega, rfl, by simpa using N0.out, fun t ht => absurd ht (by omega)⟩
  case round =>
    obtain ⟨j, i, hij, hi, rfl, hN, hAll⟩ := hrel
    clear N0
    by_cases hlt : i < s.size
    · have ik : (i : Int) < (s.size : Int) := by omega
      have hlt1 : i + 1 < s.size := by have := Hodd.out; omega
      have ik1 : (i : Int) + 1 < (s.size : Int) := by omega
      have hul : (Sha.unhex l).length = l.length / 2 := Sha.vals_length l _
      have hjl : j < (Sha.unhex l).length := by have := Hsl.out; have := Hodd.out; omega
      have hge := Sha.unhex_get l j (by omega)
      have hnx : (Sha.unhex l).take (j + 1) = (Sha.unhex l).take j ++ [(Sha.unhex l).getD j 0] := by
        rw [List.take_succ_eq_append_getElem hjl]; simp [List.getD, hjl]
      unfold Sha.digAt at hge
      rw [show 2 * j + 1 = i + 1 from by omega, show 2 * j = i from by omega] at hge
      obtain ⟨y0, hy0⟩ : ∃ y, l.getD i 0 = y := ⟨_, rfl⟩
      obtain ⟨y1, hy1⟩ : ∃ y, l.getD (i + 1) 0 = y := ⟨_, rfl⟩
      have hix0 := fun W : World => idx_str s i hlt W
      have hix1 := fun W : World => idx_str s (i + 1) hlt1 W
      rw [Hl.out, hy0] at hix0
      rw [Hl.out, hy1] at hix1
      rw [show ((i + 1 : Nat) : Int) = (i : Int) + 1 from by omega] at hix1
      rw [hy0, hy1] at hge
      have Hy0 := Lib.hid hy0
      have Hy1 := Lib.hid hy1
      have HN := Lib.hid hN
      have Hbe := Lib.hid hN.1
      have hal : ((Sha.unhex l).take j).length = j := by rw [List.length_take]; omega
      obtain ⟨acc, hac⟩ : ∃ a, (Sha.unhex l).take j = a := ⟨_, rfl⟩
      rw [hac] at HN hal hnx hN
      obtain ⟨a, c, rfl, _, _, _, _⟩ := hN.2.1.form
      have Hal := Lib.hid hal
      have Hnx := Lib.hid hnx
      have Hge := Lib.hid hge
      have HAll := Lib.hid hAll
      have Hij := Lib.hid hij
      clear hul hjl hge hnx hal hac hN hAll hij hy0 hy1
      by_cases hd0 : Sha.isDig y0 = true
      · by_cases hd1 : Sha.isDig y1 = true
        · have hv0 : digV y0 = ((Sha.dig y0).toNat : Int) := by unfold digV; rw [if_pos hd0]
          have hv1 : digV y1 = ((Sha.dig y1).toNat : Int) := by unfold digV; rw [if_pos hd1]
          have x16 := (Sha.dig_ok y0 hd0).2
          have z16 := (Sha.dig_ok y1 hd1).2
          have hpo := Sha.pair_ok _ _ x16 z16
          rw [← Hge.out] at hpo
          obtain ⟨z, hz⟩ : ∃ z, (Sha.unhex l).getD j 0 = z := ⟨_, rfl⟩
          rw [hz] at hpo Hnx
          obtain ⟨x0, hx0⟩ : ∃ x, Sha.dig y0 = x := ⟨_, rfl⟩
          obtain ⟨x1, hx1⟩ : ∃ x, Sha.dig y1 = x := ⟨_, rfl⟩
          rw [hx0] at hv0 hpo x16
          rw [hx1] at hv1 hpo z16
          have Hpo := Lib.hid hpo
          have Hd0 := Lib.hid hd0
          have Hd1 := Lib.hid hd1
          have X16 := Lib.hid x16
          have Z16 := Lib.hid z16
          have i0 : (0 : Int) ≤ (x0.toNat : Int) := by omega
          have i1 : (0 : Int) ≤ (x1.toNat : Int) := by omega
          have i2 : (x0.toNat : Int) < 16 := by omega
          have i3 : (x1.toNat : Int) < 16 := by omega
          have V0 := Lib.hid hv0
          have V1 := Lib.hid hv1
          clear hpo hz hx0 hx1 hd0 hd1 x16 z16 hv0 hv1
          go_wp2_with fail
          go_quiet (first | (go_at_call 28; refine Calls.quiet_of_same (dig_is _ V0.out)) | (go_at_call 28; refine Calls.quiet_of_same (dig_is _ V1.out)))
          have HN2 := Lib.hid (HN.out.drewN nq)
          clear HN Hbe hix0 hix1
          generalize wr.drewN nq = w2 at *
          go_wp2_with (at_builtin; refine wpList_append_bytes rfl (.tmp 34) (.tmp 40) rfl (.slice a acc.length c) _ [z] (by rfl) (by rfl) (HN2.out.alloc _).2.1 (BV.lits w2 _ _ 1 rfl (by have := Hpo.out; simp [By]; omega) (by omega)) (by have := Hal.out; have := Hij.out; simp; omega) ?_; intro a5 c5 w5 hO5 hg5 ho5)
          have P3 := (HN2.out.alloc _).push hO5 hg5 ho5
          rw [← Hnx.out] at P3
          refine ⟨⟨j + 1, i + 2, by have := Hij.out; omega, by have := Hodd.out; omega, by go_num, by simpa using P3, fun t ht => ?_⟩, by simp [intOf]; omega⟩
          by_cases h : t = i
          · rw [h, Hy0.out]; exact Hd0.out
          · by_cases h' : t = i + 1
            · rw [h', Hy1.out]; exact Hd1.out
            · exact HAll.out t (by omega)
        · have hd1' : Sha.isDig y1 = false := by simpa using hd1
          have hv0 : digV y0 = ((Sha.dig y0).toNat : Int) := by unfold digV; rw [if_pos hd0]
          obtain ⟨x0, hx0⟩ : ∃ x, Sha.dig y0 = x := ⟨_, rfl⟩
          rw [hx0] at hv0
          have i0 : (0 : Int) ≤ (x0.toNat : Int) := by omega
          have hv1 : digV y1 = -1 := by unfold digV; rw [hd1']; rfl
          have hok : Sha.hexOk l = false := by
            unfold Sha.hexOk
            rw [Bool.and_eq_false_iff]
            right
            rw [List.all_eq_false]
            refine ⟨l.getD (i + 1) 0, ?_, by rw [Hy1.out, hd1']; simp⟩
            have hkl : i + 1 < l.length := by have := Hsl.out; omega
            simp [List.getD, hkl]
          have V0 := Lib.hid hv0
          have V1 := Lib.hid hv1
          have Hok := Lib.hid hok
          clear hv0 hv1 hok hd0 hd1 hd1' hx0
          go_wp2_with fail
          go_quiet (first | (go_at_call 28; refine Calls.quiet_of_same (dig_is _ V0.out)) | (go_at_call 28; refine Calls.quiet_of_same (dig_is _ V1.out)))
          have hbe := below_drewN Hbe.out nq
          clear HN Hbe hix0 hix1
          generalize wr.drewN nq = w2 at *
          go_wp2_with fail
          go_ret2
          unfold FromHexV
          rw [Hok.out]
          exact ⟨rfl, hbe⟩
      · have hd0' : Sha.isDig y0 = false := by simpa using hd0
        obtain ⟨x1, hv1⟩ : ∃ x, digV y1 = x := ⟨_, rfl⟩
        have hv0 : digV y0 = -1 := by unfold digV; rw [hd0']; rfl
        have hok : Sha.hexOk l = false := by
          unfold Sha.hexOk
          rw [Bool.and_eq_false_iff]
          right
          rw [List.all_eq_false]
          refine ⟨l.getD i 0, ?_, by rw [Hy0.out, hd0']; simp⟩
          have hkl : i < l.length := by have := Hsl.out; omega
          simp [List.getD, hkl]
        have V0 := Lib.hid hv0
        have V1 := Lib.hid hv1
        have Hok := Lib.hid hok
        clear hv0 hv1 hok hd0 hd0'
        go_wp2_with fail
        go_quiet (first | (go_at_call 28; refine Calls.quiet_of_same (dig_is _ V0.out)) | (go_at_call 28; refine Calls.quiet_of_same (dig_is _ V1.out)))
        have hbe := below_drewN Hbe.out nq
        clear HN Hbe hix0 hix1
        generalize wr.drewN nq = w2 at *
        go_wp2_with fail
        go_ret2
        unfold FromHexV
        rw [Hok.out]
        exact ⟨rfl, hbe⟩
    · have e8 : i = s.size := by omega
      have hul : (Sha.unhex l).length = l.length / 2 := Sha.vals_length l _
      rw [List.take_of_length_le (by have := Hsl.out; omega)] at hN
      have hstr := run_toString (P := Tryd.prog) hN.2.1.bv 22 5 9 Tryd.underlying22 Tryd.underlying5 Tryd.underlying9
      have hok : Sha.hexOk l = true := by
        unfold Sha.hexOk
        rw [Bool.and_eq_true]
        refine ⟨by have := Hsl.out; have := Hodd.out; simp; omega, List.all_eq_true.2 (fun c hc => ?_)⟩
        obtain ⟨t, ht, rfl⟩ := List.getElem_of_mem hc
        have := hAll t (by have := Hsl.out; omega)
        simpa [List.getD, ht] using this
      have Hok := Lib.hid hok
      have hbe := hN.1
      clear hN hAll hok hul e8 hij
      go_wp2_with fail
      go_ret2
      unfold FromHexV
      rw [Hok.out]
      exact ⟨by rw [if_pos rfl]; rfl, hbe⟩
end
end Go.Proofs.YtiakmpnmooobbaaDoor
