/- Contract of FromHex. -/
import Derived.Test.YtiakmpnmooobbaaDoorShaH
namespace Go.Proofs.YtiakmpnmooobbaaDoor
open Go.RowKit
namespace Sha
def isDig (c : UInt8) : Bool := (48 ≤ c.toNat && c.toNat ≤ 57) || (97 ≤ c.toNat && c.toNat ≤ 102)
def dig (c : UInt8) : UInt8 := if c.toNat ≤ 57 then c - 48 else c - 97 + 10
def digAt (l : List UInt8) (i : Nat) : UInt8 := dig (l.getD i 0)
def valAt (l : List UInt8) (k j : Nat) : UInt8 := if 2 * j + 1 < k then (digAt l (2 * j) <<< 4) ||| digAt l (2 * j + 1) else if 2 * j < k then digAt l (2 * j) else 0
def vals (l : List UInt8) (k : Nat) : List UInt8 := (List.range (l.length / 2)).map (valAt l k)
def hexOk (l : List UInt8) : Bool := l.length % 2 == 0 && l.all isDig
def unhex (l : List UInt8) : List UInt8 := vals l l.length
theorem vals_length (l : List UInt8) (k : Nat) : (vals l k).length = l.length / 2 := by simp [vals]
theorem vals_zero (l : List UInt8) : vals l 0 = List.replicate (l.length / 2) 0 := by
  apply List.ext_getElem
  · simp [vals]
  · intro i h1 h2; simp [vals, valAt]
theorem vals_succ (l : List UInt8) (k : Nat) (hk : k < l.length) (he : l.length % 2 = 0) : vals l (k + 1) = (vals l k).set (k / 2) (((vals l k).getD (k / 2) 0 <<< 4) ||| digAt l k) := by
  have hk2 : k / 2 < l.length / 2 := by omega
  have hg : (vals l k).getD (k / 2) 0 = valAt l k (k / 2) := by simp [vals, List.getD, hk2]
  rw [hg]
  apply List.ext_getElem
  · simp [vals]
  · intro i h1 h2
    have hi : i < l.length / 2 := by simpa [vals] using h1
    rw [List.getElem_set]
    simp only [vals, List.getElem_map, List.getElem_range]
    by_cases e : k / 2 = i
    · rw [if_pos e]
      subst e
      unfold valAt
      by_cases hp : k % 2 = 0
      · rw [if_neg (by omega), if_pos (by omega), if_neg (by omega), if_neg (by omega), show 2 * (k / 2) = k from by omega]
        simp
      · rw [if_pos (by omega), if_neg (by omega), if_pos (by omega), show 2 * (k / 2) + 1 = k from by omega]
    · rw [if_neg e]
      unfold valAt
      by_cases h3 : 2 * i + 1 < k
      · rw [if_pos (by omega), if_pos h3]
      · rw [if_neg (by omega), if_neg h3]
        by_cases h4 : 2 * i < k
        · rw [if_pos (by omega), if_pos h4]
        · rw [if_neg (by omega), if_neg h4]
end Sha
theorem b_or8 (x y : UInt8) : bits BinOp.or IntKind.u8 (x.toNat : Int) (y.toNat : Int) = ((x ||| y).toNat : Int) := by
  rw [u8_or_nat _ _ x.toNat_lt y.toNat_lt, UInt8.toNat_or]
theorem b_shl4 (x : UInt8) : (x.toNat : Int) * (16 : Int) % (256 : Int) = ((x <<< 4).toNat : Int) := by
  rw [UInt8.toNat_shiftLeft, Nat.shiftLeft_eq]; simp
theorem By_cell {w : World} {g : Nat} {l : List UInt8} {T : TypeId} (h : Blk w g (By l) T) {i : Nat} (hi : i < l.length) : w.cell? ⟨g, i, none⟩ = some (.int .u8 ((l.getD i 0).toNat : Int)) := by
  refine h.cell ?_
  rw [By_get l i hi]
  simp [List.getD, hi]
def FromHexV (l : List UInt8) : Value := if Sha.hexOk l then .tuple #[.string ⟨(Sha.unhex l).toArray⟩, .int .i64 0] else .tuple #[.string ⟨#[]⟩, .int .i64 3]
set_option maxRecDepth 100000 in
set_option maxHeartbeats 1000000 in
theorem fromhex_any (w : World) (s : ByteArray) (hlen : s.size ≤ 1000000000) :
    Calls Tryd.prog 17 #[.string s] w fun e w' => e = .returned (FromHexV s.data.toList) ∧ Below w.heap.size w w' := by
  obtain ⟨l, hl⟩ : ∃ l, s.data.toList = l := ⟨_, rfl⟩
  have hsl : l.length = s.size := by rw [← hl]; rfl
  rw [hl]
  by_cases hodd : s.size % 2 = 0
  rotate_left
  · have ho : (((s.size : Int) % 2) != 0) = true := by simp; omega
    have hok : Sha.hexOk l = false := by unfold Sha.hexOk; simp; omega
    unfold FromHexV
    rw [hok]
    clear hok hodd
    go_enter Tryd.func17, Tryd.ntmps17
    go_wp2_with fail
    go_ret2
    exact ⟨rfl, Below.refl _ _⟩
  have ho : (((s.size : Int) % 2) != 0) = false := by simp; omega
  obtain ⟨m, hm⟩ : ∃ m, s.size / 2 = m := ⟨_, rfl⟩
  have hdm : (s.size : Int) / 2 = (m : Int) := by omega
  have hm2 : (m : Int) ≤ 1000000000 := by omega
  have R0 : Hid (Blk (w.alloc (.cells (List.replicate m (.int .u8 0)).toArray 5)) w.heap.size (By (Sha.vals l 0)) 5) := by
    have := Blk.new w (List.replicate m (Value.int .u8 0)) 5
    rw [← By_zero, show m = l.length / 2 from by omega, ← Sha.vals_zero] at this
    rw [← By_zero, show m = l.length / 2 from by omega, ← Sha.vals_zero]
    exact this
  have B0 := Lib.hid ((Below.refl w.heap.size w).alloc (Nat.le_refl _) (.cells (List.replicate m (.int .u8 0)).toArray 5))
  have Hodd := Lib.hid hodd
  have Hm := Lib.hid hm
  have Hl := Lib.hid hl
  have Hsl := Lib.hid hsl
  clear hodd hm hl hsl
  go_enter Tryd.func17, Tryd.ntmps17
  go_wp2_with (at_make; refine wpList_make_n rfl _ _ _ rfl 5 (.int .u8 0) 1 m m Tryd.underlying22 Tryd.infoB rfl rfl rfl (Nat.le_refl _) (by omega) (by unfold maxLen; omega) ?_; generalize w.alloc (.cells (List.replicate m (.int .u8 0)).toArray 5) = w1 at *; generalize hg : w.heap.size = g at *)
  have Hg := Lib.hid hg
  clear hg
  go_loopw [18] (fun i wr => ∃ k : Nat, k ≤ s.size ∧ i = .int .i64 (k : Int) ∧ Below g w wr ∧ Blk wr g (By (Sha.vals l k)) 5 ∧ ∀ i, i < k → Sha.isDig (l.getD i 0) = true) (fun i _ => s.size - (intOf i).toNat)
  case atStart => exact ⟨0, by omega, rfl, B0.out, R0.out, fun i hi => absurd hi (by omega)⟩
  case round =>
    obtain ⟨k, hk, rfl, hbe, hB, hAll⟩ := hrel
    clear B0 R0
    by_cases hlt : k < s.size
    · have ik : (k : Int) < (s.size : Int) := by omega
      obtain ⟨y, hy⟩ : ∃ y, l.getD k 0 = y := ⟨_, rfl⟩
      have hix := fun W : World => idx_str s k hlt W
      rw [Hl.out, hy] at hix
      obtain ⟨k2, hk2⟩ : ∃ j, k / 2 = j := ⟨_, rfl⟩
      have hkd : (k : Int) / 2 = (k2 : Int) := by omega
      have hkm : (k2 : Int) < (m : Int) := by have := Hm.out; have := Hodd.out; omega
      have cx := By_cell hB (i := k2) (by rw [Sha.vals_length]; have := Hsl.out; have := Hm.out; have := Hodd.out; omega)
      obtain ⟨x, hx⟩ : ∃ x, (Sha.vals l k).getD k2 0 = x := ⟨_, rfl⟩
      rw [hx] at cx
      have fx := hB.free k2
      have lx := hB.lt
      have y256 := y.toNat_lt
      have hcase : (48 ≤ y.toNat ∧ y.toNat ≤ 57) ∨ (97 ≤ y.toNat ∧ y.toNat ≤ 102) ∨ y.toNat < 48 ∨ (57 < y.toNat ∧ y.toNat < 97) ∨ 102 < y.toNat := by omega
      rcases hcase with ⟨h1, h2⟩ | ⟨h1, h2⟩ | h1 | ⟨h1, h2⟩ | h1
      · have j1 : (48 : Int) ≤ (y.toNat : Int) := by omega
        have j2 : (y.toNat : Int) ≤ 57 := by omega
        obtain ⟨d, hd⟩ : ∃ d : UInt8, d = y - 48 := ⟨_, rfl⟩
        have hdn : d.toNat = y.toNat - 48 := by rw [hd, UInt8.toNat_sub]; simp; omega
        have hds : (y.toNat : Int) - 48 = (d.toNat : Int) := by omega
        have hdd : d = Sha.digAt l k := by unfold Sha.digAt; rw [hy]; unfold Sha.dig; rw [if_pos h2, hd]
        obtain ⟨z, hzd⟩ : ∃ z, (x <<< 4) ||| d = z := ⟨_, rfl⟩
        have d256 := d.toNat_lt
        clear hd hdn
        · skip
          have hz : bits BinOp.or IntKind.u8 ((x.toNat : Int) * 16 % 256) (d.toNat : Int) = (z.toNat : Int) := by rw [b_shl4, b_or8, hzd]
          have hnx : Sha.vals l (k + 1) = (Sha.vals l k).set k2 z := by
            rw [Sha.vals_succ l k (by have := Hsl.out; omega) (by have := Hsl.out; have := Hodd.out; omega), hk2, hx, ← hzd, hdd]
          have hall : ∀ i, i < k + 1 → Sha.isDig (l.getD i 0) = true := fun i hi => by
            by_cases h : i = k
            · rw [h, hy]; unfold Sha.isDig; simp; omega
            · exact hAll i (by omega)
          have N2 := Lib.hid ((hbe.setCell (p := ⟨g, k2, none⟩) (Nat.le_refl _) (.int .u8 (z.toNat : Int))))
          have N3 : Hid (Blk (wr.setCell ⟨g, k2, none⟩ (.int .u8 (z.toNat : Int))) g (By (Sha.vals l (k + 1))) 5) := by
            rw [hnx, By_set]; exact hB.set k2 _
          have HAll := Lib.hid hall
          clear hbe hB hAll hall hnx hzd hdd hx hk2
          go_wp2_with fail
          go_roundw
          case rel => exact ⟨k + 1, by omega, by go_num, N2.out, N3.out, HAll.out⟩
          case measure => simp [intOf]; omega
      · have j1 : (97 : Int) ≤ (y.toNat : Int) := by omega
        have j2 : (y.toNat : Int) ≤ 102 := by omega
        have j3 : (57 : Int) < (y.toNat : Int) := by omega
        obtain ⟨d, hd⟩ : ∃ d : UInt8, d = y - 97 + 10 := ⟨_, rfl⟩
        have hdn : d.toNat = y.toNat - 97 + 10 := by rw [hd, UInt8.toNat_add, UInt8.toNat_sub]; simp; omega
        have hds : (y.toNat : Int) - 97 + 10 = (d.toNat : Int) := by omega
        have hdd : d = Sha.digAt l k := by unfold Sha.digAt; rw [hy]; unfold Sha.dig; rw [if_neg (by omega), hd]
        obtain ⟨z, hzd⟩ : ∃ z, (x <<< 4) ||| d = z := ⟨_, rfl⟩
        have d256 := d.toNat_lt
        clear hd hdn
        · skip
          have hz : bits BinOp.or IntKind.u8 ((x.toNat : Int) * 16 % 256) (d.toNat : Int) = (z.toNat : Int) := by rw [b_shl4, b_or8, hzd]
          have hnx : Sha.vals l (k + 1) = (Sha.vals l k).set k2 z := by
            rw [Sha.vals_succ l k (by have := Hsl.out; omega) (by have := Hsl.out; have := Hodd.out; omega), hk2, hx, ← hzd, hdd]
          have hall : ∀ i, i < k + 1 → Sha.isDig (l.getD i 0) = true := fun i hi => by
            by_cases h : i = k
            · rw [h, hy]; unfold Sha.isDig; simp; omega
            · exact hAll i (by omega)
          have N2 := Lib.hid ((hbe.setCell (p := ⟨g, k2, none⟩) (Nat.le_refl _) (.int .u8 (z.toNat : Int))))
          have N3 : Hid (Blk (wr.setCell ⟨g, k2, none⟩ (.int .u8 (z.toNat : Int))) g (By (Sha.vals l (k + 1))) 5) := by
            rw [hnx, By_set]; exact hB.set k2 _
          have HAll := Lib.hid hall
          clear hbe hB hAll hall hnx hzd hdd hx hk2
          go_wp2_with fail
          go_roundw
          case rel => exact ⟨k + 1, by omega, by go_num, N2.out, N3.out, HAll.out⟩
          case measure => simp [intOf]; omega
      · have j1 : (y.toNat : Int) < 48 := by omega
        have j2 : (y.toNat : Int) < 97 := by omega
        · skip
          have hok : Sha.hexOk l = false := by
            have h1 : Sha.isDig (l.getD k 0) = false := by rw [hy]; unfold Sha.isDig; simp; omega
            unfold Sha.hexOk
            rw [Bool.and_eq_false_iff]
            right
            rw [List.all_eq_false]
            refine ⟨l.getD k 0, ?_, by rw [h1]; simp⟩
            have hkl : k < l.length := by have := Hsl.out; omega
            simp [List.getD, hkl]
          have Hok := Lib.hid hok
          clear hB hAll hok hx hk2
          go_wp2_with fail
          go_ret2
          unfold FromHexV
          rw [Hok.out]
          exact ⟨rfl, by rw [Hg.out]; exact hbe⟩
      · have j1 : (57 : Int) < (y.toNat : Int) := by omega
        have j2 : (y.toNat : Int) < 97 := by omega
        have j3 : (48 : Int) ≤ (y.toNat : Int) := by omega
        · skip
          have hok : Sha.hexOk l = false := by
            have h1 : Sha.isDig (l.getD k 0) = false := by rw [hy]; unfold Sha.isDig; simp; omega
            unfold Sha.hexOk
            rw [Bool.and_eq_false_iff]
            right
            rw [List.all_eq_false]
            refine ⟨l.getD k 0, ?_, by rw [h1]; simp⟩
            have hkl : k < l.length := by have := Hsl.out; omega
            simp [List.getD, hkl]
          have Hok := Lib.hid hok
          clear hB hAll hok hx hk2
          go_wp2_with fail
          go_ret2
          unfold FromHexV
          rw [Hok.out]
          exact ⟨rfl, by rw [Hg.out]; exact hbe⟩
      · have j1 : (102 : Int) < (y.toNat : Int) := by omega
        have j2 : (97 : Int) ≤ (y.toNat : Int) := by omega
        have j3 : (57 : Int) < (y.toNat : Int) := by omega
        have j4 : (48 : Int) ≤ (y.toNat : Int) := by omega
        · skip
          have hok : Sha.hexOk l = false := by
            have h1 : Sha.isDig (l.getD k 0) = false := by rw [hy]; unfold Sha.isDig; simp; omega
            unfold Sha.hexOk
            rw [Bool.and_eq_false_iff]
            right
            rw [List.all_eq_false]
            refine ⟨l.getD k 0, ?_, by rw [h1]; simp⟩
            have hkl : k < l.length := by have := Hsl.out; omega
            simp [List.getD, hkl]
          have Hok := Lib.hid hok
          clear hB hAll hok hx hk2
          go_wp2_with fail
          go_ret2
          unfold FromHexV
          rw [Hok.out]
          exact ⟨rfl, by rw [Hg.out]; exact hbe⟩
    · have e8 : k = s.size := by omega
      have hbv : BV wr (· = g) (.slice (some ⟨g, 0, none⟩) m m) (Sha.vals l k) := by
        have hvl : (Sha.vals l k).length = m := by rw [Sha.vals_length]; have := Hsl.out; have := Hm.out; omega
        have := BV.of_blk (l := Sha.vals l k) (c := m) hB (by rw [List.take_of_length_le (by simp)]) (by omega) (by unfold maxLen; omega)
        rw [hvl] at this
        exact this
      have hstr := run_toString (P := Tryd.prog) hbv 22 5 9 Tryd.underlying22 Tryd.underlying5 Tryd.underlying9
      have hok : Sha.hexOk l = true := by
        unfold Sha.hexOk
        rw [Bool.and_eq_true]
        refine ⟨by have := Hsl.out; have := Hodd.out; simp; omega, List.all_eq_true.2 (fun c hc => ?_)⟩
        obtain ⟨i, hi, rfl⟩ := List.getElem_of_mem hc
        have := hAll i (by have := Hsl.out; omega)
        simpa [List.getD, hi] using this
      have Hok := Lib.hid hok
      have e9 : Hid (Sha.unhex l = Sha.vals l k) := by show Sha.unhex l = Sha.vals l k; unfold Sha.unhex; rw [Hsl.out, e8]
      clear hB hAll hok hbv e8
      go_wp2_with fail
      go_ret2
      unfold FromHexV
      rw [Hok.out]
      exact ⟨by rw [if_pos rfl, e9.out]; rfl, by rw [Hg.out]; exact hbe⟩
end Go.Proofs.YtiakmpnmooobbaaDoor
