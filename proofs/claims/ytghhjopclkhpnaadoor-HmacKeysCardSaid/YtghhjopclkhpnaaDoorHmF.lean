/- Contracts of the closure of New, the reference's pad, begins. -/
import Derived.Test.YtghhjopclkhpnaaDoorHmM
import Derived.Test.YtghhjopclkhpnaaDoorRefS
import Derived.Deep.RegionHeld3
namespace Go.Proofs.YtghhjopclkhpnaaDoor
open Go.RowKit
theorem b_xor (x y : UInt8) : bits BinOp.xor IntKind.u8 (x.toNat : Int) (y.toNat : Int) = ((x ^^^ y).toNat : Int) := by
  rw [u8_xor_nat _ _ x.toNat_lt y.toNat_lt, UInt8.toNat_xor]
theorem fill_take (k : List UInt8) (x : UInt8) (i : Nat) (h : i < 64) : (Hm.pad k x).take (i + 1) = (Hm.pad k x).take i ++ [(k.getD i 0) ^^^ x] := by
  rw [List.take_succ_eq_append_getElem (by rw [Hm.pad_length]; exact h)]
  simp [Hm.pad, Hm.fill]
theorem idx_str2 (s : ByteArray) (k : Nat) (hk : k < s.size) (W : World) : (Instr.index 9 (.string s) (.int .i64 (k : Int))).run Tryd.prog W = .ok (.int .u8 ((s.data.toList.getD k 0).toNat : Int)) W := by
  have hu := Tryd.underlying9
  simp [Instr.index, run_underlying hu, go_sem, hk, List.getD]
  rfl
section
variable {w w' : World}
def RPadIs (w : World) (k : List UInt8) (x : UInt8) (e : Ending) (w' : World) : Prop := ∃ v, e = .returned v ∧ NewB w.heap.size w (Hm.pad k x) v w'
set_option maxRecDepth 100000 in
set_option maxHeartbeats 1000000 in
theorem refpad5_any (w : World) (s : ByteArray) (x : UInt8) : Calls Tryd.prog 30 #[.string s, .int .u8 (x.toNat : Int)] w (RPadIs w s.data.toList x) := by
  have N0 := Lib.hid (NewB.empty w)
  have hsl : s.data.toList.length = s.size := rfl
  have HSL := Lib.hid hsl
  clear hsl
  go_enter Tryd.func30, Tryd.ntmps30
  go_wp2_with fail
  generalize w.alloc (.cells #[] 5) = w1 at *
  go_loopw [5, 6] (fun sv i wr => ∃ k : Nat, k ≤ 64 ∧ i = .int .i64 (k : Int) ∧ NewB w.heap.size w ((Hm.pad s.data.toList x).take k) sv wr) (fun _ i _ => 64 - (intOf i).toNat)
  case atStart => exact ⟨0, by omega, rfl, N0.out⟩
  case round =>
    obtain ⟨k, hk, rfl, hN⟩ := hrel
    clear N0
    by_cases hlt : k < 64
    · have ik : (k : Int) < 64 := by omega
      have hnx := fill_take s.data.toList x k hlt
      obtain ⟨acc, hac⟩ : ∃ a, (Hm.pad s.data.toList x).take k = a := ⟨_, rfl⟩
      have hal : acc.length = k := by rw [← hac, List.length_take, Hm.pad_length]; omega
      obtain ⟨y, hy⟩ : ∃ y, s.data.toList.getD k 0 = y := ⟨_, rfl⟩
      rw [hac] at hN hnx
      rw [hy] at hnx
      obtain ⟨a, c, rfl, _, _, _, _⟩ := hN.2.1.form
      have HN := Lib.hid (hN.alloc (.cells #[.int .u8 ((y ^^^ x).toNat : Int)] 5))
      have LB := Lib.hid (BV.lits wr #[.int .u8 ((y ^^^ x).toNat : Int)] [y ^^^ x] 1 rfl rfl (by omega))
      have Hnx := Lib.hid hnx
      have Hal := Lib.hid hal
      have HY := Lib.hid hy
      clear hN hnx hal hac hy
      by_cases hks : k < s.size
      · have iks : (k : Int) < (s.size : Int) := by omega
        have hix := fun W : World => idx_str2 s k hks W
        rw [HY.out] at hix
        go_wp2_with (at_builtin; rw [b_xor]; refine wpList_append_bytes rfl (.tmp 20) (.tmp 24) rfl (.slice a acc.length c) _ [y ^^^ x] (by rfl) (by rfl) HN.out.2.1 LB.out (by have := Hal.out; simp; omega) ?_; intro a5 c5 w5 hO5 hg5 ho5)
        have P3 := HN.out.push hO5 hg5 ho5
        rw [← Hnx.out] at P3
        exact ⟨⟨k + 1, by omega, by go_num, by simpa using P3⟩, by simp [intOf]; omega⟩
      · have iks : ¬ (k : Int) < (s.size : Int) := by omega
        have y0 : y = 0 := by rw [← HY.out, List.getD_eq_getElem?_getD, List.getElem?_eq_none (by have := HSL.out; omega)]; rfl
        have hz : bits BinOp.xor IntKind.u8 0 (x.toNat : Int) = ((y ^^^ x).toNat : Int) := by rw [y0]; exact b_xor 0 x
        clear y0
        go_wp2_with (at_builtin; refine wpList_append_bytes rfl (.tmp 20) (.tmp 24) rfl (.slice a acc.length c) _ [y ^^^ x] (by rfl) (by rfl) HN.out.2.1 LB.out (by have := Hal.out; simp; omega) ?_; intro a5 c5 w5 hO5 hg5 ho5)
        have P3 := HN.out.push hO5 hg5 ho5
        rw [← Hnx.out] at P3
        exact ⟨⟨k + 1, by omega, by go_num, by simpa using P3⟩, by simp [intOf]; omega⟩
    · have e8 : k = 64 := by omega
      rw [e8, List.take_of_length_le (by rw [Hm.pad_length]; omega)] at hN
      have HN := Lib.hid hN
      clear hN e8 hk
      go_wp2_with fail
      go_ret
      exact ⟨_, rfl, HN.out⟩
end
end Go.Proofs.YtghhjopclkhpnaaDoor
