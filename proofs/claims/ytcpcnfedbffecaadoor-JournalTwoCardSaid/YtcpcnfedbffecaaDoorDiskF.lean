/- Contracts of the small functions of package disk. -/
import Derived.Test.YtcpcnfedbffecaaDoorDiskAt
import Derived.Test.YtcpcnfedbffecaaDoorLaws
namespace Go.Proofs.YtcpcnfedbffecaaDoor
open Go.RowKit Go.Maps

theorem Tryd.infoByte : (Tryd.prog.info? 5).map (fun i => (i.zero, i.size, i.bytes)) = some (some (.int .u8 0), 1, 1) := by kernel_rfl
theorem Tryd.sizeByte : (Tryd.prog.info? 5).map (·.size) = some 1 := by kernel_rfl

set_option maxHeartbeats 400000 in
theorem filled_any (b n : Nat) (dv : Value) (l : List UInt8) (G : Nat → Prop) (w : World) (hc : w.cell? ⟨b, 0, none⟩ = some (.int .i64 (n : Int))) (hn : n ≤ 4096) (hl : l.length ≤ n) (hv : BV w G dv l) :
    Calls Tryd.prog 49 #[.pointer (some ⟨b, 0, none⟩), dv] w fun e w' =>
      e = .returned (.slice (some ⟨w.heap.size, 0, none⟩) n n) ∧ w.alloc (.cells (By (fill n l)).toArray 5) = w' := by
  have hlt := block_lt_of_cell hc
  go_enter Tryd.func49, Tryd.ntmps49
  go_wp2_with (first
    | (at_make; refine wpList_make_n rfl _ _ _ rfl 5 (.int .u8 0) 1 n n Tryd.underlying39 Tryd.infoByte rfl rfl rfl (Nat.le_refl _) (by omega) (by unfold maxLen; omega) ?_)
    | (with_reducible refine wpList_copy_bytes rfl (.tmp 11) (.tmp 12) _ _ rfl 5 Tryd.underlying39 Tryd.sizeByte w.heap.size 0 n n rfl G dv rfl l (hv.alloc _) (List.replicate n (.int .u8 0)) 5 (Blk.new _ _ _) ?_ ?_))
  go_ret
  refine ⟨rfl, ?_⟩
  rw [setRow_alloc]
  have e : By (l.take n) ++ List.replicate (n - l.length) (Value.int .u8 0) = By (fill n l) := by
    simp only [fill, By_append, By_zero]
  rw [e]

set_option maxHeartbeats 400000 in
theorem valid_any (b : Nat) (x : Int) (a : Option Addr) (n c : Nat) (w : World) (h1 : w.cell? ⟨b, 1, none⟩ = some (.slice a n c)) :
    Calls Tryd.prog 48 #[.pointer (some ⟨b, 0, none⟩), .int .i64 x] w fun e w' => e = .returned (.bool (decide (0 ≤ x ∧ x < (n : Int)))) ∧ w = w' := by
  go_enter Tryd.func48, Tryd.ntmps48
  go_wp2
  · go_ret
    exact ⟨by simp [*], rfl⟩
  · go_ret
    exact ⟨by simp; omega, rfl⟩

/-- The world behind 'fails'. -/
def failW (w : World) (b : Nat) (x : Int) : World := if x < 0 then w else (w.setCell ⟨b, 4, none⟩ (.int .i64 (x - 1))).setCell ⟨b, 5, none⟩ (.bool (decide (x = 0)))
set_option maxHeartbeats 400000 in
theorem fails_any (b : Nat) (x : Int) (d : Bool) (w : World) (hx : -1 ≤ x) (hx2 : x ≤ 9223372036854775807)
    (h1 : w.cell? ⟨b, 4, none⟩ = some (.int .i64 x)) (h2 : w.cell? ⟨b, 5, none⟩ = some (.bool d)) (f1 : w.frozen? ⟨b, 4, none⟩ = false) (f2 : w.frozen? ⟨b, 5, none⟩ = false) :
    Calls Tryd.prog 30 #[.pointer (some ⟨b, 0, none⟩)] w fun e w' => e = .returned (.bool (decide (x = 0))) ∧ failW w b x = w' := by
  go_enter Tryd.func30, Tryd.ntmps30
  go_wp2
  · go_ret
    exact ⟨ret_bool (decide_eq_false (by omega)).symm, by unfold failW; rw [if_pos (by assumption)]⟩
  · go_ret
    have hx : decide (x = 0) = decide (x - 1 < 0) := by rw [decide_eq_decide]; omega
    exact ⟨ret_bool hx.symm, by unfold failW; rw [if_neg (by omega), hx]⟩
theorem Tryd.infoRow : (Tryd.prog.info? 39).map (fun i => (i.zero, i.size, i.bytes)) = some (some (.slice none 0 0), 1, 24) := by kernel_rfl
set_option maxHeartbeats 400000 in
theorem forget_any (b : Nat) (v m : Value) (w : World) (h2 : w.cell? ⟨b, 2, none⟩ = some v) (h3 : w.cell? ⟨b, 3, none⟩ = some m) (f2 : w.frozen? ⟨b, 2, none⟩ = false) (f3 : w.frozen? ⟨b, 3, none⟩ = false) :
    Calls Tryd.prog 31 #[.pointer (some ⟨b, 0, none⟩)] w fun e w' =>
      e = .returned (.tuple #[]) ∧ ((w.setCell ⟨b, 2, none⟩ (.slice none 0 0)).setCell ⟨b, 3, none⟩ (.map (some w.heap.size))).alloc (.map #[] 0) = w' := by
  have hlt := block_lt_of_cell h2
  have hmm := @run_makeMap Tryd.prog
  go_enter Tryd.func31, Tryd.ntmps31
  go_wp2
  go_end0
  exact ⟨rfl, rfl⟩
end Go.Proofs.YtcpcnfedbffecaaDoor
