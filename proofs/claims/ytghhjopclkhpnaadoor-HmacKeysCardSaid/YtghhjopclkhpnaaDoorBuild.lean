/- A struct built of two aggregates, and of one. -/
import Derived.Test.YtghhjopclkhpnaaDoorHmC
import Derived.Laws.Tables
namespace Go.Proofs.YtghhjopclkhpnaaDoor
open Go.RowKit
theorem fold_put (off : Nat) : ∀ (vs : List Value) (k : Nat) (cells : List Value), off + k + vs.length ≤ cells.length →
    (vs.zipIdx k).foldl (fun cs (x : Value × Nat) => cs.setIfInBounds (off + x.2) x.1) cells.toArray = (cells.take (off + k) ++ vs ++ cells.drop (off + k + vs.length)).toArray
  | [], k, cells, _ => by simp
  | v :: r, k, cells, h => by
    simp only [List.length_cons] at h
    rw [List.zipIdx_cons, List.foldl_cons]
    have e : cells.toArray.setIfInBounds (off + k) v = (cells.set (off + k) v).toArray := by simp
    show (r.zipIdx (k + 1)).foldl _ (cells.toArray.setIfInBounds (off + k) v) = _
    rw [e, fold_put off r (k + 1) (cells.set (off + k) v) (by simp; omega)]
    congr 1
    have hs : cells.set (off + k) v = cells.take (off + k) ++ v :: cells.drop (off + k + 1) := by rw [List.set_eq_take_append_cons_drop, if_pos (by omega)]
    have hl : (cells.take (off + k)).length = off + k := by simp; omega
    rw [hs, List.take_append, List.drop_append, List.take_of_length_le (show (cells.take (off + k)).length ≤ off + (k + 1) by omega), List.drop_of_length_le (show (cells.take (off + k)).length ≤ off + (k + 1) + r.length by omega), hl]
    rw [show off + (k + 1) - (off + k) = 1 from by omega, show off + (k + 1) + r.length - (off + k) = r.length + 1 from by omega, List.length_cons]
    simp [Nat.add_comm, Nat.add_left_comm]
theorem fill_one (place : Nat → Option (Nat × Nat)) (cells : List Value) (i off : Nat) (A : List Value) (rest : List (Nat × Value)) (hp : place i = some (off, A.length)) (h : off + A.length ≤ cells.length) :
    Instr.fill place cells.toArray ((i, .agg A.toArray) :: rest) = Instr.fill place (cells.take off ++ A ++ cells.drop (off + A.length)).toArray rest := by
  have hc : (Value.agg A.toArray).cells = A.toArray := rfl
  have hf := fold_put off A 0 cells (by omega)
  simp only [Nat.add_zero] at hf
  conv => lhs; unfold Instr.fill
  simp only [hp, hc, List.size_toArray]
  rw [if_neg (by simp; omega)]
  congr 1
  rw [← hf, ← Array.foldl_toList]
  congr 1
  simp
def z137 : Array Value := zst ++ zb64
theorem z137_len : z137.toList.length = 137 := by kernel_rfl
theorem Tryd.built_state (parts : List (Nat × Value)) : Tryd.prog.built 55 parts = Instr.fill (fun i => (#[(0, 73), (73, 64)] : Array (Nat × Nat))[i]?) z137 parts := by kernel_rfl
theorem Tryd.built_mac (parts : List (Nat × Value)) : Tryd.prog.built 57 parts = Instr.fill (fun i => (#[(0, 137)] : Array (Nat × Nat))[i]?) z137 parts := by kernel_rfl
theorem build_state (A B : List Value) (hA : A.length = 73) (hB : B.length = 64) (w : World) : (Instr.build 55 #[(0, .agg A.toArray), (1, .agg B.toArray)]).run Tryd.prog w = .ok (.agg (A ++ B).toArray) w := by
  refine run_build w _ _ _ ?_
  rw [Tryd.built_state]
  have hz := z137_len
  have e1 := fill_one (fun i => (#[(0, 73), (73, 64)] : Array (Nat × Nat))[i]?) z137.toList 0 0 A [(1, .agg B.toArray)] (by rw [hA]; rfl) (by omega)
  rw [Array.toArray_toList] at e1
  rw [e1]
  have e2 := fill_one (fun i => (#[(0, 73), (73, 64)] : Array (Nat × Nat))[i]?) (z137.toList.take 0 ++ A ++ z137.toList.drop (0 + A.length)) 1 73 B [] (by rw [hB]; rfl) (by simp [hz, hA, hB])
  rw [e2]
  unfold Instr.fill
  rw [List.take_zero, List.nil_append, Nat.zero_add, List.take_append_of_le_length (by omega), List.take_of_length_le (by omega), List.drop_of_length_le (by simp [hz, hA, hB])]
  simp
theorem build_mac (A : List Value) (hA : A.length = 137) (w : World) : (Instr.build 57 #[(0, .agg A.toArray)]).run Tryd.prog w = .ok (.agg A.toArray) w := by
  refine run_build w _ _ _ ?_
  rw [Tryd.built_mac]
  have hz := z137_len
  have e1 := fill_one (fun i => (#[(0, 137)] : Array (Nat × Nat))[i]?) z137.toList 0 0 A [] (by rw [hA]; rfl) (by omega)
  rw [Array.toArray_toList] at e1
  rw [e1]
  unfold Instr.fill
  rw [List.take_zero, List.nil_append, Nat.zero_add, List.drop_of_length_le (by omega)]
  simp
end Go.Proofs.YtghhjopclkhpnaaDoor
