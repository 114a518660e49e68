/- Contract of the reference's Check. -/
import Derived.Test.YtggiinfeiilogaaDoorFrR
namespace Go.Proofs.YtggiinfeiilogaaDoor
open Go.RowKit
section
variable {w w' : World} {F G : Nat → Prop} {v : Value} {L : List Fr.Msg} {B : Nat}
set_option maxHeartbeats 1000000 in
theorem refcheck_any (k : Int) {xv : Value} {l : List UInt8} (hx : BV w F xv l) : Calls Tryd.prog 27 #[.agg #[.int .i64 k, xv]] w fun e w' => e = .returned (.int .i64 (encErr k l)) ∧ Below w.heap.size w w' := by
  obtain ⟨xa, xc, rfl, x1, x2, _⟩ := hx.get
  unfold maxLen at x2
  obtain ⟨w1, hw1⟩ : ∃ w1, w.alloc (.cells #[.int .i64 k, .slice xa l.length xc] 32) = w1 := ⟨_, rfl⟩
  have c0 : w1.cell? ⟨w.heap.size, 0, none⟩ = some (.int .i64 k) := by rw [← hw1]; exact (Blk.new w [.int .i64 k, .slice xa l.length xc] _).cell rfl
  have c1 : w1.cell? ⟨w.heap.size, 1, none⟩ = some (.slice xa l.length xc) := by rw [← hw1]; exact (Blk.new w [.int .i64 k, .slice xa l.length xc] _).cell rfl
  have B1 : Hid (Below w.heap.size w w1) := Lib.hid (by rw [← hw1]; exact (Below.refl _ _).alloc (Nat.le_refl _) _)
  by_cases hk : 0 ≤ k ∧ k ≤ 255
  · have HD := Lib.hid (decide_eq_true hk)
    by_cases hb : 65536 < l.length
    · have ib : (65536 : Int) < (l.length : Int) := by omega
      have HV : Hid (encErr k l = 2) := Lib.hid (by unfold encErr; rw [if_pos hk, if_neg (by omega)])
      clear hk hb hx
      go_enter Tryd.func27, Tryd.ntmps27
      go_wp2_with fail
      clear hw1
      refine (refkind_any w1 k).mono ?_
      rintro e w' ⟨rfl, rfl⟩
      rw [HD.out]
      go_wp2_with fail
      go_ret
      exact ⟨ret_int HV.out.symm, B1.out⟩
    · have ib : ¬ (65536 : Int) < (l.length : Int) := by omega
      have HV : Hid (encErr k l = 0) := Lib.hid (by unfold encErr; rw [if_pos hk, if_pos (by omega)])
      clear hk hb hx
      go_enter Tryd.func27, Tryd.ntmps27
      go_wp2_with fail
      clear hw1
      refine (refkind_any w1 k).mono ?_
      rintro e w' ⟨rfl, rfl⟩
      rw [HD.out]
      go_wp2_with fail
      go_ret
      exact ⟨ret_int HV.out.symm, B1.out⟩
  · have HD := Lib.hid (decide_eq_false hk)
    have HV : Hid (encErr k l = 1) := Lib.hid (by unfold encErr; rw [if_neg hk])
    clear hk hx
    go_enter Tryd.func27, Tryd.ntmps27
    go_wp2_with fail
    clear hw1
    refine (refkind_any w1 k).mono ?_
    rintro e w' ⟨rfl, rfl⟩
    rw [HD.out]
    go_wp2_with fail
    go_ret
    exact ⟨ret_int HV.out.symm, B1.out⟩
end
end Go.Proofs.YtggiinfeiilogaaDoor
