/- The walk of HmacEqual. -/
import Derived.Test.YtghhjopclkhpnaaDoorHmK
namespace Go.Proofs.YtghhjopclkhpnaaDoor
open Go.RowKit
set_option maxRecDepth 100000 in
set_option maxHeartbeats 2000000 in
theorem hmacEqual_walk (w : World) (hg : Glob w) (a : ByteArray) (_ : a.size ≤ maxLen) (b : ByteArray) (_ : b.size ≤ maxLen) :
    Calls Tryd.prog 8 #[.string a, .string b] w fun e w' => e = .returned (.bool true) ∧ Below w.heap.size w w' := by
  have HG := Lib.hid hg; clear hg
  obtain ⟨c, hc⟩ : ∃ c, (a.toList == b.toList) = c := ⟨_, rfl⟩
  by_cases h : a.size = 32
  · have i1 : ((a.size : Int) == 32) = true := by rw [beq_iff_eq]; omega
    have hd : decide (a.size = 32) = true := decide_eq_true h
    clear h
    go_enter Tryd.func8, Tryd.ntmps8
    go_wp2_with fail
    refine (awake5_any w HG.out).mono ?_
    rintro e w1 ⟨rfl, hb1⟩
    have B1 := Lib.hid hb1; clear hb1
    go_wp2_with fail
    refine (equal_any a b).mono ?_
    rintro e w2 ⟨rfl, rfl⟩
    rw [hd, Bool.true_and, hc]
    cases c
    all_goals
      go_wp2_with fail
      go_ret
      exact ⟨rfl, B1.out⟩
  · have i1 : ((a.size : Int) == 32) = false := by rw [beq_eq_false_iff_ne]; omega
    have hd : decide (a.size = 32) = false := decide_eq_false h
    clear h
    go_enter Tryd.func8, Tryd.ntmps8
    go_wp2_with fail
    refine (awake5_any w HG.out).mono ?_
    rintro e w1 ⟨rfl, hb1⟩
    have B1 := Lib.hid hb1; clear hb1
    go_wp2_with fail
    refine (equal_any a b).mono ?_
    rintro e w2 ⟨rfl, rfl⟩
    rw [hd, Bool.false_and]
    cases c
    all_goals
      go_wp2_with fail
      go_ret
      exact ⟨rfl, B1.out⟩
end Go.Proofs.YtghhjopclkhpnaaDoor
