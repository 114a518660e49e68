/- The walk of Sha256Digits. -/
import Derived.Test.YtiakmpnmooobbaaDoorRefF
namespace Go.Proofs.YtiakmpnmooobbaaDoor
open Go.RowKit
set_option maxRecDepth 100000 in
set_option maxHeartbeats 2000000 in
theorem sha256Digits_walk (w : World) (hg : Glob w) (s : ByteArray) (_ : s.size ≤ maxLen) :
    Calls Tryd.prog 6 #[.string s] w fun e w' => e = .returned (.bool true) ∧ Below w.heap.size w w' := by
  have HG := Lib.hid hg; clear hg
  by_cases hlen : 300 < s.size
  · have il : (300 : Int) < (s.size : Int) := by omega
    go_enter Tryd.func6, Tryd.ntmps6
    go_wp2_with fail
    refine (awake_any w HG.out).mono ?_
    rintro e w1 ⟨rfl, hb1⟩
    have B1 := Lib.hid hb1; clear hb1
    go_wp2_with fail
    refine (awake_any w1 (HG.out.below B1.out HG.out.lt)).mono ?_
    rintro e w2 ⟨rfl, hb2⟩
    go_wp2_with fail
    go_ret
    exact ⟨rfl, B1.out.trans (hb2.mono B1.out.size)⟩
  have il : (s.size : Int) ≤ 300 := by omega
  go_enter Tryd.func6, Tryd.ntmps6
  go_wp2_with fail
  refine (awake_any w HG.out).mono ?_
  rintro e w1 ⟨rfl, hb1⟩
  have B1 := Lib.hid hb1; clear hb1
  go_wp2_with fail
  refine (fromhex_any w1 s (by omega)).mono ?_
  rintro e w2 ⟨rfl, hb2⟩
  have B2 := Lib.hid (B1.out.trans (hb2.mono B1.out.size))
  clear hb2 B1
  obtain ⟨u, n, hu⟩ : ∃ (u : ByteArray) (n : Int), FromHexV s.data.toList = .tuple #[.string u, .int .i64 n] := by
    unfold FromHexV
    split
    · exact ⟨_, _, rfl⟩
    · exact ⟨_, _, rfl⟩
  rw [hu]
  have Hu := Lib.hid hu
  clear hu
  go_wp2_with fail
  refine (reffromhex_any w2 s (by omega)).mono ?_
  rintro e w3 ⟨rfl, hb3⟩
  rw [Hu.out]
  have B3 := Lib.hid (B2.out.trans (hb3.mono B2.out.size))
  clear hb3 B2
  go_wp2_with fail
  go_ret
  exact ⟨rfl, B3.out⟩
end Go.Proofs.YtiakmpnmooobbaaDoor
