/- The walk of Sha256Hex. -/
import Derived.Test.YtiakmpnmooobbaaDoorRefH
namespace Go.Proofs.YtiakmpnmooobbaaDoor
open Go.RowKit
set_option maxRecDepth 100000 in
set_option maxHeartbeats 2000000 in
theorem sha256Hex_walk (w : World) (hg : Glob w) (s : ByteArray) (_ : s.size ≤ maxLen) :
    Calls Tryd.prog 5 #[.string s] w fun e w' => e = .returned (.bool true) ∧ Below w.heap.size w w' := by
  have HG := Lib.hid hg; clear hg
  by_cases hlen : 300 < s.size
  · have il : (300 : Int) < (s.size : Int) := by omega
    go_enter Tryd.func5, Tryd.ntmps5
    go_wp2_with fail
    refine (awake_any w HG.out).mono ?_
    rintro e w1 ⟨rfl, hb1⟩
    have B1 := Lib.hid hb1; clear hb1
    go_wp2_with fail
    refine (awake_any w1 (HG.out.below B1.out HG.out.lt)).mono ?_
    rintro e w2 ⟨rfl, hb2⟩
    go_wp2_with fail
    go_ret
    exact ⟨rfl, B1.out.trans (hb2.mono B1.out.size)⟩
  have il : (s.size : Int) ≤ 300 := by omega
  go_enter Tryd.func5, Tryd.ntmps5
  go_wp2_with fail
  refine (awake_any w HG.out).mono ?_
  rintro e w1 ⟨rfl, hb1⟩
  have B1 := Lib.hid hb1; clear hb1
  go_wp2_with fail
  refine (hex_any w1 s (by omega)).mono ?_
  rintro e w2 ⟨rfl, hb2⟩
  have B2 := Lib.hid (B1.out.trans (hb2.mono B1.out.size))
  obtain ⟨u, hu⟩ : ∃ u : ByteArray, (⟨(Sha.hex s.data.toList).toArray⟩ : ByteArray) = u := ⟨_, rfl⟩
  have hud : u.data.toList = Sha.hex s.data.toList := by rw [← hu]
  have hus : u.size ≤ 600 := by
    show u.data.size ≤ 600
    rw [← Array.length_toList, hud, hex_length]
    have : s.data.toList.length = s.size := rfl
    omega
  rw [hu]
  have Hu := Lib.hid hu
  have Hud := Lib.hid hud
  have Hus := Lib.hid hus
  clear hb2 B1 hu hud hus
  go_wp2_with fail
  refine (fromhex_any w2 u (by have := Hus.out; omega)).mono ?_
  rintro e w3 ⟨rfl, hb3⟩
  rw [Hud.out, show FromHexV (Sha.hex s.data.toList) = .tuple #[.string s, .int .i64 0] from by unfold FromHexV; rw [if_pos (Sha.hexOk_hex _), str_back s (Sha.unhex_hex _)]]
  have B3 := Lib.hid (B2.out.trans (hb3.mono B2.out.size))
  clear hb3 B2
  go_wp2_with fail
  refine (refhex_any w3 s (by omega)).mono ?_
  rintro e w4 ⟨rfl, hb4⟩
  rw [Hu.out]
  have B4 := Lib.hid (B3.out.trans (hb4.mono B3.out.size))
  clear hb4 B3
  go_wp2_with fail
  go_ret
  exact ⟨rfl, B4.out⟩
end Go.Proofs.YtiakmpnmooobbaaDoor
