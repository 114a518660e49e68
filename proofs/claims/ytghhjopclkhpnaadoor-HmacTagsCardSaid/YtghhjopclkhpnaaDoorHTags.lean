/- The walk of HmacTags. -/
import Derived.Test.YtghhjopclkhpnaaDoorHmK
namespace Go.Proofs.YtghhjopclkhpnaaDoor
open Go.RowKit
set_option maxRecDepth 100000 in
set_option maxHeartbeats 4000000 in
theorem hmacTags_walk (w : World) (hg : Glob w) (s : ByteArray) (_ : s.size ≤ maxLen) (xv : Value) (d : List UInt8) (hx : BV w (fun k => k < w.heap.size) xv d) :
    Calls Tryd.prog 3 #[.string s, xv] w fun e w' => e = .returned (.bool true) ∧ Below w.heap.size w w' := by
  obtain ⟨xa, xc, rfl, xc1, xc2, _⟩ := hx.get
  unfold maxLen at xc2
  have HX := Lib.hid hx; clear hx
  have HG := Lib.hid hg; clear hg
  by_cases h1 : 200 < s.size
  · have i1 : (200 : Int) < (s.size : Int) := by omega
    go_enter Tryd.func3, Tryd.ntmps3
    go_wp2_with fail
    refine (awake5_any w HG.out).mono ?_
    rintro e w1 ⟨rfl, hb1⟩
    have B1 := Lib.hid hb1; clear hb1
    go_wp2_with fail
    go_ret
    exact ⟨rfl, B1.out⟩
  have i1 : (s.size : Int) ≤ 200 := by omega
  by_cases h2 : 400 < d.length
  · have i2 : (400 : Int) < (d.length : Int) := by omega
    go_enter Tryd.func3, Tryd.ntmps3
    go_wp2_with fail
    refine (awake5_any w HG.out).mono ?_
    rintro e w1 ⟨rfl, hb1⟩
    have B1 := Lib.hid hb1; clear hb1
    go_wp2_with fail
    go_ret
    exact ⟨rfl, B1.out⟩
  have i2 : (d.length : Int) ≤ 400 := by omega
  go_enter Tryd.func3, Tryd.ntmps3
  go_wp2_with fail
  refine (awake5_any w HG.out).mono ?_
  rintro e w1 ⟨rfl, hb1⟩
  have B1 := Lib.hid hb1; clear hb1
  go_wp2_with fail
  refine (hmtag_any s (HX.out.same (fun k hk => B1.out.block k hk)) (fun k hk => Nat.lt_of_lt_of_le hk B1.out.size) (HG.out.below B1.out HG.out.lt) (by omega) (by omega)).mono ?_
  rintro e w2 ⟨rfl, hb2⟩
  have B2 := Lib.hid (B1.out.trans (hb2.mono B1.out.size))
  obtain ⟨V, hV⟩ : ∃ V : ByteArray, (⟨(Hm.tag s.data.toList d).toArray⟩ : ByteArray) = V := ⟨_, rfl⟩
  rw [hV]
  have HV := Lib.hid hV
  clear hb2 hV
  go_wp2_with fail
  refine (reftag_any s (HX.out.same (fun k hk => B2.out.block k hk)) (fun k hk => Nat.lt_of_lt_of_le hk B2.out.size) (by omega) (by omega)).mono ?_
  rintro e w3 ⟨rfl, hb3⟩
  rw [HV.out]
  have B3 := Lib.hid (B2.out.trans (hb3.mono B2.out.size))
  clear hb3
  go_wp2_with fail
  go_ret
  exact ⟨rfl, B3.out⟩
end Go.Proofs.YtghhjopclkhpnaaDoor
