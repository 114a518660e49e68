/- The walk of Sha256Sums. -/
import Derived.Test.YtiakmpnmooobbaaDoorRefS
namespace Go.Proofs.YtiakmpnmooobbaaDoor
open Go.RowKit
set_option maxRecDepth 100000 in
set_option maxHeartbeats 2000000 in
theorem sha256Sums_walk (w : World) (hg : Glob w) (xv : Value) (x : List UInt8) (hx : BV w (fun k => k < w.heap.size) xv x) :
    Calls Tryd.prog 3 #[xv] w fun e w' => e = .returned (.bool true) ∧ Below w.heap.size w w' := by
  obtain ⟨xa, xc, rfl, xc1, xc2, _⟩ := hx.get
  unfold maxLen at xc2
  have HG := Lib.hid hg; clear hg
  have HX := Lib.hid hx; clear hx
  by_cases hlen : 300 < x.length
  · have il : (300 : Int) < (x.length : Int) := by omega
    go_enter Tryd.func3, Tryd.ntmps3
    go_wp2_with fail
    refine (awake_any w HG.out).mono ?_
    rintro e w1 ⟨rfl, hb1⟩
    have B1 := Lib.hid hb1; clear hb1
    go_wp2_with fail
    refine (awake_any w1 (HG.out.below B1.out HG.out.lt)).mono ?_
    rintro e w2 ⟨rfl, hb2⟩
    go_wp2_with fail
    go_ret
    exact ⟨rfl, B1.out.trans (hb2.mono B1.out.size)⟩
  have il : (x.length : Int) ≤ 300 := by omega
  go_enter Tryd.func3, Tryd.ntmps3
  go_wp2_with fail
  refine (awake_any w HG.out).mono ?_
  rintro e w1 ⟨rfl, hb1⟩
  have B1 := Lib.hid hb1; clear hb1
  go_wp2_with fail
  refine (shaof_any ((HX.out.same (fun y hy => B1.out.block y hy)).mono (fun y hy => Nat.lt_of_lt_of_le hy B1.out.size)) (HG.out.below B1.out HG.out.lt) (by omega)).mono ?_
  rintro e w2 ⟨rfl, hb2⟩
  have B2 := Lib.hid (B1.out.trans (hb2.mono B1.out.size))
  obtain ⟨v, hv⟩ : ∃ v : ByteArray, (⟨(Sha.sum x).toArray⟩ : ByteArray) = v := ⟨_, rfl⟩
  rw [hv]
  have Hv := Lib.hid hv
  clear hb2 B1 hv
  go_wp2_with fail
  refine (refsum_any (HX.out.same (fun y hy => B2.out.block y hy)) (by omega)).mono ?_
  rintro e w3 ⟨rfl, hb3⟩
  rw [Hv.out]
  have B3 := Lib.hid (B2.out.trans (hb3.mono B2.out.size))
  clear hb3 B2
  go_wp2_with fail
  go_ret
  exact ⟨rfl, B3.out⟩
end Go.Proofs.YtiakmpnmooobbaaDoor
