/- The walk of HmacExtracts. -/
import Derived.Test.YtghhjopclkhpnaaDoorHmK
namespace Go.Proofs.YtghhjopclkhpnaaDoor
open Go.RowKit
set_option maxRecDepth 100000 in
set_option maxHeartbeats 4000000 in
theorem hmacExtracts_walk (w : World) (hg : Glob w) (s : ByteArray) (_ : s.size ≤ maxLen) (t : ByteArray) (_ : t.size ≤ maxLen) :
    Calls Tryd.prog 5 #[.string s, .string t] w fun e w' => e = .returned (.bool true) ∧ Below w.heap.size w w' := by
  have HG := Lib.hid hg; clear hg
  by_cases h1 : 200 < s.size
  · have i1 : (200 : Int) < (s.size : Int) := by omega
    go_enter Tryd.func5, Tryd.ntmps5
    go_wp2_with fail
    refine (awake5_any w HG.out).mono ?_
    rintro e w1 ⟨rfl, hb1⟩
    have B1 := Lib.hid hb1; clear hb1
    go_wp2_with fail
    go_ret
    exact ⟨rfl, B1.out⟩
  have i1 : (s.size : Int) ≤ 200 := by omega
  by_cases h2 : 200 < t.size
  · have i2 : (200 : Int) < (t.size : Int) := by omega
    go_enter Tryd.func5, Tryd.ntmps5
    go_wp2_with fail
    refine (awake5_any w HG.out).mono ?_
    rintro e w1 ⟨rfl, hb1⟩
    have B1 := Lib.hid hb1; clear hb1
    go_wp2_with fail
    go_ret
    exact ⟨rfl, B1.out⟩
  have i2 : (t.size : Int) ≤ 200 := by omega
  go_enter Tryd.func5, Tryd.ntmps5
  go_wp2_with fail
  refine (awake5_any w HG.out).mono ?_
  rintro e w1 ⟨rfl, hb1⟩
  have B1 := Lib.hid hb1; clear hb1
  go_wp2_with fail
  refine (extract_any s t (HG.out.below B1.out HG.out.lt) (by omega) (by omega)).mono ?_
  rintro e w2 ⟨rfl, hb2⟩
  have B2 := Lib.hid (B1.out.trans (hb2.mono B1.out.size))
  obtain ⟨V, hV⟩ : ∃ V : ByteArray, (⟨(Hm.tag s.data.toList t.data.toList).toArray⟩ : ByteArray) = V := ⟨_, rfl⟩
  rw [hV]
  have HV := Lib.hid hV
  obtain ⟨c3, w3, hconv, hb3, hbv3, hz3⟩ := conv_bytes w2 t (by omega)
  have B3 := Lib.hid (B2.out.trans (hb3.mono B2.out.size))
  have X3 := Lib.hid hbv3
  have Z3 := Lib.hid hz3
  clear hb2 hV hb3 hbv3 hz3
  go_wp2_with fail
  refine (hmtag_any s X3.out (fun k hk => by have := Z3.out; omega) (HG.out.below B3.out HG.out.lt) (by omega) (by have := nil_lt t; omega)).mono ?_
  rintro e w4 ⟨rfl, hb4⟩
  rw [HV.out]
  have B4 := Lib.hid (B3.out.trans (hb4.mono B3.out.size))
  clear hb4 hconv
  go_wp2_with fail
  go_ret
  exact ⟨rfl, B4.out⟩
end Go.Proofs.YtghhjopclkhpnaaDoor
