/- The walk of FrameJoins. -/
import Derived.Test.YtggiinfeiilogaaDoorFrV
import Derived.Test.YtggiinfeiilogaaDoorFrT
namespace Go.Proofs.YtggiinfeiilogaaDoor
open Go.RowKit
set_option maxRecDepth 100000 in
set_option maxHeartbeats 4000000 in
theorem frameJoins_walk (w : World) (hg : Glob w) (lv : Value) (L : List Fr.Msg) (hl : MsV w (fun k => k < w.heap.size) lv L) :
    Calls Tryd.prog 13 #[lv] w fun e w' => e = .returned (.bool true) ∧ Below w.heap.size w w' := by
  obtain ⟨la, lc, rfl, lc1, lc2, _⟩ := hl.get
  unfold maxLen at lc2
  have HG := Lib.hid hg
  have HL := Lib.hid hl
  clear hg hl
  go_enter Tryd.func13, Tryd.ntmps13
  go_wp2_with fail
  refine (awake37_any w HG.out).mono ?_
  rintro e w1 ⟨rfl, hb1⟩
  have B1 := Lib.hid hb1; clear hb1
  go_wp2_with fail
  refine (few_any (HL.out.same (w' := w1) (fun k hk => B1.out.block k hk))).mono ?_
  rintro e w2 ⟨⟨bb, rfl, hfew⟩, rfl⟩
  cases bb with
  | false =>
    go_wp2_with fail
    go_ret
    exact ⟨rfl, B1.out⟩
  | true =>
  clear hfew
  go_wp2_with fail
  refine (join_any (HL.out.same (w' := w1) (fun k hk => B1.out.block k hk)) (fun k hk => Nat.lt_of_lt_of_le hk B1.out.size)).mono ?_
  rintro e w3 ⟨hb3, hy3, hn3⟩
  have B3 := Lib.hid (B1.out.trans (hb3.mono B1.out.size))
  by_cases hj : Fr.jall L
  · obtain ⟨m0, hm0, sv, rfl, hN3⟩ := hy3 hj
    obtain ⟨sa, sc, rfl, _, _, _, _⟩ := hN3.2.1.form
    have X3 := Lib.hid hN3.bvs
    have HJ := Lib.hid hj
    have HM0 := Lib.hid hm0
    clear hN3 hy3 hn3 hb3 hj hm0
    go_wp2_with fail
    refine (refjoin_any (HL.out.same (w' := w3) (fun k hk => B3.out.block k hk)) (fun k hk => Nat.lt_of_lt_of_le hk B3.out.size)).mono ?_
    rintro e w4 ⟨hb4, hy4, -⟩
    obtain ⟨m1, hm1, tv, rfl, hN4⟩ := hy4 HJ.out
    obtain ⟨ta, tc, rfl, _, _, _, _⟩ := hN4.2.1.form
    have B4 := Lib.hid (B3.out.trans (hb4.mono B3.out.size))
    have hmm : m1 = m0 := by have h := HM0.out; rw [Option.mem_def] at h hm1; rw [h] at hm1; exact (Option.some.inj hm1).symm
    subst hmm
    have hc1 := (X3.out.grow hb4).convS
    have hc2 := hN4.bvs.convS
    obtain ⟨V, hV⟩ : ∃ V : ByteArray, (⟨(Fr.jbody L).toArray⟩ : ByteArray) = V := ⟨_, rfl⟩
    rw [hV] at hc1 hc2
    clear hb4 hy4 hN4 hm1 hV
    go_wp2_with fail
    go_ret
    exact ⟨rfl, B4.out⟩
  · obtain rfl := hn3 hj
    have HJ := Lib.hid hj
    clear hy3 hn3 hb3 hj
    go_wp2_with fail
    refine (refjoin_any (HL.out.same (w' := w3) (fun k hk => B3.out.block k hk)) (fun k hk => Nat.lt_of_lt_of_le hk B3.out.size)).mono ?_
    rintro e w4 ⟨hb4, -, hn4⟩
    obtain rfl := hn4 HJ.out
    have B4 := Lib.hid (B3.out.trans (hb4.mono B3.out.size))
    have hc1 := (BV.nil w4 (fun _ => True)).convS
    obtain ⟨V, hV⟩ : ∃ V : ByteArray, (⟨([] : List UInt8).toArray⟩ : ByteArray) = V := ⟨_, rfl⟩
    rw [hV] at hc1
    clear hb4 hn4 hV
    go_wp2_with fail
    go_ret
    exact ⟨rfl, B4.out⟩
end Go.Proofs.YtggiinfeiilogaaDoor
