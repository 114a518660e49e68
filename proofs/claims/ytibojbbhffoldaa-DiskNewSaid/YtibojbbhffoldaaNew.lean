/- The walk of DiskNew. -/
import Derived.Test.YtibojbbhffoldaaRefN
import Derived.Test.YtibojbbhffoldaaSmall
namespace Go.Proofs.Ytibojbbhffoldaa
open Go.RowKit Go.Maps
def NumOk (n size : Int) : Prop := 1 ≤ n ∧ n ≤ 65536 ∧ 1 ≤ size ∧ size ≤ 4096
instance (n size : Int) : Decidable (NumOk n size) := by unfold NumOk; infer_instance
section
variable {w : World}
set_option maxHeartbeats 400000 in
theorem numbers_yes (n size : Int) (h : NumOk n size) : Calls Try.prog 18 #[.int .i64 n, .int .i64 size] w fun e w' => e = .returned (.bool true) ∧ w = w' := by
  obtain ⟨h1, h2, h3, h4⟩ := h
  go_enter Try.func18, Try.ntmps18
  go_wp2_with fail
  go_ret
  exact ⟨rfl, rfl⟩
set_option maxHeartbeats 400000 in
theorem numbers_no (n size : Int) (h : ¬ NumOk n size) : Calls Try.prog 18 #[.int .i64 n, .int .i64 size] w fun e w' => e = .returned (.bool false) ∧ w = w' := by
  unfold NumOk at h
  by_cases h1 : 1 ≤ n
  · by_cases h2 : n ≤ 65536
    · by_cases h3 : 1 ≤ size
      · have h4 : 4096 < size := by omega
        clear h
        go_enter Try.func18, Try.ntmps18
        go_wp2_with fail
        go_ret
        exact ⟨ret_bool (decide_eq_false (by omega)), rfl⟩
      · clear h
        go_enter Try.func18, Try.ntmps18
        go_wp2_with fail
        go_ret
        exact ⟨rfl, rfl⟩
    · clear h
      go_enter Try.func18, Try.ntmps18
      go_wp2_with fail
      go_ret
      exact ⟨rfl, rfl⟩
  · clear h
    go_enter Try.func18, Try.ntmps18
    go_wp2_with fail
    go_ret
    exact ⟨rfl, rfl⟩
end
set_option maxRecDepth 100000 in
set_option maxHeartbeats 4000000 in
theorem diskNew_walk (w : World) (sectors : Int) (_ : -9223372036854775808 ≤ sectors) (_ : sectors ≤ 9223372036854775807) (size : Int) (_ : -9223372036854775808 ≤ size) (_ : size ≤ 9223372036854775807) :
    Calls Try.prog 4 #[.int .i64 sectors, .int .i64 size] w fun e w' => e = .returned (.bool true) ∧ Below w.heap.size w w' := by
  by_cases hN : NumOk sectors size
  · have HN := Lib.hid hN
    obtain ⟨n1, n2, n3, n4⟩ := hN
    obtain ⟨n, rfl⟩ := Int.eq_ofNat_of_zero_le (show 0 ≤ sectors by omega)
    obtain ⟨m, rfl⟩ := Int.eq_ofNat_of_zero_le (show 0 ≤ size by omega)
    have Q := fun w : World => numbers_yes (w := w) (n : Int) (m : Int) HN.out
    by_cases hn : (100 : Int) < (n : Int)
    · go_enter Try.func4, Try.ntmps4
      go_wp2_with fail
      refine (awake_any w).mono ?_
      rintro e w1 ⟨rfl, hb1⟩
      go_wp2_with fail
      refine (Q w1).mono ?_
      rintro e w2 ⟨rfl, rfl⟩
      go_wp2_with fail
      go_ret
      exact ⟨rfl, hb1⟩
    by_cases hm : (100 : Int) < (m : Int)
    · go_enter Try.func4, Try.ntmps4
      go_wp2_with fail
      refine (awake_any w).mono ?_
      rintro e w1 ⟨rfl, hb1⟩
      go_wp2_with fail
      refine (Q w1).mono ?_
      rintro e w2 ⟨rfl, rfl⟩
      go_wp2_with fail
      go_ret
      exact ⟨rfl, hb1⟩
    have hn' : (n : Int) ≤ 100 := by omega
    have hm' : (m : Int) ≤ 100 := by omega
    clear hn hm
    go_enter Try.func4, Try.ntmps4
    go_wp2_with fail
    refine (awake_any w).mono ?_
    rintro e w1 ⟨rfl, hb1⟩
    have B1 := Lib.hid hb1
    clear hb1
    go_wp2_with fail
    refine (Q w1).mono ?_
    rintro e w2 ⟨rfl, rfl⟩
    go_wp2_with fail
    refine (new_yes n m w1 (by omega) (by omega) (by omega) (by omega)).mono ?_
    rintro e w2 ⟨b, rfl, hb2, hD2⟩
    have B2 := Lib.hid (B1.out.trans (hb2.mono B1.out.size))
    have D2 := Lib.hid hD2
    clear hb2 hD2 B1
    go_wp2_with fail
    refine (Q w2).mono ?_
    rintro e w3 ⟨rfl, rfl⟩
    go_wp2_with fail
    refine (sectors_any D2.out).mono ?_
    rintro e w3 ⟨rfl, rfl⟩
    rw [show (DSt.new n m).dur.length = n from by simp [DSt.new]]
    go_wp2_with fail
    refine (size_any D2.out).mono ?_
    rintro e w3 ⟨rfl, rfl⟩
    rw [show (DSt.new n m).size = m from rfl]
    go_wp2_with fail
    refine (down_any D2.out).mono ?_
    rintro e w3 ⟨rfl, rfl⟩
    rw [show (DSt.new n m).down = false from rfl]
    go_wp2_with fail
    refine (pending_any D2.out).mono ?_
    rintro e w3 ⟨rfl, rfl⟩
    rw [show (DSt.new n m).pend.length = 0 from rfl]
    go_wp2_with fail
    refine (image_any D2.out).mono ?_
    rintro e w4 ⟨iv, rfl, hb4, hv4⟩
    have L4 := Lib.hid hv4.lv
    have B4 := Lib.hid (B2.out.trans (hb4.mono B2.out.size))
    clear hb4 hv4
    go_wp2_with fail
    refine (refnew_any n m w4 (by omega) (by omega) (by omega)).mono ?_
    rintro e w5 ⟨rb, rfl, hb5, dv, dvs, lv, pvs, left, hR⟩
    have c1 := hR.cells.cell (i := 1) rfl
    have L5 := Lib.hid hR.lv_
    have L4' := Lib.hid (L4.out.grow hb5)
    have B5 := Lib.hid (B4.out.trans (hb5.mono B4.out.size))
    clear hR hb5
    go_wp2_with fail
    refine (sameAll_any L4'.out L5.out).mono ?_
    rintro e w6 ⟨rfl, hq⟩
    go_wp2_with fail
    go_ret
    exact ⟨ret_bool (by simp), B5.out.trans (hq.mono B5.out.size)⟩
  · obtain ⟨Q⟩ : Nonempty (∀ w : World, Calls Try.prog 18 #[.int .i64 sectors, .int .i64 size] w fun e w' => e = .returned (.bool false) ∧ w = w') := ⟨fun w => numbers_no (w := w) sectors size hN⟩
    have hN2 : sectors < 1 ∨ 65536 < sectors ∨ size < 1 ∨ 4096 < size := by unfold NumOk at hN; omega
    have HN := Lib.hid hN2
    clear hN hN2
    go_enter Try.func4, Try.ntmps4
    go_wp2_with fail
    refine (awake_any w).mono ?_
    rintro e w1 ⟨rfl, hb1⟩
    go_wp2_with fail
    refine (Q w1).mono ?_
    rintro e w2 ⟨rfl, rfl⟩
    go_wp2_with fail
    refine (new_no _ _ w1 HN.out).mono ?_
    rintro e w2 ⟨rfl, rfl⟩
    go_wp2_with fail
    refine (Q w1).mono ?_
    rintro e w2 ⟨rfl, rfl⟩
    go_wp2_with fail
    go_ret
    exact ⟨rfl, hb1⟩
end Go.Proofs.Ytibojbbhffoldaa
