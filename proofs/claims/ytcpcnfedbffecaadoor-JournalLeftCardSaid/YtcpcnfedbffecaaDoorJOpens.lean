/- The walk of JournalOpens. -/
import Derived.Test.YtcpcnfedbffecaaDoorJnR
import Derived.WalkMore
namespace Go.Proofs.YtcpcnfedbffecaaDoor
open Go.RowKit Go.Maps
set_option linter.unusedSimpArgs false
section
variable {w : World} {s : DSt} {t : JSt} {b bd g c2 z B E P : Nat} {FD : Nat → Prop}
set_option maxRecDepth 100000 in
set_option maxHeartbeats 1000000 in
theorem refnew17_any (w : World) (z : Nat) (count : Int) (c2 : Nat) (h3 : c2 ≤ 65536) (hc : count.tdiv 2 = (c2 : Int)) :
    Calls Tryd.prog 19 #[.int .i64 (z : Int), .int .i64 count] w fun e w' => ∃ g, e = .returned (.pointer (some ⟨g, 0, none⟩)) ∧ Below w.heap.size w w' ∧ Blk w' g [.int .i64 (c2 : Int), .int .i64 (z : Int), .slice none 0 0, .int .i64 0, .int .i64 0] 68 := by
  have wc : IntKind.i64.wrap (c2 : Int) = (c2 : Int) := by rw [IntKind.wrap_i64]; omega
  go_enter Tryd.func19, Tryd.ntmps19
  go_wp2_with fail
  go_ret
  exact ⟨w.heap.size, rfl, (Below.refl _ _).alloc (Nat.le_refl _) _, Blk.new w [.int .i64 (c2 : Int), .int .i64 (z : Int), .slice none 0 0, .int .i64 0, .int .i64 0] _⟩
set_option maxRecDepth 100000 in
set_option maxHeartbeats 1000000 in
theorem refleft17_any (hB : Blk w g [.int .i64 (c2 : Int), .int .i64 (z : Int), .slice none 0 0, .int .i64 0, .int .i64 0] 68) (hP : c2 * z = P) (h1 : 44 ≤ P) (h2 : P ≤ 1000000) (h3 : c2 ≤ 65536) :
    Calls Tryd.prog 39 #[.pointer (some ⟨g, 0, none⟩)] w fun e w' => e = .returned (.int .i64 ((P : Int) - 44)) ∧ ∃ k, w' = w.drewN k := by
  have c0 := hB.cell (i := 0) rfl
  have c1 := hB.cell (i := 1) rfl
  have c3 := hB.cell (i := 3) rfl
  have hm : (c2 : Int) * (z : Int) = (P : Int) := by rw [← hP]; simp
  have wc : IntKind.i64.wrap (c2 : Int) = (c2 : Int) := by rw [IntKind.wrap_i64]; omega
  have wp : IntKind.i64.wrap (P : Int) = (P : Int) := by rw [IntKind.wrap_i64]; omega
  have wq : IntKind.i64.wrap ((P : Int) - 44) = (P : Int) - 44 := by rw [IntKind.wrap_i64]; omega
  have hx : (if (-1 : Int) < (P : Int) - 44 then (P : Int) - 44 else -1) = (P : Int) - 44 := if_pos (by omega)
  have hy : max (-1 : Int) ((P : Int) - 44) = (P : Int) - 44 := by omega
  have hz : ¬ ((P : Int) - 44 < -1) := by omega
  clear hB hP
  go_enter Tryd.func39, Tryd.ntmps39
  go_wp2_with fail
  go_still_tail 16, (by kernel_rfl)
  go_wp2_with fail
  go_ret
  exact ⟨rfl, 1, rfl⟩
set_option maxRecDepth 100000 in
set_option maxHeartbeats 1000000 in
theorem refsame17_any (hB : Blk w g [.int .i64 (c2 : Int), .int .i64 (z : Int), .slice none 0 0, .int .i64 0, .int .i64 0] 68) (hP : c2 * z = P) (h1 : 44 ≤ P) (h2 : P ≤ 1000000) (h3 : c2 ≤ 65536) (ra : Option Addr) (rc : Nat) :
    Calls Tryd.prog 32 #[.pointer (some ⟨g, 0, none⟩), .slice ra 0 rc, .int .i64 0, .int .i64 ((P : Int) - 44)] w fun e w' => e = .returned (.bool true) ∧ ∃ k, w' = w.drewN k := by
  have V := Lib.hid (refleft17_any hB hP h1 h2 h3)
  have c2' := hB.cell (i := 2) rfl
  have c4 := hB.cell (i := 4) rfl
  clear hB hP
  go_enter Tryd.func32, Tryd.ntmps32
  go_wp2_with (go_at_call 39; refine (V.out).mono ?_; rintro e w' ⟨rfl, k, rfl⟩)
  go_loopw [9] (fun i wr => i = .int .i64 0 ∧ wr = w.drewN k) (fun _ _ => 0)
  case atStart => exact ⟨rfl, rfl⟩
  case round =>
    obtain ⟨rfl, rfl⟩ := hrel
    go_wp2_with fail
    go_ret
    exact ⟨rfl, k, rfl⟩
set_option maxRecDepth 100000 in
set_option maxHeartbeats 1000000 in
theorem same17_any (h : JD B E w t s b bd) (ht : t.recs = [] ∧ t.epoch = 0 ∧ t.used = 0 ∧ t.room = c2) (hs : s.size = z) (hc : 1 ≤ c2) (hB : Blk w g [.int .i64 (c2 : Int), .int .i64 (z : Int), .slice none 0 0, .int .i64 0, .int .i64 0] 68) (hP : c2 * z = P) (h1 : 44 ≤ P) (h2 : P ≤ 1000000) (h3 : c2 ≤ 65536) :
    Calls Tryd.prog 18 #[.pointer (some ⟨b, 0, none⟩), .pointer (some ⟨g, 0, none⟩)] w fun e w' => e = .returned (.bool true) ∧ Below w.heap.size w w' := by
  obtain ⟨t1, t2, t3, t4⟩ := ht
  have VR := h.records (by omega) (by rw [t1]; simp) (by rw [t1]; simp)
  rw [t1] at VR
  have HVR := Lib.hid VR
  have HJ := Lib.hid h
  have HB := Lib.hid hB
  have HL : Hid (t.left s.size = (P : Int) - 44 ∧ t.epoch = 0 ∧ t.used ≤ t.room ∧ t.room ≤ 65536) := Lib.hid ⟨by
    unfold JSt.left
    rw [if_neg (by omega), t3, t4, hs, Nat.sub_zero, ← hP]; simp, t2, by omega, by omega⟩
  have HPP := Lib.hid hP
  clear h hB VR t1 t2 t3 t4 hP hs
  go_enter Tryd.func18, Tryd.ntmps18
  go_wp2_with fail
  refine (HVR.out).mono ?_
  rintro e w1 ⟨rv, rfl, hb1, hR⟩
  obtain ⟨ra, rc, rfl, -⟩ := hR.form
  have VE := (HJ.out.grow hb1).epoch
  rw [HL.out.2.1] at VE
  have HVE := Lib.hid VE
  have VL := (HJ.out.grow hb1).left (by rw [HL.out.2.1]; omega) HL.out.2.2.1 HL.out.2.2.2
  rw [HL.out.1] at VL
  have HVL := Lib.hid VL
  have HVS := Lib.hid (fun k => refsame17_any (w := w1.drewN k) (HB.out.of_same (hb1.block g HB.out.lt)) HPP.out h1 h2 h3 ra rc)
  have HB1 := Lib.hid hb1
  clear hR hb1 VE VL HVR
  go_wp2_with (first | (go_at_call 14; refine (HVE.out).mono ?_; rintro e w' ⟨rfl, rfl⟩) | (go_at_call 11; refine (HVL.out).mono ?_; rintro e w' ⟨rfl, k, rfl⟩))
  refine (HVS.out k).mono ?_
  rintro e w' ⟨rfl, k2, rfl⟩
  go_wp2_with fail
  go_ret
  exact ⟨rfl, HB1.out.trans ((below_drewN w1 _).mono HB1.out.size)⟩
set_option maxRecDepth 100000 in
set_option maxHeartbeats 4000000 in
theorem journalOpens_walk (w : World) (hg : Glob w) (sectors : Int) (_ : -9223372036854775808 ≤ sectors) (_ : sectors ≤ 9223372036854775807) (size : Int) (_ : -9223372036854775808 ≤ size) (_ : size ≤ 9223372036854775807) (first : Int) (hf1 : -9223372036854775808 ≤ first) (hf2 : first ≤ 9223372036854775807) (count : Int) (hc1 : -9223372036854775808 ≤ count) (hc2 : count ≤ 9223372036854775807) (off : Bool) :
    Calls Tryd.prog 5 #[.int .i64 sectors, .int .i64 size, .int .i64 first, .int .i64 count, .bool off] w fun e w' => e = .returned (.bool true) ∧ Below w.heap.size w w' := by
  have HG : Hid (∀ W, Below w.heap.size w W → Glob W) := Lib.hid (fun W hW => hg.below hW hg.lt)
  have HAW := Lib.hid (awake_any w HG.out)
  clear hg
  by_cases c1 : sectors < 1
  · go_enter Tryd.func5, Tryd.ntmps5
    go_wp2_with fail
    refine (HAW.out).mono ?_
    rintro e w1 ⟨rfl, hb1⟩
    go_wp2_with fail
    go_ret
    exact ⟨rfl, hb1⟩
  by_cases c2 : 60 < sectors
  · go_enter Tryd.func5, Tryd.ntmps5
    go_wp2_with fail
    refine (HAW.out).mono ?_
    rintro e w1 ⟨rfl, hb1⟩
    go_wp2_with fail
    go_ret
    exact ⟨rfl, hb1⟩
  by_cases c3 : size < 1
  · go_enter Tryd.func5, Tryd.ntmps5
    go_wp2_with fail
    refine (HAW.out).mono ?_
    rintro e w1 ⟨rfl, hb1⟩
    go_wp2_with fail
    go_ret
    exact ⟨rfl, hb1⟩
  by_cases c4 : 200 < size
  · go_enter Tryd.func5, Tryd.ntmps5
    go_wp2_with fail
    refine (HAW.out).mono ?_
    rintro e w1 ⟨rfl, hb1⟩
    go_wp2_with fail
    go_ret
    exact ⟨rfl, hb1⟩
  obtain ⟨n, rfl⟩ := Int.eq_ofNat_of_zero_le (by omega : 0 ≤ sectors)
  obtain ⟨z, rfl⟩ := Int.eq_ofNat_of_zero_le (by omega : 0 ≤ size)
  have i1 : ¬ (n : Int) < 1 := c1
  have i2 : ¬ (60 : Int) < (n : Int) := c2
  have i3 : ¬ (z : Int) < 1 := c3
  have i4 : ¬ (200 : Int) < (z : Int) := c4
  have hn : 1 ≤ n ∧ n ≤ 60 ∧ 1 ≤ z ∧ z ≤ 200 := by omega
  have HN := Lib.hid hn
  have VG := Lib.hid (fun W => region_any W n z first count hn.2.1 hn.2.2.2 hf1 hf2 hc1 hc2)
  have hFC := Lib.hid (And.intro hf1 hf2)
  clear c1 c2 c3 c4 hn hf1 hf2 hc1 hc2
  have VN := Lib.hid (fun W => new_yes n z W HN.out.1 (by have := HN.out; omega) HN.out.2.2.1 (by have := HN.out; omega))
  by_cases hR : 64 ≤ z ∧ 0 ≤ first ∧ 4 ≤ count ∧ first + count ≤ (n : Int)
  · have hd : decide (64 ≤ z ∧ 0 ≤ first ∧ 4 ≤ count ∧ first + count ≤ (n : Int)) = true := decide_eq_true hR
    rw [hd] at VG
    have HR := Lib.hid hR
    clear hd
    cases off
    · obtain ⟨f, rfl⟩ := Int.eq_ofNat_of_zero_le hR.2.1
      obtain ⟨c, rfl⟩ := Int.eq_ofNat_of_zero_le (by omega : 0 ≤ count)
      clear hR
      go_enter Tryd.func5, Tryd.ntmps5
      go_wp2_with fail
      refine (HAW.out).mono ?_
      rintro e w1 ⟨rfl, hb1⟩
      have HB1 := Lib.hid hb1
      clear hb1
      go_wp2_with fail
      refine (VN.out w1).mono ?_
      rintro e w2 ⟨bd, rfl, hb2, hD2⟩
      have hlk : ∀ k, k < n → (DSt.new n z).look k = List.replicate z 0 := fun k hk => DSt.new_look n z k hk
      have DD2 : DD w1.heap.size w2.heap.size w2 (DSt.new n z) bd := ⟨_, fun k hk => hk, hD2, DSt.Calm.new n z, by simp [DSt.new], Nat.le_refl _, hb2.size⟩
      have hsz : (DSt.new n z).size = z := rfl
      have hln : (DSt.new n z).dur.length = n := by simp [DSt.new]
      obtain ⟨s0, hs0⟩ : ∃ s0, DSt.new n z = s0 := ⟨_, rfl⟩
      rw [hs0] at DD2 hlk hsz hln
      have hq := HR.out
      have hq2 := HN.out
      have B2 : Below w.heap.size w w2 := HB1.out.trans (hb2.mono HB1.out.size)
      have V := DD2.opens (first := f) (n := c) (bs0 := []) (bs1 := []) (fun W hW => HG.out W (B2.trans (hW.mono B2.size))) (by omega) (by omega) (by omega) (Jn.Chain.zeros 0 (by omega) (by omega) (fun _ => by rw [hlk _ (by omega), hsz])) (Jn.Chain.zeros 1 (by omega) (by omega) (fun _ => by rw [hlk _ (by omega), hsz]))
      have HV := Lib.hid V
      have HSZ := Lib.hid hsz
      have HB2 := Lib.hid B2
      clear hb2 hD2 hlk DD2 hsz hln hs0 hq hq2 B2 V
      go_wp2_with fail
      refine (HV.out).mono ?_
      rintro e w3 ⟨jb, rfl, hb3, hJ3⟩
      have HB3 : Hid (Below w.heap.size w w3) := Lib.hid (HB2.out.trans (hb3.mono HB2.out.size))
      have HJ3 := Lib.hid hJ3
      clear hb3 hJ3 HV
      go_wp2_with (go_at_call 17; refine (VG.out _).mono ?_; rintro e w' ⟨rfl, rfl⟩)
      refine (refnew17_any w3 z (c : Int) (c / 2) (by have := HR.out; have := HN.out; omega) (by rw [Int.tdiv_eq_ediv_of_nonneg (by omega)]; omega)).mono ?_
      rintro e w4 ⟨g, rfl, hb4, hB4⟩
      have hP1 : 44 ≤ c / 2 * z ∧ c / 2 * z ≤ 1000000 := by
        have h1 := HR.out
        have h2 := HN.out
        have h3 : 2 * 64 ≤ c / 2 * z := Nat.mul_le_mul (by omega) (by omega)
        have h4 : c / 2 * z ≤ 30 * 200 := Nat.mul_le_mul (by omega) (by omega)
        omega
      have VS := same17_any (HJ3.out.grow hb4) (c2 := c / 2) ⟨rfl, rfl, rfl, rfl⟩ HSZ.out (by have := HR.out; omega) hB4 rfl hP1.1 hP1.2 (by have := HR.out; have := HN.out; omega)
      have HVS := Lib.hid VS
      have HB4 : Hid (Below w.heap.size w w4) := Lib.hid (HB3.out.trans (hb4.mono HB3.out.size))
      clear hb4 hB4 hP1 VS
      go_wp2_with fail
      refine (HVS.out).mono ?_
      rintro e w5 ⟨rfl, hb5⟩
      have HB5 : Hid (Below w.heap.size w w5) := Lib.hid (HB4.out.trans (hb5.mono HB4.out.size))
      clear hb5
      go_wp2_with fail
      go_ret
      exact ⟨rfl, HB5.out⟩
    · clear hR
      go_enter Tryd.func5, Tryd.ntmps5
      go_wp2_with fail
      refine (HAW.out).mono ?_
      rintro e w1 ⟨rfl, hb1⟩
      have HB1 := Lib.hid hb1
      clear hb1
      go_wp2_with fail
      refine (VN.out w1).mono ?_
      rintro e w2 ⟨bd, rfl, hb2, hD2⟩
      have HB2 : Hid (Below w.heap.size w w2) := Lib.hid (HB1.out.trans (hb2.mono HB1.out.size))
      have VF := Lib.hid (fail_any hD2 0 (by omega))
      have hge : w.heap.size ≤ w1.heap.size := HB1.out.size
      clear hb2 hD2
      go_wp2_with fail
      refine (VF.out).mono ?_
      rintro e w3 ⟨rfl, st3, hD3⟩
      have hf0 : (DSt.new n z).fail 0 = ⟨z, List.replicate n (List.replicate z 0), [], 0, false⟩ := rfl
      rw [hf0] at hD3
      have VY := Lib.hid (sync_any hD3 (by simp))
      have hy0 : (⟨z, List.replicate n (List.replicate z 0), [], 0, false⟩ : DSt).sync.2 = ⟨z, List.replicate n (List.replicate z 0), [], -1, true⟩ := rfl
      rw [hy0] at VY
      have HB3 : Hid (Below w.heap.size w w3) := Lib.hid (HB2.out.trans (st3.below (fun k hk => by have := hk.1; omega) HB2.out.size))
      clear hD3 hf0 hy0 st3
      go_wp2_with fail
      refine (VY.out).mono ?_
      rintro e w4 ⟨rfl, st4, hD4⟩
      have HB4 : Hid (Below w.heap.size w w4) := Lib.hid (HB3.out.trans (st4.below (fun k hk => by
        have h2 := HB2.out.size
        rcases hk with hk | hk
        · have := hk.1; omega
        · have := hk.1; omega) HB3.out.size))
      have HV := Lib.hid (open_down hD4 first count rfl HR.out.1 HR.out.2.1 HR.out.2.2.1 (by simp; exact HR.out.2.2.2))
      clear st4 hD4
      go_wp2_with (first | (go_at_call 17; refine (VG.out _).mono ?_; rintro e w' ⟨rfl, rfl⟩) | (go_at_call 9; refine (HV.out).mono ?_; rintro e w' ⟨rfl, rfl⟩))
      go_ret
      exact ⟨rfl, HB4.out⟩
  · have hd : decide (64 ≤ z ∧ 0 ≤ first ∧ 4 ≤ count ∧ first + count ≤ (n : Int)) = false := decide_eq_false hR
    rw [hd] at VG
    have HR := Lib.hid hR
    clear hd hR
    cases off
    · go_enter Tryd.func5, Tryd.ntmps5
      go_wp2_with fail
      refine (HAW.out).mono ?_
      rintro e w1 ⟨rfl, hb1⟩
      have HB1 := Lib.hid hb1
      clear hb1
      go_wp2_with fail
      refine (VN.out w1).mono ?_
      rintro e w2 ⟨bd, rfl, hb2, hD2⟩
      have HB2 : Hid (Below w.heap.size w w2) := Lib.hid (HB1.out.trans (hb2.mono HB1.out.size))
      have HV := Lib.hid (open_bad hD2 first count hFC.out.1 hFC.out.2 (by
        rw [show (DSt.new n z).size = z from rfl, show (DSt.new n z).dur.length = n from by simp [DSt.new]]
        exact HR.out))
      clear hb2 hD2
      go_wp2_with (first | (go_at_call 17; refine (VG.out _).mono ?_; rintro e w' ⟨rfl, rfl⟩) | (go_at_call 9; refine (HV.out).mono ?_; rintro e w' ⟨rfl, rfl⟩))
      go_ret
      exact ⟨rfl, HB2.out⟩
    · go_enter Tryd.func5, Tryd.ntmps5
      go_wp2_with fail
      refine (HAW.out).mono ?_
      rintro e w1 ⟨rfl, hb1⟩
      have HB1 := Lib.hid hb1
      clear hb1
      go_wp2_with fail
      refine (VN.out w1).mono ?_
      rintro e w2 ⟨bd, rfl, hb2, hD2⟩
      have HB2 : Hid (Below w.heap.size w w2) := Lib.hid (HB1.out.trans (hb2.mono HB1.out.size))
      have VF := Lib.hid (fail_any hD2 0 (by omega))
      have hge : w.heap.size ≤ w1.heap.size := HB1.out.size
      clear hb2 hD2
      go_wp2_with fail
      refine (VF.out).mono ?_
      rintro e w3 ⟨rfl, st3, hD3⟩
      have hf0 : (DSt.new n z).fail 0 = ⟨z, List.replicate n (List.replicate z 0), [], 0, false⟩ := rfl
      rw [hf0] at hD3
      have VY := Lib.hid (sync_any hD3 (by simp))
      have hy0 : (⟨z, List.replicate n (List.replicate z 0), [], 0, false⟩ : DSt).sync.2 = ⟨z, List.replicate n (List.replicate z 0), [], -1, true⟩ := rfl
      rw [hy0] at VY
      have HB3 : Hid (Below w.heap.size w w3) := Lib.hid (HB2.out.trans (st3.below (fun k hk => by have := hk.1; omega) HB2.out.size))
      clear hD3 hf0 hy0 st3
      go_wp2_with fail
      refine (VY.out).mono ?_
      rintro e w4 ⟨rfl, st4, hD4⟩
      have HB4 : Hid (Below w.heap.size w w4) := Lib.hid (HB3.out.trans (st4.below (fun k hk => by
        have h2 := HB2.out.size
        rcases hk with hk | hk
        · have := hk.1; omega
        · have := hk.1; omega) HB3.out.size))
      have HV := Lib.hid (open_bad hD4 first count hFC.out.1 hFC.out.2 (by have h := HR.out; simp only [List.length_replicate]; exact h))
      clear st4 hD4
      go_wp2_with (first | (go_at_call 17; refine (VG.out _).mono ?_; rintro e w' ⟨rfl, rfl⟩) | (go_at_call 9; refine (HV.out).mono ?_; rintro e w' ⟨rfl, rfl⟩))
      go_ret
      exact ⟨rfl, HB4.out⟩
end
end Go.Proofs.YtcpcnfedbffecaaDoor
