/- Contract of the reference's Pad. -/
import Derived.Test.YtggiinfeiilogaaDoorRefB
import Derived.Test.YtggiinfeiilogaaDoorNewB
namespace Go.Proofs.YtggiinfeiilogaaDoor
open Go.RowKit
section
variable {w w' : World} {x : List UInt8} {F : Nat → Prop} {xv : Value}
def PadIs (w : World) (x : List UInt8) (e : Ending) (w' : World) : Prop := ∃ v, e = .returned v ∧ NewB w.heap.size w (x ++ Sha.pad x.length) v w'
set_option maxRecDepth 100000 in
set_option maxHeartbeats 2000000 in
theorem refpad_any (hx : BV w F xv x) (hlen : x.length ≤ 1000000000) : Calls Tryd.prog 60 #[xv] w (PadIs w x) := by
  obtain ⟨xa, xc, rfl, xc1, xc2, _⟩ := hx.get
  unfold maxLen at xc2
  have N0 := Lib.hid (NewB.empty w)
  have HX := Lib.hid (hx.alloc (.cells #[] 5)); clear hx
  go_enter Tryd.func60, Tryd.ntmps60
  go_wp2_with (first
    | (at_builtin; refine wpList_append_bytes rfl (.tmp 6) (.tmp 7) rfl (.slice (some ⟨w.heap.size, 0, none⟩) 0 0) _ x (by rfl) (by rfl) N0.out.2.1 HX.out (by simp only [List.length_nil]; omega) ?_; intro a2 c2 w2 hO2 hg2 ho2; have N2 := Lib.hid (N0.out.push hO2 hg2 ho2); simp only [List.length_nil, Nat.zero_add, List.nil_append] at N2 ⊢; clear hO2 hg2 ho2 N0 HX; have N3 := Lib.hid (N2.out.alloc (.cells #[.int .u8 128] 5)); have L3 := Lib.hid (BV.lits w2 #[.int .u8 128] [128] 1 rfl rfl (by omega)))
    | (at_builtin; refine wpList_append_bytes rfl (.tmp 8) (.tmp 9) rfl (.slice a2 x.length c2) _ [128] (by rfl) (by rfl) N3.out.2.1 L3.out (by simp only [List.length_cons, List.length_nil]; omega) ?_; intro a4 c4 w4 hO4 hg4 ho4; have N4 : Hid (NewB w.heap.size w (x ++ ([128] ++ List.replicate 0 0)) (.slice a4 (x.length + 1) c4) w4) := N3.out.push hO4 hg4 ho4; clear hO4 hg4 ho4 N2 N3 L3; simp only [List.length_cons, List.length_nil, Nat.zero_add]))
  go_loopw [3] (fun sv wr => ∃ j, j ≤ Sha.zeros x.length ∧ NewB w.heap.size w (x ++ ([128] ++ List.replicate j 0)) sv wr) (fun sv _ => x.length + 65 - sliceLen sv)
  case atStart => exact ⟨0, by omega, N4.out⟩
  case round =>
    obtain ⟨j, hj, hR⟩ := hrel
    clear N4
    have hz63 := zeros_le x.length
    obtain ⟨a, c, rfl, hac, _, _, _⟩ := hR.2.1.form
    obtain ⟨q, hq⟩ : ∃ q, (x ++ ([128] ++ List.replicate j (0 : UInt8))).length = q := ⟨_, rfl⟩
    have hq1 : q = x.length + j + 1 := by rw [← hq]; simp; omega
    rw [hq] at hR hac ⊢
    have HR := Lib.hid hR
    have Hq := Lib.hid hq
    have Hq1 := Lib.hid hq1
    have iq : (q : Int) ≤ 2000000000 := by omega
    clear hR hq
    by_cases ht : q % 64 = 56
    · have ht' : ((q : Int) % 64 != 56) = false := by simp; omega
      have hjz : j = Sha.zeros x.length := by unfold Sha.zeros at hj ⊢; omega
      have Hjz := Lib.hid hjz
      clear ht hjz hq1 hj
      go_wp2_with fail
      have PE0 : NewB w.heap.size w ((x ++ ([128] ++ List.replicate (Sha.zeros x.length) 0)) ++ (Sha.be8 (8 * x.length)).take 0) (.slice a q c) wr := by
        rw [← Hjz.out]; simpa using HR.out
      have PE := Lib.hid PE0
      clear HR Hq Hq1 Hjz ht' PE0
      go_loopw [3, 5] (fun sv s6 wy => ∃ i : Nat, i ≤ 8 ∧ s6 = .int .i64 (7 - (i : Int)) ∧ NewB w.heap.size w ((x ++ ([128] ++ List.replicate (Sha.zeros x.length) 0)) ++ (Sha.be8 (8 * x.length)).take i) sv wy) (fun _ s6 _ => (intOf s6 + 1).toNat)
      case atStart => exact ⟨0, by omega, rfl, PE.out⟩
      case round =>
        obtain ⟨i, hi, rfl, hR⟩ := hrel
        clear PE
        have h8 : i = 8 ∨ i = 0 ∨ i = 1 ∨ i = 2 ∨ i = 3 ∨ i = 4 ∨ i = 5 ∨ i = 6 ∨ i = 7 := by omega
        clear hi
        rcases h8 with rfl | rfl | rfl | rfl | rfl | rfl | rfl | rfl | rfl
        · have hpd : (x ++ ([128] ++ List.replicate (Sha.zeros x.length) 0)) ++ (Sha.be8 (8 * x.length)).take 8 = x ++ Sha.pad x.length := by
            rw [List.append_assoc]; rfl
          rw [hpd] at hR
          have HR := Lib.hid hR
          clear hR hpd
          go_wp2_with fail
          go_ret
          exact ⟨_, rfl, HR.out⟩
        · obtain ⟨d, hd⟩ : ∃ d, (x ++ ([128] ++ List.replicate (Sha.zeros x.length) 0)) ++ (Sha.be8 (8 * x.length)).take 0 = d := ⟨_, rfl⟩
          have hnx : (x ++ ([128] ++ List.replicate (Sha.zeros x.length) 0)) ++ (Sha.be8 (8 * x.length)).take 1 = d ++ [UInt8.ofNat (8 * x.length / 2 ^ (56 - 8 * 0))] := by
            rw [← hd, be8_take _ 0 (by omega)]; simp only [List.append_assoc]
          have hdl : d.length ≤ 2000000000 := by rw [← hd]; have := zeros_le x.length; simp only [List.length_append, List.length_take, List.length_replicate, List.length_cons, List.length_nil]; omega
          rw [hd] at hR
          obtain ⟨a, c, rfl, _, _, _, _⟩ := hR.2.1.form
          have HR := Lib.hid hR
          have Hnx := Lib.hid hnx
          have Hdl := Lib.hid hdl
          clear hR hnx hdl hd
          go_wp2_with (at_builtin; refine wpList_append_bytes rfl (.tmp 26) (.tmp 32) rfl (.slice a d.length c) _ [UInt8.ofNat (8 * x.length / 2 ^ (56 - 8 * 0))] (by rfl) (by rfl) (HR.out.alloc _).2.1 (BV.lits wr _ _ 1 rfl (by simp [By]; omega) (by omega)) (by have := Hdl.out; simp; omega) ?_; intro a5 c5 w5 hO5 hg5 ho5)
          have P3 := (HR.out.alloc _).push hO5 hg5 ho5
          rw [← Hnx.out] at P3
          exact ⟨⟨1, by omega, by rfl, by simpa using P3⟩, by simp [intOf]⟩
        · obtain ⟨d, hd⟩ : ∃ d, (x ++ ([128] ++ List.replicate (Sha.zeros x.length) 0)) ++ (Sha.be8 (8 * x.length)).take 1 = d := ⟨_, rfl⟩
          have hnx : (x ++ ([128] ++ List.replicate (Sha.zeros x.length) 0)) ++ (Sha.be8 (8 * x.length)).take 2 = d ++ [UInt8.ofNat (8 * x.length / 2 ^ (56 - 8 * 1))] := by
            rw [← hd, be8_take _ 1 (by omega)]; simp only [List.append_assoc]
          have hdl : d.length ≤ 2000000000 := by rw [← hd]; have := zeros_le x.length; simp only [List.length_append, List.length_take, List.length_replicate, List.length_cons, List.length_nil]; omega
          rw [hd] at hR
          obtain ⟨a, c, rfl, _, _, _, _⟩ := hR.2.1.form
          have HR := Lib.hid hR
          have Hnx := Lib.hid hnx
          have Hdl := Lib.hid hdl
          clear hR hnx hdl hd
          go_wp2_with (at_builtin; refine wpList_append_bytes rfl (.tmp 26) (.tmp 32) rfl (.slice a d.length c) _ [UInt8.ofNat (8 * x.length / 2 ^ (56 - 8 * 1))] (by rfl) (by rfl) (HR.out.alloc _).2.1 (BV.lits wr _ _ 1 rfl (by simp [By]; omega) (by omega)) (by have := Hdl.out; simp; omega) ?_; intro a5 c5 w5 hO5 hg5 ho5)
          have P3 := (HR.out.alloc _).push hO5 hg5 ho5
          rw [← Hnx.out] at P3
          exact ⟨⟨2, by omega, by rfl, by simpa using P3⟩, by simp [intOf]⟩
        · obtain ⟨d, hd⟩ : ∃ d, (x ++ ([128] ++ List.replicate (Sha.zeros x.length) 0)) ++ (Sha.be8 (8 * x.length)).take 2 = d := ⟨_, rfl⟩
          have hnx : (x ++ ([128] ++ List.replicate (Sha.zeros x.length) 0)) ++ (Sha.be8 (8 * x.length)).take 3 = d ++ [UInt8.ofNat (8 * x.length / 2 ^ (56 - 8 * 2))] := by
            rw [← hd, be8_take _ 2 (by omega)]; simp only [List.append_assoc]
          have hdl : d.length ≤ 2000000000 := by rw [← hd]; have := zeros_le x.length; simp only [List.length_append, List.length_take, List.length_replicate, List.length_cons, List.length_nil]; omega
          rw [hd] at hR
          obtain ⟨a, c, rfl, _, _, _, _⟩ := hR.2.1.form
          have HR := Lib.hid hR
          have Hnx := Lib.hid hnx
          have Hdl := Lib.hid hdl
          clear hR hnx hdl hd
          go_wp2_with (at_builtin; refine wpList_append_bytes rfl (.tmp 26) (.tmp 32) rfl (.slice a d.length c) _ [UInt8.ofNat (8 * x.length / 2 ^ (56 - 8 * 2))] (by rfl) (by rfl) (HR.out.alloc _).2.1 (BV.lits wr _ _ 1 rfl (by simp [By]; omega) (by omega)) (by have := Hdl.out; simp; omega) ?_; intro a5 c5 w5 hO5 hg5 ho5)
          have P3 := (HR.out.alloc _).push hO5 hg5 ho5
          rw [← Hnx.out] at P3
          exact ⟨⟨3, by omega, by rfl, by simpa using P3⟩, by simp [intOf]⟩
        · obtain ⟨d, hd⟩ : ∃ d, (x ++ ([128] ++ List.replicate (Sha.zeros x.length) 0)) ++ (Sha.be8 (8 * x.length)).take 3 = d := ⟨_, rfl⟩
          have hnx : (x ++ ([128] ++ List.replicate (Sha.zeros x.length) 0)) ++ (Sha.be8 (8 * x.length)).take 4 = d ++ [UInt8.ofNat (8 * x.length / 2 ^ (56 - 8 * 3))] := by
            rw [← hd, be8_take _ 3 (by omega)]; simp only [List.append_assoc]
          have hdl : d.length ≤ 2000000000 := by rw [← hd]; have := zeros_le x.length; simp only [List.length_append, List.length_take, List.length_replicate, List.length_cons, List.length_nil]; omega
          rw [hd] at hR
          obtain ⟨a, c, rfl, _, _, _, _⟩ := hR.2.1.form
          have HR := Lib.hid hR
          have Hnx := Lib.hid hnx
          have Hdl := Lib.hid hdl
          clear hR hnx hdl hd
          go_wp2_with (at_builtin; refine wpList_append_bytes rfl (.tmp 26) (.tmp 32) rfl (.slice a d.length c) _ [UInt8.ofNat (8 * x.length / 2 ^ (56 - 8 * 3))] (by rfl) (by rfl) (HR.out.alloc _).2.1 (BV.lits wr _ _ 1 rfl (by simp [By]; omega) (by omega)) (by have := Hdl.out; simp; omega) ?_; intro a5 c5 w5 hO5 hg5 ho5)
          have P3 := (HR.out.alloc _).push hO5 hg5 ho5
          rw [← Hnx.out] at P3
          exact ⟨⟨4, by omega, by rfl, by simpa using P3⟩, by simp [intOf]⟩
        · obtain ⟨d, hd⟩ : ∃ d, (x ++ ([128] ++ List.replicate (Sha.zeros x.length) 0)) ++ (Sha.be8 (8 * x.length)).take 4 = d := ⟨_, rfl⟩
          have hnx : (x ++ ([128] ++ List.replicate (Sha.zeros x.length) 0)) ++ (Sha.be8 (8 * x.length)).take 5 = d ++ [UInt8.ofNat (8 * x.length / 2 ^ (56 - 8 * 4))] := by
            rw [← hd, be8_take _ 4 (by omega)]; simp only [List.append_assoc]
          have hdl : d.length ≤ 2000000000 := by rw [← hd]; have := zeros_le x.length; simp only [List.length_append, List.length_take, List.length_replicate, List.length_cons, List.length_nil]; omega
          rw [hd] at hR
          obtain ⟨a, c, rfl, _, _, _, _⟩ := hR.2.1.form
          have HR := Lib.hid hR
          have Hnx := Lib.hid hnx
          have Hdl := Lib.hid hdl
          clear hR hnx hdl hd
          go_wp2_with (at_builtin; refine wpList_append_bytes rfl (.tmp 26) (.tmp 32) rfl (.slice a d.length c) _ [UInt8.ofNat (8 * x.length / 2 ^ (56 - 8 * 4))] (by rfl) (by rfl) (HR.out.alloc _).2.1 (BV.lits wr _ _ 1 rfl (by simp [By]; omega) (by omega)) (by have := Hdl.out; simp; omega) ?_; intro a5 c5 w5 hO5 hg5 ho5)
          have P3 := (HR.out.alloc _).push hO5 hg5 ho5
          rw [← Hnx.out] at P3
          exact ⟨⟨5, by omega, by rfl, by simpa using P3⟩, by simp [intOf]⟩
        · obtain ⟨d, hd⟩ : ∃ d, (x ++ ([128] ++ List.replicate (Sha.zeros x.length) 0)) ++ (Sha.be8 (8 * x.length)).take 5 = d := ⟨_, rfl⟩
          have hnx : (x ++ ([128] ++ List.replicate (Sha.zeros x.length) 0)) ++ (Sha.be8 (8 * x.length)).take 6 = d ++ [UInt8.ofNat (8 * x.length / 2 ^ (56 - 8 * 5))] := by
            rw [← hd, be8_take _ 5 (by omega)]; simp only [List.append_assoc]
          have hdl : d.length ≤ 2000000000 := by rw [← hd]; have := zeros_le x.length; simp only [List.length_append, List.length_take, List.length_replicate, List.length_cons, List.length_nil]; omega
          rw [hd] at hR
          obtain ⟨a, c, rfl, _, _, _, _⟩ := hR.2.1.form
          have HR := Lib.hid hR
          have Hnx := Lib.hid hnx
          have Hdl := Lib.hid hdl
          clear hR hnx hdl hd
          go_wp2_with (at_builtin; refine wpList_append_bytes rfl (.tmp 26) (.tmp 32) rfl (.slice a d.length c) _ [UInt8.ofNat (8 * x.length / 2 ^ (56 - 8 * 5))] (by rfl) (by rfl) (HR.out.alloc _).2.1 (BV.lits wr _ _ 1 rfl (by simp [By]; omega) (by omega)) (by have := Hdl.out; simp; omega) ?_; intro a5 c5 w5 hO5 hg5 ho5)
          have P3 := (HR.out.alloc _).push hO5 hg5 ho5
          rw [← Hnx.out] at P3
          exact ⟨⟨6, by omega, by rfl, by simpa using P3⟩, by simp [intOf]⟩
        · obtain ⟨d, hd⟩ : ∃ d, (x ++ ([128] ++ List.replicate (Sha.zeros x.length) 0)) ++ (Sha.be8 (8 * x.length)).take 6 = d := ⟨_, rfl⟩
          have hnx : (x ++ ([128] ++ List.replicate (Sha.zeros x.length) 0)) ++ (Sha.be8 (8 * x.length)).take 7 = d ++ [UInt8.ofNat (8 * x.length / 2 ^ (56 - 8 * 6))] := by
            rw [← hd, be8_take _ 6 (by omega)]; simp only [List.append_assoc]
          have hdl : d.length ≤ 2000000000 := by rw [← hd]; have := zeros_le x.length; simp only [List.length_append, List.length_take, List.length_replicate, List.length_cons, List.length_nil]; omega
          rw [hd] at hR
          obtain ⟨a, c, rfl, _, _, _, _⟩ := hR.2.1.form
          have HR := Lib.hid hR
          have Hnx := Lib.hid hnx
          have Hdl := Lib.hid hdl
          clear hR hnx hdl hd
          go_wp2_with (at_builtin; refine wpList_append_bytes rfl (.tmp 26) (.tmp 32) rfl (.slice a d.length c) _ [UInt8.ofNat (8 * x.length / 2 ^ (56 - 8 * 6))] (by rfl) (by rfl) (HR.out.alloc _).2.1 (BV.lits wr _ _ 1 rfl (by simp [By]; omega) (by omega)) (by have := Hdl.out; simp; omega) ?_; intro a5 c5 w5 hO5 hg5 ho5)
          have P3 := (HR.out.alloc _).push hO5 hg5 ho5
          rw [← Hnx.out] at P3
          exact ⟨⟨7, by omega, by rfl, by simpa using P3⟩, by simp [intOf]⟩
        · obtain ⟨d, hd⟩ : ∃ d, (x ++ ([128] ++ List.replicate (Sha.zeros x.length) 0)) ++ (Sha.be8 (8 * x.length)).take 7 = d := ⟨_, rfl⟩
          have hnx : (x ++ ([128] ++ List.replicate (Sha.zeros x.length) 0)) ++ (Sha.be8 (8 * x.length)).take 8 = d ++ [UInt8.ofNat (8 * x.length / 2 ^ (56 - 8 * 7))] := by
            rw [← hd, be8_take _ 7 (by omega)]; simp only [List.append_assoc]
          have hdl : d.length ≤ 2000000000 := by rw [← hd]; have := zeros_le x.length; simp only [List.length_append, List.length_take, List.length_replicate, List.length_cons, List.length_nil]; omega
          rw [hd] at hR
          obtain ⟨a, c, rfl, _, _, _, _⟩ := hR.2.1.form
          have HR := Lib.hid hR
          have Hnx := Lib.hid hnx
          have Hdl := Lib.hid hdl
          clear hR hnx hdl hd
          go_wp2_with (at_builtin; refine wpList_append_bytes rfl (.tmp 26) (.tmp 32) rfl (.slice a d.length c) _ [UInt8.ofNat (8 * x.length / 2 ^ (56 - 8 * 7))] (by rfl) (by rfl) (HR.out.alloc _).2.1 (BV.lits wr _ _ 1 rfl (by simp [By]; omega) (by omega)) (by have := Hdl.out; simp; omega) ?_; intro a5 c5 w5 hO5 hg5 ho5)
          have P3 := (HR.out.alloc _).push hO5 hg5 ho5
          rw [← Hnx.out] at P3
          exact ⟨⟨8, by omega, by rfl, by simpa using P3⟩, by simp [intOf]⟩
    · have ht' : ((q : Int) % 64 != 56) = true := by simp; omega
      have hjz : j + 1 ≤ Sha.zeros x.length := by
        by_cases h : j = Sha.zeros x.length
        · exact absurd (show q % 64 = 56 by unfold Sha.zeros at h; omega) ht
        · omega
      have Hjz := Lib.hid hjz
      clear ht hjz hq1 hj
      have P2 := HR.out.alloc (.cells #[.int .u8 0] 5)
      have HP2 := Lib.hid P2
      have hbv := BV.lits wr #[.int .u8 0] [0] 1 rfl rfl (by omega)
      clear P2
      go_wp2_with (at_builtin; refine wpList_append_bytes rfl (.tmp 15) (.tmp 16) rfl (.slice a q c) _ [0] (by rfl) (by rfl) HP2.out.2.1 hbv (by have := Hq1.out; have := Hjz.out; have := Hq.out; simp; omega) ?_; intro a5 c5 w5 hO5 hg5 ho5)
      have P3 := HP2.out.push hO5 hg5 ho5
      rw [List.append_assoc, List.append_assoc, ← List.replicate_succ'] at P3
      refine ⟨⟨j + 1, Hjz.out, by simpa using P3⟩, ?_⟩
      have := Hq1.out
      have := Hjz.out
      simp only [sliceLen]
      omega
end
end Go.Proofs.YtggiinfeiilogaaDoor
