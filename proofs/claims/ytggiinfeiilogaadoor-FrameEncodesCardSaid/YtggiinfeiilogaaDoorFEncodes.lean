/- The walk of FrameEncodes. -/
import Derived.Test.YtggiinfeiilogaaDoorFrO
import Derived.Test.YtggiinfeiilogaaDoorFrZ
import Derived.Test.YtggiinfeiilogaaDoorFrT
import Derived.Deep.RegionHeld3
namespace Go.Proofs.YtggiinfeiilogaaDoor
open Go.RowKit
set_option linter.unusedSimpArgs false
section
variable {w1 w' w'' : World} {F : Nat → Prop} {g : Nat} {k : Int} {xv bv : Value} {body y : List UInt8} {X : ByteArray}
abbrev EnS (w1 : World) (g : Nat) (k : Int) (xv bv : Value) (X : ByteArray) (w' : World) : Prop :=
  Below w1.heap.size w1 w' ∧ (convert 30 9 bv).run Tryd.prog w' = .ok (.string X) w' ∧ w'.cell? ⟨g, 0, none⟩ = some (.int .i64 k) ∧ w'.cell? ⟨g, 1, none⟩ = some xv
theorem EnS.keep (hb : BV w1 F bv y) (hX : (⟨y.toArray⟩ : ByteArray) = X) (c0 : w1.cell? ⟨g, 0, none⟩ = some (.int .i64 k)) (c1 : w1.cell? ⟨g, 1, none⟩ = some xv) (h : Below w1.heap.size w1 w') (h2 : Below w'.heap.size w' w'') : EnS w1 g k xv bv X w'' := by
  have h3 := h.trans (h2.mono h.size)
  exact ⟨h3, hX ▸ (hb.grow h3).convS, (h3.cell (p := ⟨g, 0, none⟩) (block_lt_of_cell c0)).trans c0, (h3.cell (p := ⟨g, 1, none⟩) (block_lt_of_cell c1)).trans c1⟩
theorem EnS.enc (hx : BV w1 F xv body) (hF : ∀ k, F k → k < w1.heap.size) (k0 : 0 ≤ k) (k1 : k ≤ 255) (hl : body.length ≤ 65536) (hX : (⟨(Fr.encM (k, body)).toArray⟩ : ByteArray) = X) (h : EnS w1 g k xv bv X w') :
    Calls Tryd.prog 29 #[.agg #[.int .i64 k, xv]] w' fun e w'' => ∃ a n c, e = .returned (.slice a n c) ∧ Below w'.heap.size w' w'' ∧ (convert 30 9 (.slice a n c)).run Tryd.prog w'' = .ok (.string X) w'' :=
  (refenc_any (hx.grow h.1) (fun k hk => Nat.lt_of_lt_of_le (hF k hk) h.1.size) k0 k1 hl).mono fun _ _ ⟨sv, he, hN⟩ => by
    have h1 := hN.1
    have h2 := hN.2.1.bv.convS
    obtain ⟨a, c, rfl, _⟩ := hN.2.1.form
    exact ⟨a, _, c, he, h1, hX ▸ h2⟩
end
set_option maxRecDepth 100000 in
set_option maxHeartbeats 1000000 in
theorem frameEncodes_walk (w : World) (hg : Glob w) (k : Int) (xv : Value) (body : List UInt8) (hx : BV w (fun k => k < w.heap.size) xv body) :
    Calls Tryd.prog 4 #[.agg #[.int .i64 k, xv]] w fun e w' => e = .returned (.bool true) ∧ Below w.heap.size w w' := by
  obtain ⟨xa, xc, rfl, x1, x2, _⟩ := hx.get
  unfold maxLen at x2
  obtain ⟨w1, hw1⟩ : ∃ w1, w.alloc (.cells #[.int .i64 k, .slice xa body.length xc] 32) = w1 := ⟨_, rfl⟩
  have P1 : Hid (Blk w1 w.heap.size [.int .i64 k, .slice xa body.length xc] 32) := Lib.hid (by rw [← hw1]; exact Blk.new w _ _)
  have B1 : Hid (Below w.heap.size w w1) := Lib.hid (by rw [← hw1]; exact (Below.refl _ _).alloc (Nat.le_refl _) _)
  have HG := Lib.hid hg
  have HX := Lib.hid hx
  clear hg hx
  go_enter Tryd.func4, Tryd.ntmps4
  go_wp2_with fail
  clear hw1
  refine (awake37_any w1 (HG.out.below B1.out HG.out.lt)).mono ?_
  rintro e w2 ⟨rfl, hb2⟩
  have B2 := Lib.hid (B1.out.trans (hb2.mono B1.out.size))
  have P2 := Lib.hid (P1.out.of_same (hb2.block _ P1.out.lt))
  have p1 := P2.out.cell (i := 1) rfl
  have p0 := P2.out.cell (i := 0) rfl
  clear hb2 P1
  by_cases h3 : 300 < body.length ∧ (body.length ≤ 65536 ∨ 131072 < body.length)
  · obtain ⟨h3, h4⟩ := h3
    have i3 : (300 : Int) < (body.length : Int) := by omega
    rcases h4 with h4 | h4
    · have i4 : (body.length : Int) ≤ 65536 := by omega
      go_wp2_with fail
      go_ret
      exact ⟨rfl, B2.out⟩
    · have i4 : ¬ (body.length : Int) ≤ 65536 := by omega
      have i5 : (131072 : Int) < (body.length : Int) := by omega
      go_wp2_with fail
      go_ret
      exact ⟨rfl, B2.out⟩
  have h4 : body.length ≤ 300 ∨ (65536 < body.length ∧ body.length ≤ 131072) := by omega
  clear h3
  have V2 := Lib.hid (HX.out.same (w' := w2) (fun k hk => B2.out.block k hk))
  rcases h4 with h4 | ⟨h4, h5⟩
  case' inl =>
    have i3 : ¬ (300 : Int) < (body.length : Int) := by omega
    have i4 : ¬ (131072 : Int) < (body.length : Int) := by omega
  case' inr =>
    have i3 : (300 : Int) < (body.length : Int) := by omega
    have i5 : ¬ (body.length : Int) ≤ 65536 := by omega
    have i4 : ¬ (131072 : Int) < (body.length : Int) := by omega
  all_goals
    go_wp2_with fail
    refine (fenc_any V2.out (fun k hk => Nat.lt_of_lt_of_le hk B2.out.size) (HG.out.below B2.out HG.out.lt)).mono ?_
    rintro e w3 ⟨sv, rfl, hN3⟩
    have B3 := Lib.hid (B2.out.trans (hN3.1.mono B2.out.size))
    have P3 := Lib.hid (P2.out.of_same (hN3.1.block _ P2.out.lt))
    have V3 := Lib.hid (V2.out.grow hN3.1)
    have N3 := Lib.hid hN3
    have q1 := P3.out.cell (i := 1) rfl
    have q0 := P3.out.cell (i := 0) rfl
    obtain ⟨sa, sc, hsv, _⟩ := hN3.2.1.form
    have HSV := Lib.hid hsv
    clear hN3 p0 p1 hsv
    go_wp2_with fail
    refine (refcheck_any k V3.out).mono ?_
    rintro e w4 ⟨rfl, hb4⟩
    have B4 := Lib.hid (B3.out.trans (hb4.mono B3.out.size))
    have P4 := Lib.hid (P3.out.of_same (hb4.block _ P3.out.lt))
    have V4 := Lib.hid (V3.out.grow hb4)
    have X4 := Lib.hid (N3.out.2.1.bv.mono (G := fun k => k < w3.heap.size) (fun k hk => N3.out.2.1.lt k hk) |>.grow hb4)
    clear hb4 q0 q1
    by_cases he : encErr k body = 0
    · rw [he, if_pos rfl] at X4
      rw [he, if_pos rfl] at HSV
      obtain ⟨k0, k1, hl⟩ : Fr.ok (k, body) := encErr_ok.1 he
      rw [he]
      have hsv := HSV.out
      have hX : (⟨(Fr.encM (k, body)).toArray⟩ : ByteArray) = ⟨(Fr.encM (k, body)).toArray⟩ := rfl
      obtain ⟨X, hX⟩ : ∃ X, (⟨(Fr.encM (k, body)).toArray⟩ : ByteArray) = X := ⟨_, rfl⟩
      have hel := Fr.encM_length (k, body)
      obtain ⟨Y, hY⟩ : ∃ Y, Fr.encM (k, body) = Y := ⟨_, rfl⟩
      rw [hY] at X4 hsv hel
      have HY := Lib.hid hY
      have HXX := Lib.hid hX
      have HE := Lib.hid hel
      subst hsv
      have HL := Lib.hid hl
      clear hX hel he hY hl HSV
      have r1 := P4.out.cell (i := 1) rfl
      have r0 := P4.out.cell (i := 0) rfl
      have HR0 := Lib.hid r0
      have HR1 := Lib.hid r1
      go_wp2_with fail
      refine (fCost_any w4 (body.length : Int)).mono ?_
      rintro e w5 ⟨rfl, rfl⟩
      rw [if_neg (by omega), if_neg (by have : body.length ≤ 65536 := HL.out; omega), show ((body.length : Int)).toNat = body.length from rfl, ← show Y.length = Fr.cost body.length from HE.out]
      have hXY : (⟨Y.toArray⟩ : ByteArray) = X := by rw [← HY.out]; exact HXX.out
      have HXY := Lib.hid hXY
      clear hXY
      clear i3 i4
      go_wp2_with fail
      have HC : Hid (Calls Tryd.prog 29 #[.agg #[.int .i64 k, .slice xa body.length xc]] w4.drew fun e w' => ∃ ra rn rc, e = .returned (.slice ra rn rc) ∧ Below w.heap.size w w' ∧ EnS w4 w.heap.size k (.slice xa body.length xc) (.slice sa Y.length sc) X w' ∧ (convert 30 9 (.slice ra rn rc)).run Tryd.prog w' = .ok (.string X) w') :=
        Lib.hid ((EnS.enc (g := w.heap.size) (bv := .slice sa Y.length sc) V4.out (fun k hk => Nat.lt_of_lt_of_le hk B4.out.size) k0 k1 HL.out HXX.out (EnS.keep X4.out HXY.out HR0.out HR1.out (Below.refl _ _) (Below.refl _ _).drew)).mono (fun e w' ⟨ra, rn, rc, he, hb, hcv⟩ => ⟨ra, rn, rc, he, B4.out.trans ((show Below w4.heap.size w4 w' from ⟨hb.1, hb.2, hb.3, hb.4, hb.5⟩).mono B4.out.size), EnS.keep X4.out HXY.out HR0.out HR1.out (Below.refl w4.heap.size w4).drew hb, hcv⟩))
      clear x1 x2 h4 k0 k1
      have HS0 := Lib.hid (EnS.keep X4.out HXY.out r0 r1 (Below.refl w4.heap.size w4) (Below.refl _ _).drew)
      refine wp_region_held_drew (S := (fun w' => Below w4.heap.size w4 w' ∧ (convert 30 9 (.slice sa Y.length sc)).run Tryd.prog w' = .ok (.string X) w' ∧ w'.cell? ⟨w.heap.size, 0, none⟩ = some (.int .i64 k) ∧ w'.cell? ⟨w.heap.size, 1, none⟩ = some (.slice xa body.length xc))) (by kernel_rfl) HS0.out (fun hS => ?_)
      refine wpAnyH_take (i := 0) (oi := ⟨some 50, _, _, _, _, _⟩) (v := .int .i64 0) rfl (by kernel_rfl) (by kernel_rfl) (by kernel_rfl) (fun _ _ _ h => h) (Or.inl ⟨by rfl, fun w hSw => by obtain ⟨_, s1, s2, s3⟩ := hSw; go_simp⟩) hS ?_
      try simp only [Act.put, List.setIfInBounds_toArray, List.set_cons_zero, List.set_cons_succ]
      refine wpAnyH_take (i := 1) (oi := ⟨some 51, _, _, _, _, _⟩) (v := .bool true) rfl (by kernel_rfl) (by kernel_rfl) (by kernel_rfl) (fun _ _ _ h => h) (Or.inl ⟨by rfl, fun w hSw => by obtain ⟨_, s1, s2, s3⟩ := hSw; go_simp⟩) hS ?_
      try simp only [Act.put, List.setIfInBounds_toArray, List.set_cons_zero, List.set_cons_succ]
      refine wpAnyH_take (i := 2) (oi := ⟨some 52, _, _, _, _, _⟩) (v := .bool true) rfl (by kernel_rfl) (by kernel_rfl) (by kernel_rfl) (fun _ _ _ h => h) (Or.inl ⟨by rfl, fun w hSw => by obtain ⟨_, s1, s2, s3⟩ := hSw; go_simp⟩) hS ?_
      try simp only [Act.put, List.setIfInBounds_toArray, List.set_cons_zero, List.set_cons_succ]
      refine wpAnyH_take (i := 3) (oi := ⟨some 53, _, _, _, _, _⟩) (v := .slice sa Y.length sc) rfl (by kernel_rfl) (by kernel_rfl) (by kernel_rfl) (fun _ _ _ h => h) (Or.inl ⟨by rfl, fun w hSw => by obtain ⟨_, s1, s2, s3⟩ := hSw; go_simp⟩) hS ?_
      try simp only [Act.put, List.setIfInBounds_toArray, List.set_cons_zero, List.set_cons_succ]
      refine wpAnyH_take (i := 4) (oi := ⟨some 54, _, _, _, _, _⟩) (v := .string X) rfl (by kernel_rfl) (by kernel_rfl) (by kernel_rfl) (fun _ _ _ h => h) (Or.inl ⟨by rfl, fun w hSw => by obtain ⟨_, s1, s2, s3⟩ := hSw; go_simp⟩) hS ?_
      try simp only [Act.put, List.setIfInBounds_toArray, List.set_cons_zero, List.set_cons_succ]
      refine wpAnyH_take (i := 5) (oi := ⟨some 55, _, _, _, _, _⟩) (v := .agg #[.int .i64 k, .slice xa body.length xc]) rfl (by kernel_rfl) (by kernel_rfl) (by kernel_rfl) (fun _ _ _ h => h) (Or.inl ⟨by rfl, fun w hSw => by obtain ⟨_, s1, s2, s3⟩ := hSw; go_simp⟩) hS ?_
      try simp only [Act.put, List.setIfInBounds_toArray, List.set_cons_zero, List.set_cons_succ]
      refine wpAnyH_ready (rs := [6]) (by kernel_rfl) (by simp) ?_
      refine AllReadyH.cons (o := ⟨some 56, _, _, _, _, _⟩) rfl (fun K hK => ?_) AllReadyH.nil
      go_simp
      refine HC.out.mono ?_
      rintro e w' ⟨ra, rn, rc, rfl, hbz, hS5, hcv⟩
      refine hK.out _ _ hS5 (fun _ => ?_)
      clear hK K
      try simp only [Act.put, List.setIfInBounds_toArray, List.set_cons_zero, List.set_cons_succ]
      refine wpAnyH_ready (rs := [7]) (by kernel_rfl) (by simp) ?_
      refine AllReadyH.cons (o := ⟨some 57, _, _, _, _, _⟩) rfl (fun K hK => ?_) AllReadyH.nil
      go_simp
      refine hK.out _ _ hS5 (fun _ => ?_)
      clear hK K
      try simp only [Act.put, List.setIfInBounds_toArray, List.set_cons_zero, List.set_cons_succ]
      refine wpAnyH_take (i := 8) (oi := ⟨some 58, _, _, _, _, _⟩) (v := .bool true) rfl (by kernel_rfl) (by kernel_rfl) (by kernel_rfl) (fun _ _ _ h => h) (Or.inl ⟨by rfl, fun w hSw => by obtain ⟨_, s1, s2, s3⟩ := hSw; go_simp⟩) hS5 ?_
      try simp only [Act.put, List.setIfInBounds_toArray, List.set_cons_zero, List.set_cons_succ]
      refine wpAnyH_take (i := 9) (oi := ⟨some 59, _, _, _, _, _⟩) (v := .bool true) rfl (by kernel_rfl) (by kernel_rfl) (by kernel_rfl) (fun _ _ _ h => h) (Or.inl ⟨by rfl, fun w hSw => by obtain ⟨_, s1, s2, s3⟩ := hSw; go_simp⟩) hS5 ?_
      try simp only [Act.put, List.setIfInBounds_toArray, List.set_cons_zero, List.set_cons_succ]
      refine wpAnyH_take (i := 10) (oi := ⟨some 60, _, _, _, _, _⟩) (v := .bool true) rfl (by kernel_rfl) (by kernel_rfl) (by kernel_rfl) (fun _ _ _ h => h) (Or.inl ⟨by rfl, fun w hSw => by obtain ⟨_, s1, s2, s3⟩ := hSw; go_simp⟩) hS5 ?_
      try simp only [Act.put, List.setIfInBounds_toArray, List.set_cons_zero, List.set_cons_succ]
      refine wpAnyH_take (i := 11) (oi := ⟨some 61, _, _, _, _, _⟩) (v := .int .i64 0) rfl (by kernel_rfl) (by kernel_rfl) (by kernel_rfl) (fun _ _ _ h => h) (Or.inl ⟨by rfl, fun w hSw => by obtain ⟨_, s1, s2, s3⟩ := hSw; go_simp⟩) hS5 ?_
      try simp only [Act.put, List.setIfInBounds_toArray, List.set_cons_zero, List.set_cons_succ]
      refine wpAnyH_take (i := 12) (oi := ⟨some 62, _, _, _, _, _⟩) (v := .bool true) rfl (by kernel_rfl) (by kernel_rfl) (by kernel_rfl) (fun _ _ _ h => h) (Or.inl ⟨by rfl, fun w hSw => by obtain ⟨_, s1, s2, s3⟩ := hSw; go_simp⟩) hS5 ?_
      try simp only [Act.put, List.setIfInBounds_toArray, List.set_cons_zero, List.set_cons_succ]
      refine wpAnyH_take (i := 13) (oi := ⟨some 63, _, _, _, _, _⟩) (v := .bool true) rfl (by kernel_rfl) (by kernel_rfl) (by kernel_rfl) (fun _ _ _ h => h) (Or.inl ⟨by rfl, fun w hSw => by obtain ⟨_, s1, s2, s3⟩ := hSw; go_simp⟩) hS5 ?_
      try simp only [Act.put, List.setIfInBounds_toArray, List.set_cons_zero, List.set_cons_succ]
      refine wpAnyH_take (i := 14) (oi := ⟨some 64, _, _, _, _, _⟩) (v := .bool true) rfl (by kernel_rfl) (by kernel_rfl) (by kernel_rfl) (fun _ _ _ h => h) (Or.inl ⟨by rfl, fun w hSw => by obtain ⟨_, s1, s2, s3⟩ := hSw; go_simp⟩) hS5 ?_
      try simp only [Act.put, List.setIfInBounds_toArray, List.set_cons_zero, List.set_cons_succ]
      refine wpAnyH_take (i := 15) (oi := ⟨some 65, _, _, _, _, _⟩) (v := .int .i64 (Y.length : Int)) rfl (by kernel_rfl) (by kernel_rfl) (by kernel_rfl) (fun _ _ _ h => h) (Or.inl ⟨by rfl, fun w hSw => by obtain ⟨_, s1, s2, s3⟩ := hSw; go_simp⟩) hS5 ?_
      try simp only [Act.put, List.setIfInBounds_toArray, List.set_cons_zero, List.set_cons_succ]
      refine wpAnyH_take (i := 16) (oi := ⟨some 66, _, _, _, _, _⟩) (v := .slice sa Y.length sc) rfl (by kernel_rfl) (by kernel_rfl) (by kernel_rfl) (fun _ _ _ h => h) (Or.inl ⟨by rfl, fun w hSw => by obtain ⟨_, s1, s2, s3⟩ := hSw; go_simp⟩) hS5 ?_
      try simp only [Act.put, List.setIfInBounds_toArray, List.set_cons_zero, List.set_cons_succ]
      refine wpAnyH_take (i := 17) (oi := ⟨some 67, _, _, _, _, _⟩) (v := .int .i64 (Y.length : Int)) rfl (by kernel_rfl) (by kernel_rfl) (by kernel_rfl) (fun _ _ _ h => h) (Or.inl ⟨by rfl, fun w hSw => by obtain ⟨_, s1, s2, s3⟩ := hSw; go_simp⟩) hS5 ?_
      try simp only [Act.put, List.setIfInBounds_toArray, List.set_cons_zero, List.set_cons_succ]
      refine wpAnyH_take (i := 18) (oi := ⟨some 68, _, _, _, _, _⟩) (v := .bool true) rfl (by kernel_rfl) (by kernel_rfl) (by kernel_rfl) (fun _ _ _ h => h) (Or.inl ⟨by rfl, fun w hSw => by obtain ⟨_, s1, s2, s3⟩ := hSw; go_simp⟩) hS5 ?_
      try simp only [Act.put, List.setIfInBounds_toArray, List.set_cons_zero, List.set_cons_succ]
      refine wpAnyH_take (i := 19) (oi := ⟨some 69, _, _, _, _, _⟩) (v := .bool true) rfl (by kernel_rfl) (by kernel_rfl) (by kernel_rfl) (fun _ _ _ h => h) (Or.inl ⟨by rfl, fun w hSw => by obtain ⟨_, s1, s2, s3⟩ := hSw; go_simp⟩) hS5 ?_
      try simp only [Act.put, List.setIfInBounds_toArray, List.set_cons_zero, List.set_cons_succ]
      refine wpAnyH_take (i := 20) (oi := ⟨some 2, _, _, _, _, _⟩) (v := .bool true) rfl (by kernel_rfl) (by kernel_rfl) (by kernel_rfl) (fun _ _ _ h => h) (Or.inl ⟨by rfl, fun w hSw => by obtain ⟨_, s1, s2, s3⟩ := hSw; go_simp⟩) hS5 ?_
      try simp only [Act.put, List.setIfInBounds_toArray, List.set_cons_zero, List.set_cons_succ]
      refine wpAnyH_done (by kernel_rfl) ?_ _
      go_wp2_with fail
      go_ret
      exact ⟨rfl, hbz⟩
    · have hne : ((encErr k body) != 0) = true := by simpa using he
      rw [if_neg he] at HSV
      have hsv := HSV.out
      obtain ⟨er, her⟩ : ∃ er, encErr k body = er := ⟨_, rfl⟩
      rw [her] at hne ⊢
      subst hsv
      clear her he HSV
      go_wp2_with fail
      go_ret
      exact ⟨rfl, B4.out⟩
end Go.Proofs.YtggiinfeiilogaaDoor
