/- The walk of Sha256Clones. -/
import Derived.Test.YtiakmpnmooobbaaDoorShaC
import Derived.Test.YtiakmpnmooobbaaDoorOpenS
import Derived.Deep.RegionHeld3
namespace Go.Proofs.YtiakmpnmooobbaaDoor
open Go.RowKit
/-- The worlds of the last statement: two states that are clones, and the arguments. -/
structure ClR (W : World) (b c : Nat) (vx vy vz : Value) (x y z : List UInt8) (w : World) : Prop where
  below : Below W.heap.size W w
  sb : ShaIs w b (x ++ y) [] 56
  sc : ShaIs w c (x ++ z) [] 56
  ob : W.heap.size ≤ b
  oc : W.heap.size ≤ c
  bx : BV w (fun k => k < W.heap.size) vx x
  by_ : BV w (fun k => k < W.heap.size) vy y
  bz : BV w (fun k => k < W.heap.size) vz z
section
variable {W : World} {b c : Nat} {vx vy vz : Value} {x y z : List UInt8} {w w' : World}
theorem ShaIs.lt {l : List UInt8} {T : TypeId} {rest : List Value} (h : ShaIs w b l rest T) : b < w.heap.size := by
  obtain ⟨_, _, _, _, _, h⟩ := h; exact h.lt
theorem ClR.grow (h : ClR W b c vx vy vz x y z w) (hb : Below w.heap.size w w') : ClR W b c vx vy vz x y z w' :=
  ⟨h.below.trans (hb.mono h.below.size), h.sb.of_same (hb.block _ h.sb.lt), h.sc.of_same (hb.block _ h.sc.lt), h.ob, h.oc, h.bx.grow hb, h.by_.grow hb, h.bz.grow hb⟩
/-- The reading of the three arguments as strings. -/
def ConvS (w : World) (v : Value) (x : ByteArray) : Prop := (convert 22 9 v).run Tryd.prog w = .ok (.string x) w
theorem BV.conv {F : Nat → Prop} {v : Value} (h : BV w F v x) : ConvS w v ⟨x.toArray⟩ := run_toString (P := Tryd.prog) h 22 5 9 Tryd.underlying22 Tryd.underlying5 Tryd.underlying9
theorem shasum_at {l : List UInt8} {V : ByteArray} (hV : (⟨(Sha.sum l).toArray⟩ : ByteArray) = V) {T : TypeId} {rest : List Value} (h : ShaIs w b l rest T) (hg : Glob w) (hlen : l.length ≤ 1000000000) :
    Calls Tryd.prog 22 #[.pointer (some ⟨b, 0, none⟩)] w fun e w' => e = .returned (.string V) ∧ Below w.heap.size w w' := by
  rw [← hV]; exact shasum_any h hg hlen
theorem shajoin2_at {X Y V : ByteArray} {sv : Value} (hX : (⟨x.toArray⟩ : ByteArray) = X) (hY : (⟨y.toArray⟩ : ByteArray) = Y) (hV : (⟨(Sha.sum (x ++ y)).toArray⟩ : ByteArray) = V) (hx : StringsV w (fun k => k < w.heap.size) sv [X, Y]) (hg : Glob w) (hlen : (x ++ y).length ≤ 1000000000) :
    Calls Tryd.prog 14 #[sv] w fun e w' => e = .returned (.string V) ∧ Below w.heap.size w w' := by
  have e : Cat [X, Y] = x ++ y := by rw [← hX, ← hY]; simp [Cat]
  rw [← hV, ← e]; exact shajoin_any hx hg (by rw [e]; exact hlen)
theorem lits2 (w : World) (X Y : ByteArray) : StringsV (w.alloc (.cells #[.string X, .string Y] 9)) (fun k => k < (w.alloc (.cells #[.string X, .string Y] 9)).heap.size) (.slice (some ⟨w.heap.size, 0, none⟩) 2 2) [X, Y] := by
  refine ⟨_, 2, rfl, Nat.le_refl _, by unfold maxLen; omega, (fun e => by cases e), fun _ => ⟨w.heap.size, 0, rfl, by simp, fun i hi => ?_⟩⟩
  have hb := Blk.new w [.string X, .string Y] 9
  rw [Nat.zero_add]
  match i, hi with
  | 0, _ => exact hb.cell (i := 0) rfl
  | 1, _ => exact hb.cell (i := 1) rfl
theorem lits2d (w : World) (X Y : ByteArray) : StringsV (w.alloc (.cells #[.string X, .string Y] 9)).drew (fun k => k < (w.alloc (.cells #[.string X, .string Y] 9)).drew.heap.size) (.slice (some ⟨w.heap.size, 0, none⟩) 2 2) [X, Y] := lits2 w X Y
theorem StringsV.later {F : Nat → Prop} {v : Value} {l : List ByteArray} (h : StringsV w F v l) (hF : ∀ k, F k → k < w.heap.size) (hb : Below w.heap.size w w') : StringsV w' (fun k => k < w'.heap.size) v l :=
  (SV.grow h hb).mono (fun k hk => Nat.lt_of_lt_of_le (hF k hk) hb.size)
section
variable {X Y Z V : ByteArray}
theorem ClR.keep (hX : (⟨x.toArray⟩ : ByteArray) = X) (hY : (⟨y.toArray⟩ : ByteArray) = Y) (hZ : (⟨z.toArray⟩ : ByteArray) = Z) {Q : Prop} (h : ClR W b c vx vy vz x y z w ∧ Q) (hb : Below w.heap.size w w') :
    ClR W b c vx vy vz x y z w' ∧ (convert 22 9 vx).run Tryd.prog w' = .ok (.string X) w' ∧ (convert 22 9 vy).run Tryd.prog w' = .ok (.string Y) w' ∧ (convert 22 9 vz).run Tryd.prog w' = .ok (.string Z) w' := by
  have h2 := h.1.grow hb
  exact ⟨h2, by rw [← hX]; exact h2.bx.conv, by rw [← hY]; exact h2.by_.conv, by rw [← hZ]; exact h2.bz.conv⟩
theorem ClR.belowS {Q : Prop} (h : ClR W b c vx vy vz x y z w ∧ Q) : Below W.heap.size W w := h.1.below
theorem ClR.glob {Q : Prop} (hg : Glob W) (h : ClR W b c vx vy vz x y z w ∧ Q) : Glob w := hg.below h.1.below hg.lt
theorem ClR.sumB {Q : Prop} (h : ClR W b c vx vy vz x y z w ∧ Q) (hg : Glob W) (hlen : (x ++ y).length ≤ 1000000000) (hV : (⟨(Sha.sum (x ++ y)).toArray⟩ : ByteArray) = V) :
    Calls Tryd.prog 22 #[.pointer (some ⟨b, 0, none⟩)] w fun e w' => e = .returned (.string V) ∧ Below w.heap.size w w' := shasum_at hV h.1.sb (hg.below h.1.below hg.lt) hlen
theorem ClR.sumC {Q : Prop} (h : ClR W b c vx vy vz x y z w ∧ Q) (hg : Glob W) (hlen : (x ++ z).length ≤ 1000000000) (hV : (⟨(Sha.sum (x ++ z)).toArray⟩ : ByteArray) = V) :
    Calls Tryd.prog 22 #[.pointer (some ⟨c, 0, none⟩)] w fun e w' => e = .returned (.string V) ∧ Below w.heap.size w w' := shasum_at hV h.1.sc (hg.below h.1.below hg.lt) hlen
end
end
set_option maxRecDepth 100000 in
set_option maxHeartbeats 2000000 in
theorem sha256Clones_walk (w : World) (hg : Glob w) (xv : Value) (x : List UInt8) (hx : BV w (fun k => k < w.heap.size) xv x) (yv : Value) (y : List UInt8) (hy : BV w (fun k => k < w.heap.size) yv y) (zv : Value) (z : List UInt8) (hz : BV w (fun k => k < w.heap.size) zv z) :
    Calls Tryd.prog 9 #[xv, yv, zv] w fun e w' => e = .returned (.bool true) ∧ Below w.heap.size w w' := by
  obtain ⟨xa, xc, rfl, xc1, xc2, _⟩ := hx.get
  obtain ⟨ya, yc, rfl, yc1, yc2, _⟩ := hy.get
  obtain ⟨za, zc, rfl, zc1, zc2, _⟩ := hz.get
  unfold maxLen at xc2 yc2 zc2
  have HG := Lib.hid hg; clear hg
  have HX := Lib.hid hx; clear hx
  have HY := Lib.hid hy; clear hy
  have HZ := Lib.hid hz; clear hz
  have key : (500 < x.length ∨ 500 < y.length ∨ 500 < z.length) ∨ (x.length ≤ 500 ∧ y.length ≤ 500 ∧ z.length ≤ 500) := by omega
  rcases key with key | ⟨kx, ky, kz⟩
  · have k3 : 500 < x.length ∨ (x.length ≤ 500 ∧ 500 < y.length) ∨ (x.length ≤ 500 ∧ y.length ≤ 500 ∧ 500 < z.length) := by omega
    clear key
    rcases k3 with k | ⟨k1, k⟩ | ⟨k1, k2, k⟩
    · have il : (500 : Int) < (x.length : Int) := by omega
      go_enter Tryd.func9, Tryd.ntmps9
      go_wp2_with fail
      refine (awake_any w HG.out).mono ?_
      rintro e w1 ⟨rfl, hb1⟩
      have B1 := Lib.hid hb1; clear hb1
      go_wp2_with fail
      refine (awake_any w1 (HG.out.below B1.out HG.out.lt)).mono ?_
      rintro e w2 ⟨rfl, hb2⟩
      go_wp2_with fail
      go_ret
      exact ⟨rfl, B1.out.trans (hb2.mono B1.out.size)⟩
    · have il : (500 : Int) < (y.length : Int) := by omega
      have il1 : (x.length : Int) ≤ 500 := by omega
      go_enter Tryd.func9, Tryd.ntmps9
      go_wp2_with fail
      refine (awake_any w HG.out).mono ?_
      rintro e w1 ⟨rfl, hb1⟩
      have B1 := Lib.hid hb1; clear hb1
      go_wp2_with fail
      refine (awake_any w1 (HG.out.below B1.out HG.out.lt)).mono ?_
      rintro e w2 ⟨rfl, hb2⟩
      go_wp2_with fail
      go_ret
      exact ⟨rfl, B1.out.trans (hb2.mono B1.out.size)⟩
    · have il : (500 : Int) < (z.length : Int) := by omega
      have il1 : (x.length : Int) ≤ 500 := by omega
      have il2 : (y.length : Int) ≤ 500 := by omega
      go_enter Tryd.func9, Tryd.ntmps9
      go_wp2_with fail
      refine (awake_any w HG.out).mono ?_
      rintro e w1 ⟨rfl, hb1⟩
      have B1 := Lib.hid hb1; clear hb1
      go_wp2_with fail
      refine (awake_any w1 (HG.out.below B1.out HG.out.lt)).mono ?_
      rintro e w2 ⟨rfl, hb2⟩
      go_wp2_with fail
      go_ret
      exact ⟨rfl, B1.out.trans (hb2.mono B1.out.size)⟩
  have il : (x.length : Int) ≤ 500 := by omega
  have il1 : (y.length : Int) ≤ 500 := by omega
  have il2 : (z.length : Int) ≤ 500 := by omega
  go_enter Tryd.func9, Tryd.ntmps9
  go_wp2_with fail
  refine (awake_any w HG.out).mono ?_
  rintro e w1 ⟨rfl, hb1⟩
  have B1 := Lib.hid hb1; clear hb1
  go_wp2_with fail
  refine (shanew_any (HG.out.below B1.out HG.out.lt)).mono ?_
  rintro e w2 ⟨b, rfl, hbw, hb2, hS2⟩
  have Hb : Hid (w.heap.size ≤ b) := by have := B1.out.size; show w.heap.size ≤ b; omega
  have B2 := Lib.hid (B1.out.trans (hb2.mono B1.out.size))
  have S2 := Lib.hid hS2
  have L2 := Lib.hid hS2.lt
  clear hbw hb2 hS2 B1
  go_wp2_with fail
  refine (shawrite_any S2.out (HX.out.same (fun k hk => B2.out.block k hk)) (fun k hk => ⟨by have := Hb.out; omega, by have := B2.out.size; omega⟩) (HG.out.below B2.out HG.out.lt) (by have := Hb.out; have := HG.out.lt; omega) (by simp; omega)).mono ?_
  rintro e w3 ⟨rfl, hst, hS3⟩
  have B3 := Lib.hid (B2.out.trans (hst.below (B := w.heap.size) (fun k hk => by have := Hb.out; omega) B2.out.size))
  rw [List.nil_append] at hS3
  have S3 := Lib.hid hS3
  have L3 := Lib.hid hS3.lt
  clear hst hS3 B2 S2 L2
  go_wp2_with fail
  refine (shaclone_any S3.out).mono ?_
  rintro e w4 ⟨rfl, hb4, hS4, hz4⟩
  have B4 := Lib.hid (B3.out.trans (hb4.mono B3.out.size))
  have S4 := Lib.hid hS4
  have S4b := Lib.hid (S3.out.of_same (hb4.block _ L3.out))
  obtain ⟨c, hc⟩ : ∃ c, w3.heap.size = c := ⟨_, rfl⟩
  rw [hc] at S4 hz4 L3 ⊢
  have Hc : Hid (w.heap.size ≤ c) := by have := B3.out.size; show w.heap.size ≤ c; omega
  have Hz4 := Lib.hid hz4
  clear hb4 hS4 hz4 S3 hc B3
  go_wp2_with fail
  refine (shawrite_any S4b.out (HY.out.same (fun k hk => B4.out.block k hk)) (fun k hk => ⟨by have := Hb.out; omega, by have := B4.out.size; omega⟩) (HG.out.below B4.out HG.out.lt) (by have := Hb.out; have := HG.out.lt; omega) (by omega)).mono ?_
  rintro e w5 ⟨rfl, hst, hS5⟩
  have B5 := Lib.hid (B4.out.trans (hst.below (B := w.heap.size) (fun k hk => by have := Hb.out; omega) B4.out.size))
  have S5b := Lib.hid hS5
  have S5 := Lib.hid (S4.out.of_same (hst.keep c (by have := Hz4.out; omega) (by have := L3.out; omega)))
  clear hst hS5 B4 S4 S4b
  go_wp2_with fail
  refine (shawrite_any S5.out (HZ.out.same (fun k hk => B5.out.block k hk)) (fun k hk => ⟨by have := Hc.out; omega, by have := B5.out.size; omega⟩) (HG.out.below B5.out HG.out.lt) (by have := Hc.out; have := HG.out.lt; omega) (by omega)).mono ?_
  rintro e w6 ⟨rfl, hst, hS6⟩
  have B6 := Lib.hid (B5.out.trans (hst.below (B := w.heap.size) (fun k hk => by have := Hc.out; omega) B5.out.size))
  have S6b := S5b.out.of_same (hst.keep b (by have := S5b.out.lt; omega) (by have := L3.out; omega))
  have R : ClR w b c (.slice xa x.length xc) (.slice ya y.length yc) (.slice za z.length zc) x y z w6 :=
    ⟨B6.out, S6b, hS6, Hb.out, Hc.out, HX.out.same (fun k hk => B6.out.block k hk), HY.out.same (fun k hk => B6.out.block k hk), HZ.out.same (fun k hk => B6.out.block k hk)⟩
  have HR := Lib.hid R
  clear hst hS6 B5 S5 S5b B6 S6b R
  obtain ⟨X, hX⟩ : ∃ X : ByteArray, (⟨x.toArray⟩ : ByteArray) = X := ⟨_, rfl⟩
  obtain ⟨Y, hY⟩ : ∃ X : ByteArray, (⟨y.toArray⟩ : ByteArray) = X := ⟨_, rfl⟩
  obtain ⟨Z, hZ⟩ : ∃ X : ByteArray, (⟨z.toArray⟩ : ByteArray) = X := ⟨_, rfl⟩
  have ccx : (convert 22 9 (.slice xa x.length xc)).run Tryd.prog w6 = .ok (.string X) w6 := by rw [← hX]; exact HR.out.bx.conv
  have ccy : (convert 22 9 (.slice ya y.length yc)).run Tryd.prog w6 = .ok (.string Y) w6 := by rw [← hY]; exact HR.out.by_.conv
  have ccz : (convert 22 9 (.slice za z.length zc)).run Tryd.prog w6 = .ok (.string Z) w6 := by rw [← hZ]; exact HR.out.bz.conv
  have hCL := HR.out
  have Hx := Lib.hid hX
  have Hy := Lib.hid hY
  have Hz := Lib.hid hZ
  clear hX hY hZ
  go_wp2_with fail
  obtain ⟨V1, hV1⟩ : ∃ V : ByteArray, (⟨(Sha.sum (x ++ y)).toArray⟩ : ByteArray) = V := ⟨_, rfl⟩
  obtain ⟨V2, hV2⟩ : ∃ V : ByteArray, (⟨(Sha.sum (x ++ z)).toArray⟩ : ByteArray) = V := ⟨_, rfl⟩
  have Hv1 := Lib.hid hV1
  have Hv2 := Lib.hid hV2
  clear hV1 hV2
  have hly : (x ++ y).length ≤ 1000000000 := by simp; omega
  have hlz : (x ++ z).length ≤ 1000000000 := by simp; omega
  have Hly := Lib.hid hly
  have Hlz := Lib.hid hlz
  clear hly hlz
  have hS0 := ClR.keep Hx.out Hy.out Hz.out ⟨HR.out, trivial⟩ (Below.refl _ _)
  go_region_held3 (fun w' => ClR w b c (.slice xa x.length xc) (.slice ya y.length yc) (.slice za z.length zc) x y z w' ∧ (convert 22 9 (.slice xa x.length xc)).run Tryd.prog w' = .ok (.string X) w' ∧ (convert 22 9 (.slice ya y.length yc)).run Tryd.prog w' = .ok (.string Y) w' ∧ (convert 22 9 (.slice za z.length zc)).run Tryd.prog w' = .ok (.string Z) w')
    (first
      | exact ClR.keep Hx.out Hy.out Hz.out (by assumption) hb
      | exact ClR.keep Hx.out Hy.out Hz.out (by assumption) ((Below.refl _ _).alloc (Nat.le_refl _) _)
      | exact ClR.keep Hx.out Hy.out Hz.out (by assumption) (Below.refl _ _).drew)
    (first
      | (go_at_call 22; refine (ClR.sumB (by assumption) HG.out Hly.out Hv1.out).mono ?_; rintro e w' ⟨rfl, hb⟩)
      | (go_at_call 22; refine (ClR.sumC (by assumption) HG.out Hlz.out Hv2.out).mono ?_; rintro e w' ⟨rfl, hb⟩)
      | (go_at_call 14; refine (shajoin2_at Hx.out Hy.out Hv1.out (lits2 _ X Y) (ClR.glob (b := b) (c := c) (vx := .slice xa x.length xc) (vy := .slice ya y.length yc) (vz := .slice za z.length zc) (x := x) (y := y) (z := z) HG.out (by assumption)) Hly.out).mono ?_; rintro e w' ⟨rfl, hb⟩)
      | (go_at_call 14; refine (shajoin2_at Hx.out Hy.out Hv1.out ((lits2 _ X Y).later (fun _ h => h) hb) (ClR.glob (b := b) (c := c) (vx := .slice xa x.length xc) (vy := .slice ya y.length yc) (vz := .slice za z.length zc) (x := x) (y := y) (z := z) HG.out (by assumption)) Hly.out).mono ?_; rintro e w' ⟨rfl, hb⟩)
      | (go_at_call 14; refine (shajoin2_at Hx.out Hy.out Hv1.out ((lits2d _ X Y).later (fun _ h => h) hb) (ClR.glob (b := b) (c := c) (vx := .slice xa x.length xc) (vy := .slice ya y.length yc) (vz := .slice za z.length zc) (x := x) (y := y) (z := z) HG.out (by assumption)) Hly.out).mono ?_; rintro e w' ⟨rfl, hb⟩)
      | (go_at_call 14; refine (shajoin2_at Hx.out Hz.out Hv2.out (lits2 _ X Z) (ClR.glob (b := b) (c := c) (vx := .slice xa x.length xc) (vy := .slice ya y.length yc) (vz := .slice za z.length zc) (x := x) (y := y) (z := z) HG.out (by assumption)) Hlz.out).mono ?_; rintro e w' ⟨rfl, hb⟩)
      | (go_at_call 14; refine (shajoin2_at Hx.out Hz.out Hv2.out ((lits2 _ X Z).later (fun _ h => h) hb) (ClR.glob (b := b) (c := c) (vx := .slice xa x.length xc) (vy := .slice ya y.length yc) (vz := .slice za z.length zc) (x := x) (y := y) (z := z) HG.out (by assumption)) Hlz.out).mono ?_; rintro e w' ⟨rfl, hb⟩)
      | (go_at_call 14; refine (shajoin2_at Hx.out Hz.out Hv2.out ((lits2d _ X Z).later (fun _ h => h) hb) (ClR.glob (b := b) (c := c) (vx := .slice xa x.length xc) (vy := .slice ya y.length yc) (vz := .slice za z.length zc) (x := x) (y := y) (z := z) HG.out (by assumption)) Hlz.out).mono ?_; rintro e w' ⟨rfl, hb⟩))
  all_goals
    go_wp2_with fail
    go_ret
    exact ⟨rfl, ClR.belowS (b := b) (c := c) (vx := .slice xa x.length xc) (vy := .slice ya y.length yc) (vz := .slice za z.length zc) (x := x) (y := y) (z := z) (by assumption)⟩
end Go.Proofs.YtiakmpnmooobbaaDoor
