/- The opening of chapter 17's laws: the examples hold. -/
import Derived.Test.YtcpcnfedbffecaaDoorJnL
namespace Go.Proofs.YtcpcnfedbffecaaDoor
open Go.RowKit Go.Maps
set_option linter.unusedSimpArgs false
namespace Jn
def T0 : JSt := { f0 := 0, f1 := 5, room := 5, epoch := 0, used := 0, recs := [], last := z32 }
def T1 : JSt := { f0 := 0, f1 := 5, room := 5, epoch := 0, used := 1, recs := A1, last := Sha.sum (z32 ++ body 0 A1) }
def T2 : JSt := { f0 := 0, f1 := 5, room := 5, epoch := 0, used := 2, recs := A1 ++ A2, last := Sha.sum (Sha.sum (z32 ++ body 0 A1) ++ body 0 A2) }
def T3 : JSt := { f0 := 0, f1 := 5, room := 5, epoch := 1, used := 1, recs := [[100]], last := Sha.sum (z32 ++ body 1 A3) }
def T4 : JSt := { f0 := 0, f1 := 5, room := 5, epoch := 1, used := 1, recs := [[100]], last := lastOf 1 z32 [A3] }
theorem o0 : openSt 0 10 [] [] = T0 := rfl
theorem o4 : openSt 0 10 [A1, A2] [A3] = T4 := by unfold openSt; rw [if_neg (by simp)]; rfl
theorem a1 : T0.appErr 64 [[97]] = 0 := by decide
theorem a2 : T1.appErr 64 [[98], [99]] = 0 := by decide
theorem a3 : T2.resErr 64 [100] = 0 := by decide
theorem b1 : T0.app 64 [[97]] = T1 := by unfold JSt.app; rw [if_pos (by decide)]; rfl
theorem b2 : T1.app 64 [[98], [99]] = T2 := by unfold JSt.app; rw [if_pos (by decide)]; rfl
theorem b3 : T2.reset 64 [100] = T3 := by unfold JSt.reset; rw [if_pos (by decide)]; rfl
theorem c1 (f : Nat → List UInt8) : T0.appImg 64 [[97]] f = put f 0 64 (data z32 0 A1) := by unfold JSt.appImg; rw [if_pos (by decide)]; rfl
theorem c2 (f : Nat → List UInt8) : T1.appImg 64 [[98], [99]] f = put f 1 64 (data (Sha.sum (z32 ++ body 0 A1)) 0 A2) := by unfold JSt.appImg; rw [if_pos (by decide)]; rfl
theorem c3 (f : Nat → List UInt8) : T2.resImg 64 [100] f = put f 5 64 (data z32 1 A3) := by unfold JSt.resImg; rw [if_pos (by decide)]; rfl
end Jn
theorem LV.two {w : World} {FX FY : Nat → Prop} {xv yv : Value} {x y : List UInt8} (hx : BV w FX xv x) (hy : BV w FY yv y) : LV (w.alloc (.cells #[xv, yv] 39)) (fun k => FX k ∨ FY k ∨ k = w.heap.size) (.slice (some ⟨w.heap.size, 0, none⟩) 2 2) [x, y] := by
  refine ⟨_, 2, rfl, by simp, by unfold maxLen; omega, (fun e => by cases e), fun _ => ⟨w.heap.size, 0, rfl, .inr (.inr rfl), fun i hi => ?_⟩⟩
  have h0 : i = 0 ∨ i = 1 := by simp at hi; omega
  rcases h0 with rfl | rfl
  · exact ⟨xv, (Blk.new w [xv, yv] 39).cell rfl, (hx.alloc _).mono (fun _ h => .inl h)⟩
  · exact ⟨yv, (Blk.new w [xv, yv] 39).cell rfl, (hy.alloc _).mono (fun _ h => .inr (.inl h))⟩
section
set_option maxRecDepth 100000 in
set_option maxHeartbeats 4000000 in
theorem awake_any (w : World) (hg : ∀ W, Below w.heap.size w W → Glob W) : Calls Tryd.prog 6 #[] w fun e w' => e = .returned (.bool true) ∧ Below w.heap.size w w' := by
  have HG := Lib.hid hg
  clear hg
  have kc := fun (w : World) (C : Array Value) (n c : Nat) => Lib.run_convert_bytes_const (P := Tryd.prog) w 39 5 C n c Tryd.underlying39 Tryd.underlying5
  go_enter Tryd.func6, Tryd.ntmps6
  go_wp2_with fail
  refine (new_yes 10 64 _ (by omega) (by omega) (by omega) (by omega)).mono ?_
  rintro e w1 ⟨bd, rfl, hb1, hD1⟩
  have DD1 : DD w.heap.size w1.heap.size w1 (DSt.new 10 64) bd := ⟨_, fun k hk => hk, hD1, DSt.Calm.new 10 64, by simp [DSt.new], Nat.le_refl _, hb1.size⟩
  have hlk : ∀ k, k < 10 → (DSt.new 10 64).look k = List.replicate 64 0 := fun k hk => DSt.new_look 10 64 k hk
  have SC := sectors_any hD1
  have hsz : (DSt.new 10 64).size = 64 := rfl
  have hln : (DSt.new 10 64).dur.length = 10 := by simp [DSt.new]
  rw [hln] at SC
  obtain ⟨s0, hs0⟩ : ∃ s0, DSt.new 10 64 = s0 := ⟨_, rfl⟩
  rw [hs0] at DD1 hlk hsz hln
  have V := DD1.opens (first := 0) (n := 10) (bs0 := []) (bs1 := []) (fun W hW => HG.out W (hb1.trans (hW.mono hb1.size))) (by omega) (by omega) (by omega) (Jn.Chain.zeros 0 (by omega) (by omega) (fun _ => by rw [hlk 0 (by omega), hsz])) (Jn.Chain.zeros 1 (by omega) (by omega) (fun _ => by rw [hlk _ (by omega), hsz]))
  rw [Jn.o0] at V
  have HV := Lib.hid V
  have HSC := Lib.hid SC
  have HS0 := Lib.hid (And.intro hsz (And.intro hln hlk))
  have HB1 := Lib.hid hb1
  clear V SC hsz hln hlk hs0 DD1 hD1 hb1
  go_wp2_with (go_at_call 20; refine (HSC.out).mono ?_; rintro e w' ⟨rfl, rfl⟩)
  refine (HV.out).mono ?_
  rintro e w2 ⟨jb, rfl, hb2, hJ2⟩
  have VL := hJ2.left (by decide) (by decide) (by decide)
  rw [HS0.out.1, show Jn.T0.left 64 = 276 from by decide] at VL
  have HVL := Lib.hid VL
  have HJ2 := Lib.hid hJ2
  have HB2 : Hid (Below w.heap.size w w2) := Lib.hid (HB1.out.trans (hb2.mono HB1.out.size))
  clear VL hJ2 hb2 HV HSC
  go_wp2_with (go_at_call 11; refine (HVL.out).mono ?_; rintro e w2b ⟨rfl, k, hwk⟩; have HWK := Lib.hid hwk; clear hwk)
  have hbk : Below w2.heap.size w2 w2b := by rw [HWK.out]; exact below_drewN w2 k
  obtain ⟨w3, hw3⟩ : ∃ w3, w2b.alloc (.cells #[.int .u8 97] 5 (1, 2)) = w3 := ⟨_, rfl⟩
  have hb3 : Below w2.heap.size w2 w3 := by rw [← hw3]; exact hbk.alloc hbk.size _
  have hx3 : BV w3 (· = w2b.heap.size) (.slice (some ⟨w2b.heap.size, 0, none⟩) 1 1) [97] := by rw [← hw3]; exact BV.made w2b [97] 5 (1, 2) (by unfold maxLen; simp)
  have hz3 : w3.heap.size = w2b.heap.size + 1 ∧ w2.heap.size ≤ w2b.heap.size := ⟨by rw [← hw3]; simp, hbk.size⟩
  rw [hw3]
  have HB3 : Hid (Below w.heap.size w w3) := Lib.hid (HB2.out.trans (hb3.mono HB2.out.size))
  have V3 := (HJ2.out.grow hb3).append (HG.out w3 HB3.out) (by rw [HS0.out.2.1]; exact ⟨by decide, by decide, by decide, by decide, by decide, by decide, by decide⟩) hx3 (fun q hq => by have : q = _ := hq; omega) (fun q hq => .inr (by have : q = _ := hq; omega)) (by simp)
  rw [HS0.out.1, Jn.a1, Jn.b1, Jn.c1] at V3
  clear hb3 hx3 hz3 hw3 hbk HVL HJ2
  refine V3.mono ?_
  rintro e w4 ⟨rfl, hb4, s1, tu1, hJ4⟩
  have HB4 : Hid (Below w.heap.size w w4) := Lib.hid (HB3.out.trans hb4)
  have HJ4 := Lib.hid hJ4
  have HS1 := Lib.hid tu1
  clear V3 hb4 tu1 hJ4
  have e98 : (w4.alloc (.cells #[.int .u8 98] 5 (1, 2))).heap.size = w4.heap.size + 1 := by simp
  have kc2 := kc (w4.alloc (.cells #[.int .u8 98] 5 (1, 2))) #[.int .u8 99] 1 1
  rw [e98] at kc2
  go_wp2_with fail
  have hx5 : BV (w4.alloc (.cells #[.int .u8 98] 5 (1, 2))) (· = w4.heap.size) (.slice (some ⟨w4.heap.size, 0, none⟩) 1 1) [98] := BV.made w4 [98] 5 (1, 2) (by unfold maxLen; simp)
  have hy5 : BV ((w4.alloc (.cells #[.int .u8 98] 5 (1, 2))).alloc (.cells #[.int .u8 99] 5 (1, 2))) (· = (w4.alloc (.cells #[.int .u8 98] 5 (1, 2))).heap.size) (.slice (some ⟨(w4.alloc (.cells #[.int .u8 98] 5 (1, 2))).heap.size, 0, none⟩) 1 1) [99] := BV.made (w4.alloc (.cells #[.int .u8 98] 5 (1, 2))) [99] 5 (1, 2) (by unfold maxLen; simp)
  rw [e98] at hy5
  have hl5 := LV.two (hx5.alloc (.cells #[.int .u8 99] 5 (1, 2))) hy5
  have e99 : ((w4.alloc (.cells #[.int .u8 98] 5 (1, 2))).alloc (.cells #[.int .u8 99] 5 (1, 2))).heap.size = w4.heap.size + 1 + 1 := by simp
  rw [e99] at hl5
  have hb5 : Below w4.heap.size w4 (((w4.alloc (.cells #[.int .u8 98] 5 (1, 2))).alloc (.cells #[.int .u8 99] 5 (1, 2))).alloc (.cells #[.slice (some ⟨w4.heap.size, 0, none⟩) 1 1, .slice (some ⟨w4.heap.size + 1, 0, none⟩) 1 1] 39)) := (((Below.refl _ _).alloc (Nat.le_refl _) _).alloc (by simp) _).alloc (by simp; omega) _
  have hz5 : (((w4.alloc (.cells #[.int .u8 98] 5 (1, 2))).alloc (.cells #[.int .u8 99] 5 (1, 2))).alloc (.cells #[.slice (some ⟨w4.heap.size, 0, none⟩) 1 1, .slice (some ⟨w4.heap.size + 1, 0, none⟩) 1 1] 39)).heap.size = w4.heap.size + 1 + 1 + 1 := by simp
  obtain ⟨w5, hw5⟩ : ∃ w5, ((w4.alloc (.cells #[.int .u8 98] 5 (1, 2))).alloc (.cells #[.int .u8 99] 5 (1, 2))).alloc (.cells #[.slice (some ⟨w4.heap.size, 0, none⟩) 1 1, .slice (some ⟨w4.heap.size + 1, 0, none⟩) 1 1] 39) = w5 := ⟨_, rfl⟩
  rw [hw5] at hb5 hz5 hl5 ⊢
  have HB5 : Hid (Below w.heap.size w w5) := Lib.hid (HB4.out.trans (hb5.mono HB4.out.size))
  have V5 := (HJ4.out.grow hb5).appendAll (HG.out w5 HB5.out) (by rw [HS1.out.len, HS0.out.2.1]; exact ⟨by decide, by decide, by decide, by decide, by decide, by decide, by simp [Jn.T1, Jn.sum_len]⟩) hl5 (fun q hq => by rcases hq with hq | hq | hq <;> omega) (fun q hq => .inr (by rcases hq with hq | hq | hq <;> omega)) (by simp) (by decide)
  rw [HS1.out.size, HS0.out.1, Jn.a2, Jn.b2, Jn.c2] at V5
  clear hx5 hy5 hl5 hb5 hz5 hw5 e98 e99 kc2 HJ4
  refine V5.mono ?_
  rintro e w6 ⟨rfl, hb6, s2, tu2, hJ6⟩
  have HB6 : Hid (Below w.heap.size w w6) := Lib.hid (HB5.out.trans hb6)
  have HS2 := Lib.hid tu2
  have VR := Lib.hid (hJ6.records (by decide) (by decide) (by decide))
  have HJ6 := Lib.hid hJ6
  clear V5 hb6 tu2 hJ6
  go_wp2_with fail
  refine (VR.out).mono ?_
  rintro e w7 ⟨rv, rfl, hb7, hR7⟩
  obtain ⟨ra, rc, rfl, _, _, hget⟩ := hR7.lv.get
  obtain ⟨g7, o7, x7, rfl, -, hc7, hbv7⟩ := hget 2 (by decide)
  obtain ⟨xa, xc, rfl, -⟩ := hbv7.get
  have hbv7' : BV w7 (fun k => w6.heap.size ≤ k ∧ k < w7.heap.size) (.slice xa 1 xc) [99] := hbv7
  have hc7' : w7.cell? ⟨g7, o7 + 2, none⟩ = some (.slice xa 1 xc) := hc7
  have cv7 : (convert 39 9 (.slice xa 1 xc)).run Tryd.prog w7 = .ok (.string ⟨#[99]⟩) w7 := hbv7'.convS
  have elen : Jn.T2.recs.length = 3 := rfl
  rw [elen]
  have HJ7 := Lib.hid (HJ6.out.grow hb7)
  have HB7 : Hid (Below w.heap.size w w7) := Lib.hid (HB6.out.trans (hb7.mono HB6.out.size))
  clear VR hget hR7 hbv7 hbv7' hc7 elen hb7 HJ6
  go_wp2_with fail
  have hx8 : BV (w7.alloc (.cells #[.int .u8 100] 5 (1, 2))) (· = w7.heap.size) (.slice (some ⟨w7.heap.size, 0, none⟩) 1 1) [100] := BV.made w7 [100] 5 (1, 2) (by unfold maxLen; simp)
  have hb8 : Below w7.heap.size w7 (w7.alloc (.cells #[.int .u8 100] 5 (1, 2))) := (Below.refl _ _).alloc (Nat.le_refl _) _
  have hz8 : (w7.alloc (.cells #[.int .u8 100] 5 (1, 2))).heap.size = w7.heap.size + 1 := by simp
  obtain ⟨w8, hw8⟩ : ∃ w8, w7.alloc (.cells #[.int .u8 100] 5 (1, 2)) = w8 := ⟨_, rfl⟩
  rw [hw8] at hx8 hb8 hz8 ⊢
  have HB8 : Hid (Below w.heap.size w w8) := Lib.hid (HB7.out.trans (hb8.mono HB7.out.size))
  have hs7 : w6.heap.size ≤ w7.heap.size := by
    obtain ⟨FJ, FD, h1, h2, h3, h4, h5, h6, h7, h8, h9⟩ := HJ7.out
    exact h8
  have V8 := (HJ7.out.grow hb8).reset (HG.out w8 HB8.out) (by rw [HS2.out.len, HS1.out.len, HS0.out.2.1]; exact ⟨by decide, by decide, by decide, by decide, by decide, by decide, by simp [Jn.T2, Jn.sum_len]⟩) hx8 (fun q hq => by have : q = _ := hq; omega) (fun q hq => .inr (by have : q = _ := hq; omega)) (by simp)
  rw [HS2.out.size, HS1.out.size, HS0.out.1, Jn.a3, Jn.b3, Jn.c3] at V8
  clear hx8 hb8 hz8 hw8 hc7' cv7 HJ7 hs7
  refine V8.mono ?_
  rintro e w9 ⟨rfl, hb9, s3, tu3, hJ9⟩
  have HB9 : Hid (Below w.heap.size w w9) := Lib.hid (HB8.out.trans hb9)
  have l3 : s3.dur.length = 10 := by rw [tu3.len, HS2.out.len, HS1.out.len, HS0.out.2.1]
  have z3 : s3.size = 64 := by rw [tu3.size, HS2.out.size, HS1.out.size, HS0.out.1]
  have hch := Jn.awake_chains (f0 := s0.look) (f1 := s1.look) (f2 := s2.look) (f3 := s3.look) HS0.out.2.2
    (fun k hk => HS1.out.look k (by rw [HS0.out.2.1]; exact hk)) (fun k hk => HS2.out.look k (by rw [HS1.out.len, HS0.out.2.1]; exact hk)) (fun k hk => tu3.look k (by rw [HS2.out.len, HS1.out.len, HS0.out.2.1]; exact hk))
  have V9 := hJ9.dd.opens (first := 0) (n := 10) (fun W hW => HG.out W (HB9.out.trans (hW.mono HB9.out.size))) (by omega) (by omega) (by omega) (by rw [z3]; exact hch.1) (by rw [z3]; exact hch.2)
  rw [Jn.o4] at V9
  have HV9 := Lib.hid V9
  clear V8 hb9 hJ9 l3 z3 tu3 hch V9
  go_wp2_with fail
  refine (HV9.out).mono ?_
  rintro e w10 ⟨kb, rfl, hb10, hJ10⟩
  have HB10 : Hid (Below w.heap.size w w10) := Lib.hid (HB9.out.trans (hb10.mono HB9.out.size))
  have VR := Lib.hid (hJ10.records (by decide) (by decide) (by decide))
  have HJ10 := Lib.hid hJ10
  clear hb10 hJ10 HV9
  go_wp2_with fail
  refine (VR.out).mono ?_
  rintro e w11 ⟨rv, rfl, hb11, hR11⟩
  obtain ⟨ra, rc, rfl, _, _, hget⟩ := hR11.lv.get
  obtain ⟨g7, o7, x7, rfl, -, hc7, hbv7⟩ := hget 0 (by decide)
  obtain ⟨xa, xc, rfl, -⟩ := hbv7.get
  have hbv7' : BV w11 (fun k => w10.heap.size ≤ k ∧ k < w11.heap.size) (.slice xa 1 xc) [100] := hbv7
  have hc7' : w11.cell? ⟨g7, o7 + 0, none⟩ = some (.slice xa 1 xc) := hc7
  rw [Nat.add_zero] at hc7'
  have cv7 : (convert 39 9 (.slice xa 1 xc)).run Tryd.prog w11 = .ok (.string ⟨#[100]⟩) w11 := hbv7'.convS
  have elen : Jn.T4.recs.length = 1 := rfl
  rw [elen]
  have VE := Lib.hid ((HJ10.out.grow hb11).epoch)
  have HB11 : Hid (Below w.heap.size w w11) := Lib.hid (HB10.out.trans (hb11.mono HB10.out.size))
  clear VR hget hR11 hbv7 hbv7' hc7 elen hb11 HJ10
  go_wp2_with (go_at_call 14; refine (VE.out).mono ?_; rintro e w' ⟨rfl, rfl⟩; rw [show Jn.T4.epoch = 1 from rfl])
  go_ret
  exact ⟨rfl, HB11.out⟩
end
end Go.Proofs.YtcpcnfedbffecaaDoor
