/- awake of chapter 37. -/
import Derived.Test.YtggiinfeiilogaaDoorFrP
import Derived.Test.YtggiinfeiilogaaDoorRefC
namespace Go.Proofs.YtggiinfeiilogaaDoor
open Go.RowKit
namespace Fr
def fr0 : List UInt8 := encM (7, [97, 98])
theorem fr0_eq : fr0 = 7 :: 2 :: 97 :: 98 :: chk [7, 2, 97, 98] := by
  show enc (kb 7) [97, 98] = _
  unfold enc head
  rw [num1 (by decide)]
  rfl
theorem fr0_len : fr0.length = 12 := by rw [fr0_eq]; simp [chk_length]
theorem fr0_step : step fr0 = .msg 7 [97, 98] [] := by
  have := step_enc (kb 7) (body := [97, 98]) (by decide) []
  rw [List.append_nil] at this
  exact this
theorem fr0_need : step (fr0.take 11) = .need := by
  have := step_short (kb 7) (body := [97, 98]) (by decide) [] (c := 11) (by show 11 < fr0.length; rw [fr0_len]; decide)
  rw [List.append_nil] at this
  exact this
theorem cost_2 : cost 2 = 12 := by unfold cost; rw [num1 (by decide)]; rfl
theorem cost_200 : cost 200 = 211 := by unfold cost; rw [num2 (by decide) (by decide)]; rfl
theorem fit_3 : fit [(7, [97, 98]), (7, [97, 98]), (7, [97, 98])] 30 = 2 := by
  have h : ∀ c, (if cost 2 ≤ c then c else 0) = if 12 ≤ c then c else 0 := fun c => by rw [cost_2]
  show (if cost 2 ≤ 30 then (if cost 2 ≤ 30 - cost 2 then (if cost 2 ≤ 30 - cost 2 - cost 2 then _ else 0) + 1 else 0) + 1 else 0) = 2
  rw [cost_2]
  rfl
theorem split_5 : split 3 2 [97, 98, 99, 100, 101] = [(3, [1, 97, 98]), (3, [1, 99, 100]), (3, [0, 101])] := by
  unfold split
  rw [parts_more (by decide) (by decide), parts_more (by decide) (by decide), parts_last (by decide)]
  rfl
end Fr
set_option maxRecDepth 100000 in
set_option maxHeartbeats 4000000 in
theorem awake37_any (w : World) (hg : Glob w) : Calls Tryd.prog 26 #[] w fun e w' => e = .returned (.bool true) ∧ Below w.heap.size w w' := by
  have HG := Lib.hid hg
  clear hg
  obtain ⟨w1, hw1⟩ : ∃ w1, (w.alloc (.cells #[.int .u8 97, .int .u8 98] 5 (2, 3))).alloc (.cells #[.int .i64 7, .slice (some ⟨w.heap.size, 0, none⟩) 2 2] 32) = w1 := ⟨_, rfl⟩
  have B1 : Hid (Below w.heap.size w w1) := Lib.hid (by rw [← hw1]; exact ((Below.refl _ _).alloc (Nat.le_refl _) _).alloc (by simp) _)
  have X1 : Hid (BV w1 (fun k => k < w1.heap.size) (.slice (some ⟨w.heap.size, 0, none⟩) 2 2) [97, 98]) := Lib.hid (by rw [← hw1]; exact ((show BV (w.alloc (.cells #[.int .u8 97, .int .u8 98] 5 (2, 3))) (· = w.heap.size) (.slice (some ⟨w.heap.size, 0, none⟩) 2 2) [97, 98] from BV.made w [97, 98] 5 (2, 3) (by unfold maxLen; simp)).alloc _).mono (fun k hk => by subst hk; simp; omega))
  have P1 : Hid (Blk w1 (w.heap.size + 1) [.int .i64 7, .slice (some ⟨w.heap.size, 0, none⟩) 2 2] 32) := Lib.hid (by rw [← hw1]; exact Blk.newAt _ _ _ (by simp))
  have HS1 : Hid (w1.heap.size = w.heap.size + 2) := Lib.hid (by rw [← hw1]; simp)
  have p0 := P1.out.cell (i := 0) rfl
  have p1 := P1.out.cell (i := 1) rfl
  have kc := fun (w : World) (C : Array Value) (n c : Nat) => Lib.run_convert_bytes_const (P := Tryd.prog) w 30 5 C n c Tryd.underlying30 Tryd.underlying5
  go_enter Tryd.func26, Tryd.ntmps26
  go_wp2_with fail
  clear hw1
  refine (fenc_any X1.out (fun k hk => hk) (HG.out.below B1.out HG.out.lt)).mono ?_
  rintro e w2 ⟨sv, rfl, hN2⟩
  have he : encErr 7 [97, 98] = 0 := by rfl
  rw [he, if_pos rfl] at hN2
  rw [he]
  obtain ⟨F0, hF0⟩ : ∃ F0, Fr.encM (7, [97, 98]) = F0 := ⟨_, rfl⟩
  have hF0' : Fr.fr0 = F0 := hF0
  have hlen : F0.length = 12 := by rw [← hF0']; exact Fr.fr0_len
  rw [hF0] at hN2
  obtain ⟨g, c, rfl, hc1, hc2, hgl, _⟩ := hN2.2.1.cells (by omega)
  have HC := Lib.hid (hN2.2.1.cells (by omega))
  rw [hlen] at hN2 hc1 ⊢
  have N2 := Lib.hid (hN2.rebase B1.out B1.out.size)
  have HF := Lib.hid hF0'
  have HLEN := Lib.hid hlen
  have X2 := Lib.hid (X1.out.grow hN2.1)
  have P2 := Lib.hid (P1.out.of_same (hN2.1.block _ P1.out.lt))
  clear hN2 hF0 hF0' hlen he p0 p1
  go_wp2_with fail
  refine (fCost_any w2 200).mono ?_
  rintro e w3 ⟨rfl, rfl⟩
  rw [if_neg (by decide), if_neg (by decide), show ((200 : Int).toNat) = 200 from rfl, Fr.cost_200]
  have L3 : Hid (BV (w2.alloc (.cells #[.int .u8 97, .int .u8 98, .int .u8 99, .int .u8 100, .int .u8 101] 5 (5, 6))) (· = w2.heap.size) (.slice (some ⟨w2.heap.size, 0, none⟩) 5 5) [97, 98, 99, 100, 101]) := Lib.hid (BV.made w2 [97, 98, 99, 100, 101] 5 (5, 6) (by unfold maxLen; simp))
  have N3 := Lib.hid (N2.out.alloc (.cells #[.int .u8 97, .int .u8 98, .int .u8 99, .int .u8 100, .int .u8 101] 5 (5, 6)))
  have X3 := Lib.hid (X2.out.alloc (.cells #[.int .u8 97, .int .u8 98, .int .u8 99, .int .u8 100, .int .u8 101] 5 (5, 6)))
  have P3 := Lib.hid (P2.out.alloc (.cells #[.int .u8 97, .int .u8 98, .int .u8 99, .int .u8 100, .int .u8 101] 5 (5, 6)))
  have hz3 : w2.heap.size < (w2.alloc (.cells #[.int .u8 97, .int .u8 98, .int .u8 99, .int .u8 100, .int .u8 101] 5 (5, 6))).heap.size := by simp
  go_wp2_with fail
  generalize w2.alloc (.cells #[.int .u8 97, .int .u8 98, .int .u8 99, .int .u8 100, .int .u8 101] 5 (5, 6)) = w3 at *
  refine (split_any L3.out (fun k hk => by subst hk; exact hz3) 3 3).mono ?_
  rintro e w4 ⟨hb4, hp4⟩
  rw [if_neg (by decide), if_neg (by decide)] at hp4
  obtain ⟨lv, rfl, hM4⟩ := hp4
  rw [show ((3 : Int) - 1).toNat = 2 from rfl, Fr.split_5] at hM4
  have N4 := Lib.hid (N3.out.later hb4)
  have X4 := Lib.hid (X3.out.grow hb4)
  have P4 := Lib.hid (P3.out.of_same (hb4.block _ P3.out.lt))
  have B4 := Lib.hid N4.out.1
  obtain ⟨la, lc, rfl, hl1, hl2, hlg⟩ := hM4.msv.get
  unfold maxLen at hl2
  obtain ⟨bl, ol, xl, rfl, _, _, hx1, hbx⟩ := hlg 1 (by decide)
  have hcx := hbx.convS
  obtain ⟨xla, xlc, rfl, _, _, _⟩ := hbx
  have hx1' : w4.cell? ⟨bl, ol + 3, none⟩ = some (.slice xla 3 xlc) := hx1
  have hcx' : (convert 30 9 (.slice xla 3 xlc)).run Tryd.prog w4 = .ok (.string ⟨#[1, 99, 100]⟩) w4 := hcx
  obtain ⟨_, _, e1, _, _, _, hcell, _⟩ := N4.out.2.1.cells (by have := HLEN.out; omega)
  simp only [Value.slice.injEq, Option.some.injEq, Addr.mk.injEq] at e1
  obtain ⟨⟨rfl, -⟩, -, rfl⟩ := e1
  have hl3 : ([(3, [1, 97, 98]), (3, [1, 99, 100]), (3, [0, 101])] : List Fr.Msg).length = 3 := rfl
  rw [hl3] at hl1 ⊢
  have hF0c : ∀ i x, F0[i]? = some x → w4.cell? ⟨g, i, none⟩ = some (.int .u8 (x.toNat : Int)) := fun i x hx => by
    have hi := (List.getElem?_eq_some_iff.1 hx).1
    rw [hcell i hi, (List.getElem?_eq_some_iff.1 hx).2]
  have hFe : F0 = 7 :: 2 :: 97 :: 98 :: Fr.chk [7, 2, 97, 98] := by rw [← HF.out]; exact Fr.fr0_eq
  have k0 : w4.cell? ⟨g, 0, none⟩ = some (.int .u8 7) := hF0c 0 7 (by rw [hFe]; rfl)
  have k1 : w4.cell? ⟨g, 1, none⟩ = some (.int .u8 2) := hF0c 1 2 (by rw [hFe]; rfl)
  have k3 : w4.cell? ⟨g, 3, none⟩ = some (.int .u8 98) := hF0c 3 98 (by rw [hFe]; rfl)
  clear hcx hb4 hM4 hlg hx1 hcell hF0c hFe N2 X2 P2 N3 X3 P3 L3 hz3 HC
  go_wp2_with fail
  clear hcx' k0 k1 k3 hx1' hl1 hl2 hc1
  refine (newdec_any w4).mono ?_
  rintro e w5 ⟨rfl, hb5, hD5⟩
  have hlt4 : w.heap.size ≤ w4.heap.size := B4.out.size
  have G4 := Lib.hid (HG.out.below B4.out HG.out.lt)
  have HC12 : Hid (12 ≤ c) := Lib.hid (by obtain ⟨_, _, e, h, _⟩ := N4.out.2.1.form; injection e with e1 e2 e3; subst e3; have := HLEN.out; omega)
  have V4 := Lib.hid N4.out.bvs
  have hFr5 : From w4.heap.size (fun k => w4.heap.size ≤ k ∧ k < w5.heap.size) := fun k hk => hk.1
  obtain ⟨bD, hbD⟩ : ∃ bD, w4.heap.size = bD := ⟨_, rfl⟩
  have HBD := Lib.hid hbD
  generalize (fun k => w4.heap.size ≤ k ∧ k < w5.heap.size) = F5 at *
  have B5 := Lib.hid hb5
  have D5 := Lib.hid hD5
  have FR5 := Lib.hid hFr5
  clear hb5 hD5 hFr5
  rw [hbD]
  rw [hbD] at D5
  clear hbD
  have j2 : (12 : Int) ≤ (c : Int) := by have := HC12.out; omega
  go_wp2_with fail
  have V5t := BV.take (k := 11) (V4.out.same (w' := w5) (fun k hk => B5.out.block k hk)) (by omega)
  refine (feed_any D5.out V5t (by simp only [Fr.D.pend, List.length_nil, List.length_take]; omega)).mono ?_
  rintro e w6 ⟨rfl, hst6, hD6⟩
  have B6 := Lib.hid (B5.out.trans (hst6.below FR5.out B5.out.size))
  have FR6 := Lib.hid (Plus.froms (w := w5) (w' := w6) FR5.out B5.out.size)
  have hD6' : DecAt w6 bD (Plus F5 w5 w6) (.live (F0.take 11)) := hD6
  generalize Plus F5 w5 w6 = F6 at *
  have D6 := Lib.hid hD6'
  clear hst6 hD6 hD6' V5t
  go_wp2_with fail
  have hgl6 : From (1 + 1) F6 := fun k hk => by have := FR6.out k hk; have := HG.out.lt; omega
  refine (next_live D6.out (G4.out.below B6.out G4.out.lt) hgl6 (by rw [List.length_take]; omega)).mono ?_
  rintro e w7 ⟨hst7, hN7⟩
  unfold NextPost at hN7
  have hs7 : Fr.step (F0.take 11) = .need := by rw [← HF.out]; exact Fr.fr0_need
  rw [hs7] at hN7
  obtain ⟨rfl, hD7⟩ := hN7
  have B7 := Lib.hid (B6.out.trans (hst7.below FR6.out B6.out.size))
  have D7 := Lib.hid hD7
  have HGL6 := Lib.hid hgl6
  have hpl : (Fr.D.live (F0.take 11)).pend = 11 := by simp only [Fr.D.pend, List.length_take, HLEN.out]; rfl
  have HPL := Lib.hid hpl
  clear hst7 hD7 hs7 hgl6 hpl
  go_wp2_with fail
  have hb8 : Below w7.heap.size w7 (w7.alloc (.cells #[.int .i64 0, .slice none 0 0] 32)) := (Below.refl _ _).alloc (Nat.le_refl _) _
  generalize w7.alloc (.cells #[.int .i64 0, .slice none 0 0] 32) = w8 at *
  have B8 := Lib.hid (B7.out.trans (hb8.mono B7.out.size))
  have D8 := Lib.hid (D7.out.grow hb8)
  clear hb8 D7
  refine (pend_any D8.out (by rw [HPL.out]; decide)).mono ?_
  rintro e w9 ⟨rfl, n9, rfl⟩
  rw [HPL.out]
  have B9 : Hid (Below w4.heap.size w4 (w8.drewN n9)) := Lib.hid (below_drewN2 B8.out n9)
  have D9 : Hid (DecAt (w8.drewN n9) bD F6 (.live (F0.take 11))) := Lib.hid (D8.out.same (fun _ _ => rfl) (Nat.le_refl _))
  generalize w8.drewN n9 = w9 at *
  have j1 : ¬ c = 11 := by have := HC12.out; omega
  go_wp2_with fail
  have V9 : BV w9 (fun k => k < w4.heap.size) (.slice (some ⟨g, 11, none⟩) 1 (c - 11)) (F0.drop 11) := by
    have := (V4.out.same (w' := w9) (fun k hk => B9.out.block k hk)).subAt (lo := 11) (k := 1) HLEN.out (by omega)
    rwa [List.take_of_length_le (by rw [List.length_drop, HLEN.out]; decide), Nat.zero_add] at this
  refine (feed_any D9.out V9 (by rw [HPL.out, List.length_drop, HLEN.out]; decide)).mono ?_
  rintro e w10 ⟨rfl, hst10, hD10⟩
  have B10 := Lib.hid (B9.out.trans (hst10.below FR6.out B9.out.size))
  have FR10 := Lib.hid (Plus.froms (w := w9) (w' := w10) FR6.out B9.out.size)
  have hD10' : DecAt w10 bD (Plus F6 w9 w10) (.live F0) := by
    have e : (Fr.D.live (F0.take 11)).feed (F0.drop 11) = .live F0 := by show Fr.D.live (F0.take 11 ++ F0.drop 11) = _; rw [List.take_append_drop]
    rw [e] at hD10; exact hD10
  generalize Plus F6 w9 w10 = F10 at *
  have D10 := Lib.hid hD10'
  clear hst10 hD10 hD10' V9
  go_wp2_with fail
  have hgl10 : From (1 + 1) F10 := fun k hk => by have := FR10.out k hk; have := HG.out.lt; omega
  refine (next_live D10.out (G4.out.below B10.out G4.out.lt) hgl10 (by rw [HLEN.out]; omega)).mono ?_
  rintro e w11 ⟨hst11, hN11⟩
  unfold NextPost at hN11
  have hs11 : Fr.step F0 = .msg 7 [97, 98] [] := by rw [← HF.out]; exact Fr.fr0_step
  rw [hs11] at hN11
  obtain ⟨bv, rfl, hbv, hD11⟩ := hN11
  obtain ⟨xa, xc, rfl, _⟩ := hbv.get
  have B11 := Lib.hid (B10.out.trans (hst11.below FR10.out B10.out.size))
  have D11 := Lib.hid hD11
  have V11 := Lib.hid hbv
  rw [show ([97, 98] : List UInt8).length = 2 from rfl] at V11 ⊢
  rw [show (((7 : UInt8).toNat : Nat) : Int) = 7 from rfl]
  unfold msgV
  clear hst11 hD11 hs11 hbv hgl10
  have P11 := P4.out.of_same (B11.out.block _ P4.out.lt)
  have p0 := (P11.alloc (.cells #[.int .i64 7, .slice xa 2 xc] 32)).cell (i := 0) rfl
  have p1 := (P11.alloc (.cells #[.int .i64 7, .slice xa 2 xc] 32)).cell (i := 1) rfl
  have HP11 := Lib.hid P11
  clear P11
  go_wp2_with fail
  obtain ⟨s0, hs0⟩ : ∃ s0, (Value.slice (some ⟨w.heap.size, 0, none⟩) 2 2) = s0 := ⟨_, rfl⟩
  have hM13 : MsV ((w11.alloc (.cells #[.int .i64 7, .slice xa 2 xc] 32)).alloc (.cells #[.int .i64 7, .slice (some ⟨w.heap.size, 0, none⟩) 2 2, .int .i64 7, .slice (some ⟨w.heap.size, 0, none⟩) 2 2, .int .i64 7, .slice (some ⟨w.heap.size, 0, none⟩) 2 2] 32)) (fun _ => True) (.slice (some ⟨w11.heap.size + 1, 0, none⟩) 3 3) [(7, [97, 98]), (7, [97, 98]), (7, [97, 98])] := by
    have hX11 := X4.out.same (w' := w11) (fun k hk => B11.out.block k (by have := HS1.out; have := P4.out.lt; omega))
    have hblk := Blk.newAt (k := w11.heap.size + 1) (w11.alloc (.cells #[.int .i64 7, .slice xa 2 xc] 32)) [.int .i64 7, .slice (some ⟨w.heap.size, 0, none⟩) 2 2, .int .i64 7, .slice (some ⟨w.heap.size, 0, none⟩) 2 2, .int .i64 7, .slice (some ⟨w.heap.size, 0, none⟩) 2 2] 32 (by simp)
    have hXX := ((hX11.alloc (.cells #[.int .i64 7, .slice xa 2 xc] 32)).alloc (.cells #[.int .i64 7, .slice (some ⟨w.heap.size, 0, none⟩) 2 2, .int .i64 7, .slice (some ⟨w.heap.size, 0, none⟩) 2 2, .int .i64 7, .slice (some ⟨w.heap.size, 0, none⟩) 2 2] 32)).mono (G := fun _ => True) (fun _ _ => trivial)
    refine ⟨_, 3, rfl, Nat.le_refl _, by unfold maxLen; omega, (fun e => by cases e), fun _ => ⟨_, 0, rfl, trivial, fun i hi => ?_⟩⟩
    match i, hi with
    | 0, _ => exact ⟨_, hblk.cell rfl, hblk.cell rfl, hXX⟩
    | 1, _ => exact ⟨_, hblk.cell rfl, hblk.cell rfl, hXX⟩
    | 2, _ => exact ⟨_, hblk.cell rfl, hblk.cell rfl, hXX⟩
    | i + 3, h => exact absurd h (by simp)
  have hb13 : Below w11.heap.size w11 ((w11.alloc (.cells #[.int .i64 7, .slice xa 2 xc] 32)).alloc (.cells #[.int .i64 7, .slice (some ⟨w.heap.size, 0, none⟩) 2 2, .int .i64 7, .slice (some ⟨w.heap.size, 0, none⟩) 2 2, .int .i64 7, .slice (some ⟨w.heap.size, 0, none⟩) 2 2] 32)) := ((Below.refl _ _).alloc (Nat.le_refl _) _).alloc (by simp) _
  have hQ13 : Blk ((w11.alloc (.cells #[.int .i64 7, .slice xa 2 xc] 32)).alloc (.cells #[.int .i64 7, .slice (some ⟨w.heap.size, 0, none⟩) 2 2, .int .i64 7, .slice (some ⟨w.heap.size, 0, none⟩) 2 2, .int .i64 7, .slice (some ⟨w.heap.size, 0, none⟩) 2 2] 32)) w11.heap.size [.int .i64 7, .slice xa 2 xc] 32 := (Blk.new w11 [.int .i64 7, .slice xa 2 xc] _).alloc _
  clear p0 p1
  generalize ((w11.alloc (.cells #[.int .i64 7, .slice xa 2 xc] 32)).alloc (.cells #[.int .i64 7, .slice (some ⟨w.heap.size, 0, none⟩) 2 2, .int .i64 7, .slice (some ⟨w.heap.size, 0, none⟩) 2 2, .int .i64 7, .slice (some ⟨w.heap.size, 0, none⟩) 2 2] 32)) = w13 at *
  refine (fit_any hM13 30 (by decide)).mono ?_
  rintro e w14 ⟨rfl, hb14⟩
  have hfv : FitV [(7, [97, 98]), (7, [97, 98]), (7, [97, 98])] 30 = .tuple #[.int .i64 2, .int .i64 0] := by
    unfold FitV
    rw [if_neg (by simp), if_neg (by simp), show ((30 : Int).toNat) = 30 from rfl, Fr.fit_3]
    rfl
  rw [hfv]
  have hb1114 : Below w11.heap.size w11 w14 := hb13.trans (hb14.mono hb13.size)
  have B14 := Lib.hid (B11.out.trans (hb1114.mono B11.out.size))
  have D14 := Lib.hid (D11.out.grow hb1114)
  have V14 := Lib.hid (V11.out.grow hb1114)
  have Q14 := hQ13.of_same (hb14.block _ hQ13.lt)
  have P14 := HP11.out.of_same (hb1114.block _ HP11.out.lt)
  have X14 := Lib.hid (X4.out.same (w' := w14) (fun k hk => B14.out.block k (by have := HS1.out; have := P4.out.lt; omega)))
  have p0 := P14.cell (i := 0) rfl
  have p1 := P14.cell (i := 1) rfl
  have q0 := Q14.cell (i := 0) rfl
  have q1 := Q14.cell (i := 1) rfl
  clear hfv hb1114 hb13 hb14 hQ13 hM13 Q14 P14 hs0
  go_wp2_with fail
  refine (msame_is V14.out X14.out).mono ?_
  rintro e w15 ⟨rfl, hb15⟩
  have B15 := Lib.hid (B14.out.trans (hb15.mono B14.out.size))
  have D15 := Lib.hid (D14.out.grow hb15)
  clear hb15 p0 p1 q0 q1
  go_wp2_with fail
  refine (pend_any D15.out (by decide)).mono ?_
  rintro e w16 ⟨rfl, n16, rfl⟩
  have B16 := Lib.hid (B4.out.trans ((below_drewN2 B15.out n16).mono hlt4))
  go_wp2_with fail
  go_ret
  exact ⟨rfl, B16.out⟩
end Go.Proofs.YtggiinfeiilogaaDoor
