/- The walk of FrameSticks. -/
import Derived.Test.YthanbihdkjmeoaaDoorFrA
namespace Go.Proofs.YthanbihdkjmeoaaDoor
open Go.RowKit
theorem Fr.Drains.pend_le {l : List UInt8} {ms : List Fr.Msg} {d : Fr.D} (h : Fr.Drains l ms d) : d.pend ≤ l.length := by
  induction h with
  | need h => exact Nat.le_refl _
  | bad h => exact Nat.le_refl _
  | msg h t ih => have := Fr.step_shrinks h; omega
/-- A dead decoder, all of it new. -/
def DeadR (w : World) (b m : Nat) (wr : World) : Prop := Below w.heap.size w wr ∧ ∃ F, From w.heap.size F ∧ DecAt wr b F (.dead m)
theorem DeadR.feed {w wr w' : World} {b m : Nat} {F : Nat → Prop} {x : List UInt8} (hb : Below w.heap.size w wr) (hF : From w.heap.size F) (hs : Stp F wr w') (hD : DecAt w' b (Plus F wr w') ((Fr.D.dead m).feed x)) : DeadR w b (m + x.length) w' :=
  ⟨hb.trans (hs.below hF hb.size), _, Plus.froms hF hb.size, hD⟩
theorem DeadR.grow {w wr w' : World} {b m : Nat} (h : DeadR w b m wr) (hb : Below wr.heap.size wr w') : DeadR w b m w' := by
  obtain ⟨h1, F, h2, h3⟩ := h
  exact ⟨h1.trans (hb.mono h1.size), F, h2, h3.grow hb⟩
set_option maxRecDepth 100000 in
set_option maxHeartbeats 4000000 in
theorem frameSticks_walk (w : World) (hg : Glob w) (fv : Value) (f : List UInt8) (hf : BV w (fun k => k < w.heap.size) fv f) (mv : Value) (L : List (List UInt8)) (hm : LV w (fun k => k < w.heap.size) mv L) :
    Calls Tryd.prog 9 #[fv, mv] w fun e w' => e = .returned (.bool true) ∧ Below w.heap.size w w' := by
  obtain ⟨fa, fc, rfl, fc1, fc2, _⟩ := hf.get
  obtain ⟨ma, mc, rfl, mc1, mc2, _⟩ := hm.get
  unfold maxLen at fc2 mc2
  have HG := Lib.hid hg
  have HFV := Lib.hid hf
  have HM := Lib.hid hm
  clear hg hf hm
  by_cases h1 : 400 < f.length
  · have i1 : (400 : Int) < (f.length : Int) := by omega
    go_enter Tryd.func9, Tryd.ntmps9
    go_wp2_with fail
    refine (awake37_any w HG.out).mono ?_
    rintro e w1 ⟨rfl, hb1⟩
    have B1 := Lib.hid hb1; clear hb1
    go_wp2_with fail
    go_ret
    exact ⟨rfl, B1.out⟩
  have i1 : (f.length : Int) ≤ 400 := by omega
  by_cases h2 : 12 < L.length
  · have i2 : (12 : Int) < (L.length : Int) := by omega
    go_enter Tryd.func9, Tryd.ntmps9
    go_wp2_with fail
    refine (awake37_any w HG.out).mono ?_
    rintro e w1 ⟨rfl, hb1⟩
    have B1 := Lib.hid hb1; clear hb1
    go_wp2_with fail
    go_ret
    exact ⟨rfl, B1.out⟩
  have i2 : (L.length : Int) ≤ 12 := by omega
  clear h1 h2
  go_enter Tryd.func9, Tryd.ntmps9
  go_wp2_with fail
  refine (awake37_any w HG.out).mono ?_
  rintro e w1 ⟨rfl, hb1⟩
  have B1 := Lib.hid hb1; clear hb1
  go_wp2_with fail
  refine (newdec_any w1).mono ?_
  rintro e w2 ⟨rfl, hb2, hD2⟩
  have hF2 : From w.heap.size (fun k => w1.heap.size ≤ k ∧ k < w2.heap.size) := fun k hk => Nat.le_trans B1.out.size hk.1
  have hwb := B1.out.size
  generalize (fun k => w1.heap.size ≤ k ∧ k < w2.heap.size) = F2 at *
  generalize w1.heap.size = b at *
  have B2 := Lib.hid (B1.out.trans (hb2.mono hwb))
  have D2 := Lib.hid hD2
  have FR2 := Lib.hid hF2
  clear hb2 hD2 hF2 B1
  go_wp2_with fail
  refine (feed_any D2.out (HFV.out.same (w' := w2) (fun k hk => B2.out.block k hk)) (by simp only [Fr.D.pend, List.length_nil]; omega)).mono ?_
  rintro e w3 ⟨rfl, hst3, hD3⟩
  have B3 := Lib.hid (B2.out.trans (hst3.below FR2.out B2.out.size))
  have FR3 := Lib.hid (Plus.froms (w := w2) (w' := w3) FR2.out B2.out.size)
  have hD3' : DecAt w3 b (Plus F2 w2 w3) (.live f) := hD3
  generalize Plus F2 w2 w3 = F3 at *
  have D3 := Lib.hid hD3'
  clear hst3 hD3 hD3' D2 FR2
  go_wp2_with fail
  refine (drained_any D3.out (HG.out.below B3.out HG.out.lt) (fun k hk => by have := FR3.out k hk; have := HG.out.lt; omega) (by omega)).mono ?_
  rintro e w4 ⟨ms, d, sv, er, rfl, hdr, hst4, hD4, hM4, _, her⟩
  have B4 := Lib.hid (B3.out.trans (hst4.below FR3.out B3.out.size))
  rcases her with ⟨rfl, _⟩ | ⟨rfl, n, rfl⟩
  · clear hdr hst4 hD4 hM4
    go_wp2_with fail
    go_ret
    exact ⟨rfl, B4.out⟩
  have hpl : n ≤ f.length := hdr.pend_le
  have HPL := Lib.hid hpl
  have R4 : Hid (DeadR w b n w4) := Lib.hid ⟨B4.out, F3, FR3.out, hD4⟩
  have D4 := Lib.hid hD4
  clear hdr hst4 hD4 hM4 hpl D3
  go_wp2_with fail
  refine (pend_any D4.out (by have := HPL.out; simp only [Fr.D.pend]; omega)).mono ?_
  rintro e w5 ⟨rfl, q, rfl⟩
  have R5 : Hid (DeadR w b n (w4.drewN q)) := Lib.hid (R4.out.grow ((below_drewN2 (Below.refl _ _) q)))
  generalize w4.drewN q = w5 at *
  simp only [Fr.D.pend]
  clear D4 R4
  go_wp2_with fail
  go_loopw [8, 9] (fun s8 s9 wr => ∃ (i m : Nat), i ≤ L.length ∧ s9 = .int .i64 (i : Int) ∧ s8 = .int .i64 (m : Int) ∧ m ≤ 400 + 400 * i ∧ DeadR w b m wr) (fun _ s9 _ => L.length - (intOf s9).toNat)
  case atStart => exact ⟨0, n, by omega, rfl, rfl, by have := HPL.out; omega, R5.out⟩
  case round =>
    obtain ⟨i, m, hi, rfl, rfl, hm, hR⟩ := hrel
    clear R5
    have HR := Lib.hid hR
    have HMM := Lib.hid hm
    have hLX := LV.same HM.out (fun x hx => hR.1.block x hx)
    clear hR hm
    by_cases hlt : i < L.length
    · have it : (i : Int) < (L.length : Int) := by omega
      obtain ⟨_, _, e1, _, _, hget⟩ := hLX.get
      obtain ⟨rfl, rfl⟩ : _ ∧ _ := by simpa using e1
      obtain ⟨pb, po, pv, rfl, hpb, pc, hpv⟩ := hget i hlt
      obtain ⟨x, hx⟩ : ∃ x, L[i] = x := ⟨_, rfl⟩
      rw [hx] at hpv
      obtain ⟨da, dc, rfl, dc1, dc2, _⟩ := hpv.get
      unfold maxLen at dc2
      have HPV := Lib.hid hpv
      have HPC := Lib.hid pc
      have HPB := Lib.hid hpb
      clear hget e1 hx hpv hLX hpb
      by_cases h400 : 400 < x.length
      · have i3 : (400 : Int) < (x.length : Int) := by omega
        go_wp2_with fail
        go_ret
        exact ⟨rfl, HR.out.1⟩
      have i3 : (x.length : Int) ≤ 400 := by omega
      have im : (m : Int) ≤ 100000 := by have := HMM.out; omega
      obtain ⟨hb, F, hF, hD⟩ := id HR.out
      have HB := Lib.hid hb
      have HF := Lib.hid hF
      have HD := Lib.hid hD
      clear hb hF hD
      go_wp2_with fail
      refine (feed_any HD.out HPV.out (by simp only [Fr.D.pend]; omega)).mono ?_
      rintro e w6 ⟨rfl, hst6, hD6⟩
      have R6 := Lib.hid (DeadR.feed HB.out HF.out hst6 hD6)
      have c6 : w6.cell? ⟨pb, po + i, none⟩ = some (.slice da x.length dc) := (R6.out.1.cell (p := ⟨pb, po + i, none⟩) HPB.out).trans ((HB.out.cell (p := ⟨pb, po + i, none⟩) HPB.out).symm.trans HPC.out)
      clear hst6 hD6 pc
      go_wp2_with fail
      obtain ⟨hb, F', hF, hD⟩ := id R6.out
      refine (next_dead hD).mono ?_
      rintro e w7 ⟨rfl, hb7⟩
      have R7 := Lib.hid (R6.out.grow hb7)
      clear hb hF hD hb7 c6
      go_wp2_with fail
      have R8 : Hid (DeadR w b (m + x.length) (w7.alloc (.cells #[.int .i64 0, .slice none 0 0] 24))) := Lib.hid (R7.out.grow ((Below.refl _ _).alloc (Nat.le_refl _) _))
      generalize w7.alloc (.cells #[.int .i64 0, .slice none 0 0] 24) = w8 at *
      refine (msame_is (k := 0) (BV.nil w8 (fun _ => False)) (BV.nil w8 (fun _ => False))).mono ?_
      rintro e w9 ⟨rfl, hb9⟩
      have R9 := Lib.hid (R8.out.grow hb9)
      clear hb9
      go_wp2_with fail
      obtain ⟨hb, F', hF, hD⟩ := id R9.out
      refine (pend_any hD (by simp only [Fr.D.pend]; omega)).mono ?_
      rintro e w10 ⟨rfl, q, rfl⟩
      have R10 : Hid (DeadR w b (m + x.length) (w9.drewN q)) := Lib.hid (R9.out.grow ((below_drewN2 (Below.refl _ _) q)))
      generalize w9.drewN q = w10 at *
      simp only [Fr.D.pend]
      clear hb hF hD
      have icast : ((m + x.length : Nat) : Int) = (m : Int) + (x.length : Int) := by omega
      rw [icast]
      go_wp2_with fail
      go_roundw
      case rel => exact ⟨i + 1, m + x.length, by omega, by go_num, by rw [icast], by have := HMM.out; omega, R10.out⟩
      case measure => simp [intOf]; omega
    · have ige : ¬ (i : Int) < (L.length : Int) := by omega
      clear hLX
      go_wp2_with fail
      go_ret
      exact ⟨rfl, HR.out.1⟩
end Go.Proofs.YthanbihdkjmeoaaDoor
