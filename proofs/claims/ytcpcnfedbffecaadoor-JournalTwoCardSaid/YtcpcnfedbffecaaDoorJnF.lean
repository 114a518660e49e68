/- Contracts of the journal's Append and Reset. -/
import Derived.Test.YtcpcnfedbffecaaDoorJnE
namespace Go.Proofs.YtcpcnfedbffecaaDoor
open Go.RowKit Go.Maps
set_option linter.unusedSimpArgs false
def JSt.resFits (t : JSt) (size : Nat) (x : List UInt8) : Prop := Jn.need size (Jn.flen [x]) ≤ t.room
instance (t : JSt) (size : Nat) (x : List UInt8) : Decidable (t.resFits size x) := by unfold JSt.resFits; infer_instance
def JSt.reset (t : JSt) (size : Nat) (x : List UInt8) : JSt :=
  if t.resFits size x then { t with epoch := t.epoch + 1, used := Jn.need size (Jn.flen [x]), recs := [x], last := Sha.sum (z32 ++ Jn.body (t.epoch + 1) [x]) } else t
def JSt.resErr (t : JSt) (size : Nat) (x : List UInt8) : Int := if t.resFits size x then 0 else 7
def JSt.other (t : JSt) : Nat := if t.epoch % 2 = 0 then t.f1 else t.f0
def JSt.resImg (t : JSt) (size : Nat) (x : List UInt8) (f : Nat → List UInt8) : Nat → List UInt8 :=
  if t.resFits size x then Jn.put f t.other size (Jn.data z32 (t.epoch + 1) [x]) else f
section
variable {w w' : World} {F G FJ FD FX : Nat → Prop} {t : JSt} {s : DSt} {b bd : Nat} {l : List (List UInt8)} {xv : Value} {x : List UInt8}
theorem LV.one (hx : BV w FX xv x) : LV (w.alloc (.cells #[xv] 39)) (fun k => FX k ∨ k = w.heap.size) (.slice (some ⟨w.heap.size, 0, none⟩) 1 1) [x] := by
  refine ⟨_, 1, rfl, by simp, by unfold maxLen; omega, (fun e => by cases e), fun _ => ⟨w.heap.size, 0, rfl, .inr rfl, fun i hi => ?_⟩⟩
  have h0 : i = 0 := by simp at hi; omega
  subst h0
  exact ⟨xv, (Blk.new w [xv] 39).cell rfl, (hx.alloc _).mono (fun _ h => .inl h)⟩
set_option maxRecDepth 100000 in
set_option maxHeartbeats 2000000 in
theorem append_any (h : JAt w t b bd FJ) (hD : DiskAt w s bd FD) (hc : s.Calm) (hpn : s.pend.length ≤ 1000) (hdj : Dj FD FJ) (hg : Glob w) (ok : t.Ok s.dur.length)
    (hx : BV w FX xv x) (hXI : Inn FX w) (hXD : Dj FX FD) (hXJ : Dj FX FJ) (hfl : x.length ≤ 100000) :
    Calls Tryd.prog 12 #[.pointer (some ⟨b, 0, none⟩), xv] w (JP w b bd FJ FD (t.appErr s.size [x]) (t.app s.size [x]) s (t.appImg s.size [x] s.look)) := by
  obtain ⟨xa, xc, rfl, xc1, xc2, -⟩ := hx.get
  have hb1 : Below w.heap.size w (w.alloc (.cells #[.slice xa x.length xc] 39)) := (Below.refl _ _).alloc (Nat.le_refl _) _
  have VA := appendall_any (h.below hb1) (hD.below hb1) hc hpn hdj (hg.below hb1 hg.lt) ok (LV.one hx) (fun k hk => by
    rcases hk with hk | hk
    · have := hXI k hk; simp; omega
    · subst hk; simp) (fun k hk hf => by
    rcases hk with hk | hk
    · exact hXD k hk hf
    · have := hD.inn k hf; omega) (fun k hk hf => by
    rcases hk with hk | hk
    · exact hXJ k hk hf
    · have := h.1 k hf; omega) (by simp) (by simp [Jn.flen, Jn.recs]; omega)
  have HVA := Lib.hid (VA.mono fun e w' q => JP.back q hb1)
  clear VA h hD hc hdj hg ok hx hXI hXD hXJ
  go_enter Tryd.func12, Tryd.ntmps12
  go_wp2_with (go_at_call 21; refine (HVA.out).mono ?_; rintro e w' q; obtain ⟨rfl, q2⟩ := q)
  go_ret
  exact ⟨rfl, q2⟩
/-- The fourteen cells, written out. -/
theorem JSt.even {rv : Value} (h : t.epoch % 2 = 0) : t.pre bd ++ hcells t.first t.epoch t.used rv t.last ++ t.post = [.pointer (some ⟨bd, 0, none⟩), .int .i64 (t.room : Int), .int .i64 (t.f0 : Int), .int .i64 (t.epoch : Int), .int .i64 (t.used : Int), rv, Str t.last, .int .i64 (t.f1 : Int), .int .i64 0, .int .i64 0, .slice none 0 0, Str z32, .int .i64 (t.epoch : Int), .bool false] := by
  simp [JSt.pre, JSt.post, JSt.first, hcells, h]
theorem JSt.odd {rv : Value} (h : t.epoch % 2 = 1) : t.pre bd ++ hcells t.first t.epoch t.used rv t.last ++ t.post = [.pointer (some ⟨bd, 0, none⟩), .int .i64 (t.room : Int), .int .i64 (t.f0 : Int), .int .i64 0, .int .i64 0, .slice none 0 0, Str z32, .int .i64 (t.f1 : Int), .int .i64 (t.epoch : Int), .int .i64 (t.used : Int), rv, Str t.last, .int .i64 (t.epoch : Int), .bool false] := by
  simp [JSt.pre, JSt.post, JSt.first, hcells, h]
set_option maxRecDepth 100000 in
set_option maxHeartbeats 4000000 in
theorem reset_yes (h : JAt w t b bd FJ) (hD : DiskAt w s bd FD) (hc : s.Calm) (hpn : s.pend.length ≤ 1000) (hdj : Dj FD FJ) (hg : Glob w) (ok : t.Ok s.dur.length)
    (hx : BV w FX xv x) (hXI : Inn FX w) (hXD : Dj FX FD) (hXJ : Dj FX FJ) (hfl : x.length ≤ 100000) (hev : t.epoch % 2 = 0) (hfit : t.resFits s.size x) :
    Calls Tryd.prog 22 #[.pointer (some ⟨b, 0, none⟩), xv] w (JP w b bd FJ FD 0 (t.reset s.size x) s (Jn.put s.look t.f1 s.size (Jn.data z32 (t.epoch + 1) [x]))) := by
  obtain ⟨xa, xc, rfl, xc1, xc2, -⟩ := hx.get
  unfold maxLen at xc2
  have hss1 := hD.ok.size1
  have hnn2 := hD.ok.n2
  have hb1 : Below w.heap.size w (w.alloc (.cells #[.slice xa x.length xc] 39)) := (Below.refl _ _).alloc (Nat.le_refl _) _
  have HA := Lib.hid (available_any h hD hc.on)
  have HLV := Lib.hid (LV.one hx)
  obtain ⟨w1, hw1⟩ : ∃ w1, w.alloc (.cells #[.slice xa x.length xc] 39) = w1 := ⟨_, rfl⟩
  rw [hw1] at hb1 HLV
  have hflb : Jn.flen [x] ≤ 1000000 := by simp [Jn.flen, Jn.recs]; omega
  obtain ⟨rv, hB, hR⟩ := (h.below hb1).rep
  rw [JSt.even hev] at hB
  have V := Lib.hid (fun n => jneed_any (w := w1.drewN n) (b := b) (bd := bd) (s := s) (G := FD) (hB.cell (i := 0) rfl) (hD.below (hb1.trans ((below_drewN w1 n).mono hb1.size))) (HLV.out.grow (below_drewN w1 n)) (by omega) (by simp))
  obtain ⟨nd, hnd⟩ : ∃ nd, Jn.need s.size (Jn.flen [x]) = nd := ⟨_, rfl⟩
  rw [hnd] at V
  have HND := Lib.hid hnd
  unfold JSt.resFits at hfit
  rw [hnd] at hfit
  have HOK := Lib.hid ok
  have hrm := ok.room
  have hep := ok.epoch
  have HJ := Lib.hid (h.below hb1)
  have HD := Lib.hid (hD.below hb1)
  have HCA := Lib.hid hc
  have HDJ := Lib.hid hdj
  have HG := Lib.hid (hg.below hb1 hg.lt)
  have HXI := Lib.hid hXI
  have HXD := Lib.hid hXD
  have HXJ := Lib.hid hXJ
  have HB1 := Lib.hid hb1
  have HDI0 : Hid (∀ k, FD k → k < w.heap.size) := Lib.hid hD.inn
  have HSW : Hid (w.heap.size < w1.heap.size) := Lib.hid (by rw [← hw1]; simp)
  have HBX := Lib.hid hB
  have HRX := Lib.hid hR
  have hbw := hB.lt
  have c1 := hB.cell (i := 1) rfl
  clear h hD hc hdj hg ok hx hXI hXD hXJ hb1 hB hR hnd
  go_enter Tryd.func22, Tryd.ntmps22
  go_wp2_with (go_at_call 33; refine (HA.out).mono ?_; rintro e w' ⟨rfl, rfl⟩)
  clear HA hw1
  go_quiet (first | (go_at_call 34; refine quiet_drewn (V.out _)))
  have hb2 : Below w.heap.size w (w1.drewN nq) := HB1.out.trans ((below_drewN w1 nq).mono HB1.out.size)
  have HJ2 := Lib.hid (HJ.out.below (below_drewN w1 nq))
  have HD2 := Lib.hid (HD.out.below (below_drewN w1 nq))
  have HG2 := Lib.hid (HG.out.below (below_drewN w1 nq) HG.out.lt)
  have HLV2 := Lib.hid (HLV.out.grow (below_drewN w1 nq))
  have hbb := (below_drewN w1 nq).size
  obtain ⟨w2, hw2⟩ : ∃ w2, w1.drewN nq = w2 := ⟨_, rfl⟩
  rw [hw2] at hb2 HJ2 HD2 HG2 HLV2 hbb ⊢
  have HB2 := Lib.hid hb2
  have hcur := current_any HJ2.out (by omega)
  rw [JSt.pre_length, hev] at hcur
  have HC2 := Lib.hid hcur
  have hB2 := HBX.out.of_same ((below_drewN w1 nq).block b HBX.out.lt)
  rw [hw2] at hB2
  have HBX2 := Lib.hid hB2
  have q7 := hB2.cell (i := 7) rfl
  have q2 := hB2.cell (i := 2) rfl
  have q12 := hB2.cell (i := 12) rfl
  have HR2 := Lib.hid (HRX.out.same (fun k hk => (below_drewN w1 nq).block k (by have := HJ2.out.1 k hk; rw [← hw2] at this; exact this)))
  rw [hw2] at HR2
  obtain ⟨ep, hepq⟩ : ∃ ep, t.epoch + 1 = ep := ⟨_, rfl⟩
  have iep : (t.epoch : Int) + 1 = (ep : Int) := by omega
  have itm : ((ep : Int)).tmod 2 = 1 := by rw [Int.tmod_eq_emod_of_nonneg (by omega)]; omega
  have HEP := Lib.hid hepq
  clear hB2 hcur HBX HRX hepq
  clear V hw2 hb2 HJ HD HG HLV c1
  go_wp2_with (go_at_call 27; refine (HC2.out).mono ?_; rintro e w' ⟨rfl, k2, rfl⟩)
  obtain ⟨zs, eZ⟩ : ∃ zs : ByteArray, Str z32 = .string zs := ⟨_, rfl⟩
  refine (newhalf_any t.f1 ep (w2.drewN k2)).mono ?_
  rintro e w3 ⟨rfl, hb3⟩
  rw [eZ]
  have b23 : Below w2.heap.size w2 w3 := (below_drewN w2 k2).trans hb3
  have B23 := Lib.hid b23
  clear hb3 q2 q7 q12 HC2
  go_wp2_with fail
  have hb4 : Below w3.heap.size w3 (w3.alloc (.cells #[.int .i64 (t.f1 : Int), .int .i64 (ep : Int), .int .i64 0, .slice none 0 0, .string zs] 54)) := (Below.refl _ _).alloc (Nat.le_refl _) _
  have hbk := Blk.new w3 [.int .i64 (t.f1 : Int), .int .i64 (ep : Int), .int .i64 0, .slice none 0 0, .string zs] 54
  obtain ⟨w4, hw4⟩ : ∃ w4, w3.alloc (.cells #[.int .i64 (t.f1 : Int), .int .i64 (ep : Int), .int .i64 0, .slice none 0 0, .string zs] 54) = w4 := ⟨_, rfl⟩
  rw [hw4] at hb4 hbk ⊢
  obtain ⟨hb, hhb⟩ : ∃ hb, w3.heap.size = hb := ⟨_, rfl⟩
  have b24 : Below w2.heap.size w2 w4 := B23.out.trans (hb4.mono B23.out.size)
  have hge : w2.heap.size ≤ hb := by rw [← hhb]; exact B23.out.size
  rw [hhb] at hbk ⊢
  have hHA : HalfAt w4 (· = hb) hb [] [] 54 t.f1 ep 0 [] z32 := by
    refine ⟨fun k hk => by subst hk; exact hbk.lt, rfl, by decide, by decide, .slice none 0 0, ?_, RecsV.nil⟩
    rw [List.nil_append, List.append_nil]
    unfold hcells
    rw [eZ]
    exact hbk
  have hX4 := HLV2.out.grow b24
  have hI2 := HJ2.out.1
  have hDI := HD2.out.inn
  have hw1s := HB1.out.size
  have hw2s := HB2.out.size
  have VA := add_any (FJ := (· = hb)) (FD := FD) (FX := fun k => FX k ∨ k = w.heap.size) (b := b) (bd := bd) (s := s) hHA rfl ((b24.cell (p := ⟨b, 0, none⟩) HBX2.out.lt).trans (HBX2.out.cell (i := 0) rfl)) (fun hf => HDJ.out b hf HJ2.out.2.1) (HD2.out.below b24) HCA.out hpn (fun k hf hk => by have := hDI k hf; omega) (HG2.out.below b24 HG2.out.lt) hX4 (fun k hk => by
      have := b24.size
      rcases hk with hk | hk
      · have := HXI.out k hk; omega
      · have := HSW.out; omega) (fun k hk hf => by
      rcases hk with hk | hk
      · exact HXD.out k hk hf
      · exact absurd hk (by have := HDI0.out k hf; omega)) (fun k hk hf => by
      have hf' : k = hb := hf
      rcases hk with hk | hk
      · have := HXI.out k hk; omega
      · have := HSW.out; omega) (by simp) hflb (by omega) (by simp [z32]) (by have h1 := HOK.out.r1; rw [HND.out]; omega) (by simp)
  have HVA := Lib.hid VA
  have HB24 := Lib.hid b24
  have HHI : Hid (w2.heap.size ≤ hb ∧ hb < w4.heap.size) := Lib.hid ⟨hge, hbk.lt⟩
  clear VA hHA hX4 hI2 hDI hw1s hw2s b23 b24 hb4 hbk hw4 hge hbb
  go_wp2_with (go_at_call 35; refine (HVA.out).mono ?_; rintro e w5 ⟨rfl, hs5, FJ5, FD5, s5, g1, g2, g3, g4, g5, g6, gI, gF, -, -, rv5, gB, gR⟩)
  rw [HND.out, Nat.zero_add, List.nil_append, List.append_nil] at gB
  unfold hcells at gB
  obtain ⟨sm, eSM⟩ : ∃ sm : ByteArray, Str (Sha.sum (z32 ++ Jn.body ep [x])) = .string sm := ⟨_, rfl⟩
  rw [eSM] at gB
  have hB5 := HBX2.out.of_same ((hs5.keep b (by have := HBX2.out.lt; have := HB24.out.size; omega) (fun hf => by
    rcases hf with hf | hf
    · have := HBX2.out.lt; have := HHI.out.1; omega
    · exact HDJ.out b hf HJ2.out.2.1)).trans (HB24.out.block b HBX2.out.lt))
  have hne : hb ≠ b := by have := HBX2.out.lt; have := HHI.out.1; omega
  have HBB5 := Lib.hid hB5
  have HGB := Lib.hid gB
  have HGX := Lib.hid (And.intro hs5 (And.intro g1 (And.intro g2 (And.intro g3 (And.intro g4 (And.intro g5 (And.intro g6 (And.intro gI (And.intro gF gR)))))))))
  obtain ⟨ls, eLS⟩ : ∃ ls : ByteArray, Str t.last = .string ls := ⟨_, rfl⟩
  rw [eLS, eZ] at hB5
  have p0 := gB.cell (i := 0) rfl
  have p1 := gB.cell (i := 1) rfl
  have p2 := gB.cell (i := 2) rfl
  have p3 := gB.cell (i := 3) rfl
  have p4 := gB.cell (i := 4) rfl
  have lb5 := gB.lt
  have q2 := hB5.cell (i := 2) rfl
  have q3 := hB5.cell (i := 3) rfl
  have q4 := hB5.cell (i := 4) rfl
  have q5 := hB5.cell (i := 5) rfl
  have q6 := hB5.cell (i := 6) rfl
  have q7 := hB5.cell (i := 7) rfl
  have q8 := hB5.cell (i := 8) rfl
  have q9 := hB5.cell (i := 9) rfl
  have q10 := hB5.cell (i := 10) rfl
  have q11 := hB5.cell (i := 11) rfl
  have q12 := hB5.cell (i := 12) rfl
  have fb := fun i => hB5.free i
  obtain ⟨rva, rvc, rfl, -⟩ := gR.form
  clear hs5 g1 g2 g3 g4 g5 g6 gI gF gB gR hB5
  go_wp2_with fail
  go_still_tail 7, (by kernel_rfl)
  go_wp2_with fail
  have k6 : Blk ((((((w5.setCell ⟨b, 7, none⟩ (.int .i64 (t.f1 : Int))).setCell ⟨b, 8, none⟩ (.int .i64 (ep : Int))).setCell ⟨b, 9, none⟩ (.int .i64 (nd : Int))).setCell ⟨b, 10, none⟩ (.slice rva 1 rvc)).setCell ⟨b, 11, none⟩ (.string sm)).setCell ⟨b, 12, none⟩ (.int .i64 (ep : Int))).drew b [.pointer (some ⟨bd, 0, none⟩), .int .i64 (t.room : Int), .int .i64 (t.f0 : Int), .int .i64 (t.epoch : Int), .int .i64 (t.used : Int), rv, Str t.last, .int .i64 (t.f1 : Int), .int .i64 (ep : Int), .int .i64 (nd : Int), .slice rva 1 rvc, .string sm, .int .i64 (ep : Int), .bool false] 57 := by
    have h := ((((((HBB5.out.set 7 (.int .i64 (t.f1 : Int))).set 8 (.int .i64 (ep : Int))).set 9 (.int .i64 (nd : Int))).set 10 (.slice rva 1 rvc)).set 11 (.string sm)).set 12 (.int .i64 (ep : Int)))
    simp only [List.set_cons_succ, List.set_cons_zero] at h
    exact h.drew
  have s6 : Stp (fun k => k = b) w5 ((((((w5.setCell ⟨b, 7, none⟩ (.int .i64 (t.f1 : Int))).setCell ⟨b, 8, none⟩ (.int .i64 (ep : Int))).setCell ⟨b, 9, none⟩ (.int .i64 (nd : Int))).setCell ⟨b, 10, none⟩ (.slice rva 1 rvc)).setCell ⟨b, 11, none⟩ (.string sm)).setCell ⟨b, 12, none⟩ (.int .i64 (ep : Int))).drew := (((((((Stp.refl (fun k => k = b) w5).set (a := ⟨b, 7, none⟩) (.inl (.inl rfl)) (.int .i64 (t.f1 : Int))).set (a := ⟨b, 8, none⟩) (.inl (.inl rfl)) (.int .i64 (ep : Int))).set (a := ⟨b, 9, none⟩) (.inl (.inl rfl)) (.int .i64 (nd : Int))).set (a := ⟨b, 10, none⟩) (.inl (.inl rfl)) (.slice rva 1 rvc)).set (a := ⟨b, 11, none⟩) (.inl (.inl rfl)) (.string sm)).set (a := ⟨b, 12, none⟩) (.inl (.inl rfl)) (.int .i64 (ep : Int))).drew
  obtain ⟨w6, hw6⟩ : ∃ w6, ((((((w5.setCell ⟨b, 7, none⟩ (.int .i64 (t.f1 : Int))).setCell ⟨b, 8, none⟩ (.int .i64 (ep : Int))).setCell ⟨b, 9, none⟩ (.int .i64 (nd : Int))).setCell ⟨b, 10, none⟩ (.slice rva 1 rvc)).setCell ⟨b, 11, none⟩ (.string sm)).setCell ⟨b, 12, none⟩ (.int .i64 (ep : Int))).drew = w6 := ⟨_, rfl⟩
  rw [hw6] at k6 s6 ⊢
  refine (newhalf_any t.f0 0 w6).mono ?_
  rintro e w7 ⟨rfl, hb7⟩
  rw [eZ]
  have hB7 := k6.of_same (hb7.block b k6.lt)
  have s7 : Stp (fun k => k = b) w5 w7 := s6.trans' (Stp.of_below _ hb7)
  have HB7 := Lib.hid hB7
  have HS7 := Lib.hid s7
  have r2 := hB7.cell (i := 2) rfl
  have r3 := hB7.cell (i := 3) rfl
  have r4 := hB7.cell (i := 4) rfl
  have r5 := hB7.cell (i := 5) rfl
  have r6 := hB7.cell (i := 6) rfl
  have fr := fun i => hB7.free i
  clear k6 s6 hw6 hb7 hB7 s7 p0 p1 p2 p3 p4 q2 q3 q4 q5 q6 q7 q8 q9 q10 q11 q12 fb
  go_wp2_with fail
  go_ret
  have k8 : Blk (((((w7.setCell ⟨b, 2, none⟩ (.int .i64 (t.f0 : Int))).setCell ⟨b, 3, none⟩ (.int .i64 0)).setCell ⟨b, 4, none⟩ (.int .i64 0)).setCell ⟨b, 5, none⟩ (.slice none 0 0)).setCell ⟨b, 6, none⟩ (.string zs)) b [.pointer (some ⟨bd, 0, none⟩), .int .i64 (t.room : Int), .int .i64 (t.f0 : Int), .int .i64 0, .int .i64 0, .slice none 0 0, .string zs, .int .i64 (t.f1 : Int), .int .i64 (ep : Int), .int .i64 (nd : Int), .slice rva 1 rvc, .string sm, .int .i64 (ep : Int), .bool false] 57 := by
    have h := (((((HB7.out.set 2 (.int .i64 (t.f0 : Int))).set 3 (.int .i64 0)).set 4 (.int .i64 0)).set 5 (.slice none 0 0)).set 6 (.string zs))
    simp only [List.set_cons_succ, List.set_cons_zero] at h
    exact h
  have s8 : Stp (fun k => k = b) w5 (((((w7.setCell ⟨b, 2, none⟩ (.int .i64 (t.f0 : Int))).setCell ⟨b, 3, none⟩ (.int .i64 0)).setCell ⟨b, 4, none⟩ (.int .i64 0)).setCell ⟨b, 5, none⟩ (.slice none 0 0)).setCell ⟨b, 6, none⟩ (.string zs)) := HS7.out.trans' ((((((Stp.refl (fun k => k = b) w7).set (a := ⟨b, 2, none⟩) (.inl (.inl rfl)) (.int .i64 (t.f0 : Int))).set (a := ⟨b, 3, none⟩) (.inl (.inl rfl)) (.int .i64 0)).set (a := ⟨b, 4, none⟩) (.inl (.inl rfl)) (.int .i64 0)).set (a := ⟨b, 5, none⟩) (.inl (.inl rfl)) (.slice none 0 0)).set (a := ⟨b, 6, none⟩) (.inl (.inl rfl)) (.string zs))
  obtain ⟨w8, hw8⟩ : ∃ w8, (((((w7.setCell ⟨b, 2, none⟩ (.int .i64 (t.f0 : Int))).setCell ⟨b, 3, none⟩ (.int .i64 0)).setCell ⟨b, 4, none⟩ (.int .i64 0)).setCell ⟨b, 5, none⟩ (.slice none 0 0)).setCell ⟨b, 6, none⟩ (.string zs)) = w8 := ⟨_, rfl⟩
  rw [hw8] at k8 s8 ⊢
  clear hw8 r2 r3 r4 r5 r6 fr
  obtain ⟨hs5, g1, g2, g3, g4, g5, g6, gI, gF, gR⟩ := HGX.out
  have e1 := HB2.out.size
  have e2 := HB24.out.size
  have e3 := hs5.size
  have e4 := s8.size
  have hbl := HBX2.out.lt
  have hFb := HJ2.out.2.1
  have ev1 : ep % 2 = 1 := by have := HEP.out; omega
  have eres : t.reset s.size x = { t with epoch := ep, used := nd, recs := [x], last := Sha.sum (z32 ++ Jn.body ep [x]) } := by
    have hf : t.resFits s.size x := by unfold JSt.resFits; rw [HND.out]; exact hfit
    unfold JSt.reset
    rw [if_pos hf, HND.out, HEP.out]
  rw [eres]
  have stA : Stp (fun k => FJ k ∨ FD k) w w4 := Stp.of_below _ (HB2.out.trans (HB24.out.mono e1))
  have stB : Stp (Plus (fun k => FJ k ∨ FD k) w w4) w4 w5 := hs5.weaken (fun k hk => by
    rcases hk with hk | hk
    · exact .inr ⟨by have := HHI.out.1; omega, by have := HHI.out.2; omega⟩
    · exact .inl (.inr hk))
  have stC : Stp (Plus (fun k => FJ k ∨ FD k) w w5) w5 w8 := s8.weaken (fun k hk => .inl (.inl (by rw [hk]; exact hFb)))
  have hst := (stA.trans stB).trans stC
  have hbn : ∀ k, FJ5 k → k ≠ b := fun k hk e => by
    have h1 := HHI.out.1
    rcases g1 k hk with h | h
    · have h' : k = hb := h
      omega
    · omega
  have hDb : ∀ k, FD5 k → ¬ FJ k := fun k hk hj => by
    rcases g2 k hk with h | h
    · exact HDJ.out k h hj
    · have := HJ2.out.1 k hj; omega
  refine ⟨rfl, hst, (fun k => FJ k ∨ FJ5 k), FD5, s5, fun k hk => ?_, fun k hk => ?_, fun k hk hj => ?_, g4.same (s8.same g4.inn (fun k hk hb' => hDb k hk (by rw [show k = b from hb']; exact hFb))) s8.size, ?_, by rw [g6]; exact Nat.zero_le _, ?_⟩
  · rcases hk with hk | hk
    · exact .inl hk
    · have h1 := HHI.out
      rcases g1 k hk with h | h
      · have h' : k = hb := h
        exact .inr ⟨by omega, by omega⟩
      · exact .inr ⟨by omega, by omega⟩
  · rcases g2 k hk with h | h
    · exact .inl h
    · exact .inr ⟨by omega, by omega⟩
  · rcases hj with hj | hj
    · exact hDb k hk hj
    · exact g3 k hk hj
  · rw [HEP.out]; exact g5
  · refine ⟨fun k hk => ?_, .inl hFb, by decide, by decide, .slice rva 1 rvc, ?_, (gR.same (s8.same gI (fun k hk hb' => hbn k hk hb'))).mono (fun _ h => .inr h)⟩
    · rcases hk with hk | hk
      · have := HJ2.out.1 k hk; omega
      · have := gI k hk; omega
    · rw [JSt.odd (t := { t with epoch := ep, used := nd, recs := [x], last := Sha.sum (z32 ++ Jn.body ep [x]) }) ev1]
      simp only [eSM, eZ]
      exact k8
set_option maxRecDepth 100000 in
set_option maxHeartbeats 4000000 in
theorem reset_odd (h : JAt w t b bd FJ) (hD : DiskAt w s bd FD) (hc : s.Calm) (hpn : s.pend.length ≤ 1000) (hdj : Dj FD FJ) (hg : Glob w) (ok : t.Ok s.dur.length)
    (hx : BV w FX xv x) (hXI : Inn FX w) (hXD : Dj FX FD) (hXJ : Dj FX FJ) (hfl : x.length ≤ 100000) (hev : t.epoch % 2 = 1) (hfit : t.resFits s.size x) :
    Calls Tryd.prog 22 #[.pointer (some ⟨b, 0, none⟩), xv] w (JP w b bd FJ FD 0 (t.reset s.size x) s (Jn.put s.look t.f0 s.size (Jn.data z32 (t.epoch + 1) [x]))) := by
  obtain ⟨xa, xc, rfl, xc1, xc2, -⟩ := hx.get
  unfold maxLen at xc2
  have hss1 := hD.ok.size1
  have hnn2 := hD.ok.n2
  have hb1 : Below w.heap.size w (w.alloc (.cells #[.slice xa x.length xc] 39)) := (Below.refl _ _).alloc (Nat.le_refl _) _
  have HA := Lib.hid (available_any h hD hc.on)
  have HLV := Lib.hid (LV.one hx)
  obtain ⟨w1, hw1⟩ : ∃ w1, w.alloc (.cells #[.slice xa x.length xc] 39) = w1 := ⟨_, rfl⟩
  rw [hw1] at hb1 HLV
  have hflb : Jn.flen [x] ≤ 1000000 := by simp [Jn.flen, Jn.recs]; omega
  obtain ⟨rv, hB, hR⟩ := (h.below hb1).rep
  rw [JSt.odd hev] at hB
  have V := Lib.hid (fun n => jneed_any (w := w1.drewN n) (b := b) (bd := bd) (s := s) (G := FD) (hB.cell (i := 0) rfl) (hD.below (hb1.trans ((below_drewN w1 n).mono hb1.size))) (HLV.out.grow (below_drewN w1 n)) (by omega) (by simp))
  obtain ⟨nd, hnd⟩ : ∃ nd, Jn.need s.size (Jn.flen [x]) = nd := ⟨_, rfl⟩
  rw [hnd] at V
  have HND := Lib.hid hnd
  unfold JSt.resFits at hfit
  rw [hnd] at hfit
  have HOK := Lib.hid ok
  have hrm := ok.room
  have hep := ok.epoch
  have HJ := Lib.hid (h.below hb1)
  have HD := Lib.hid (hD.below hb1)
  have HCA := Lib.hid hc
  have HDJ := Lib.hid hdj
  have HG := Lib.hid (hg.below hb1 hg.lt)
  have HXI := Lib.hid hXI
  have HXD := Lib.hid hXD
  have HXJ := Lib.hid hXJ
  have HB1 := Lib.hid hb1
  have HDI0 : Hid (∀ k, FD k → k < w.heap.size) := Lib.hid hD.inn
  have HSW : Hid (w.heap.size < w1.heap.size) := Lib.hid (by rw [← hw1]; simp)
  have HBX := Lib.hid hB
  have HRX := Lib.hid hR
  have hbw := hB.lt
  have c1 := hB.cell (i := 1) rfl
  clear h hD hc hdj hg ok hx hXI hXD hXJ hb1 hB hR hnd
  go_enter Tryd.func22, Tryd.ntmps22
  go_wp2_with (go_at_call 33; refine (HA.out).mono ?_; rintro e w' ⟨rfl, rfl⟩)
  clear HA hw1
  go_quiet (first | (go_at_call 34; refine quiet_drewn (V.out _)))
  have hb2 : Below w.heap.size w (w1.drewN nq) := HB1.out.trans ((below_drewN w1 nq).mono HB1.out.size)
  have HJ2 := Lib.hid (HJ.out.below (below_drewN w1 nq))
  have HD2 := Lib.hid (HD.out.below (below_drewN w1 nq))
  have HG2 := Lib.hid (HG.out.below (below_drewN w1 nq) HG.out.lt)
  have HLV2 := Lib.hid (HLV.out.grow (below_drewN w1 nq))
  have hbb := (below_drewN w1 nq).size
  obtain ⟨w2, hw2⟩ : ∃ w2, w1.drewN nq = w2 := ⟨_, rfl⟩
  rw [hw2] at hb2 HJ2 HD2 HG2 HLV2 hbb ⊢
  have HB2 := Lib.hid hb2
  have hcur := current_any HJ2.out (by omega)
  rw [JSt.pre_length, hev] at hcur
  have HC2 := Lib.hid hcur
  have hB2 := HBX.out.of_same ((below_drewN w1 nq).block b HBX.out.lt)
  rw [hw2] at hB2
  have HBX2 := Lib.hid hB2
  have q7 := hB2.cell (i := 7) rfl
  have q2 := hB2.cell (i := 2) rfl
  have q12 := hB2.cell (i := 12) rfl
  have HR2 := Lib.hid (HRX.out.same (fun k hk => (below_drewN w1 nq).block k (by have := HJ2.out.1 k hk; rw [← hw2] at this; exact this)))
  rw [hw2] at HR2
  obtain ⟨ep, hepq⟩ : ∃ ep, t.epoch + 1 = ep := ⟨_, rfl⟩
  have iep : (t.epoch : Int) + 1 = (ep : Int) := by omega
  have itm : ((ep : Int)).tmod 2 = 0 := by rw [Int.tmod_eq_emod_of_nonneg (by omega)]; omega
  have HEP := Lib.hid hepq
  clear hB2 hcur HBX HRX hepq
  clear V hw2 hb2 HJ HD HG HLV c1
  go_wp2_with (go_at_call 27; refine (HC2.out).mono ?_; rintro e w' ⟨rfl, k2, rfl⟩)
  obtain ⟨zs, eZ⟩ : ∃ zs : ByteArray, Str z32 = .string zs := ⟨_, rfl⟩
  refine (newhalf_any t.f0 ep (w2.drewN k2)).mono ?_
  rintro e w3 ⟨rfl, hb3⟩
  rw [eZ]
  have b23 : Below w2.heap.size w2 w3 := (below_drewN w2 k2).trans hb3
  have B23 := Lib.hid b23
  clear hb3 q2 q7 q12 HC2
  go_wp2_with fail
  have hb4 : Below w3.heap.size w3 (w3.alloc (.cells #[.int .i64 (t.f0 : Int), .int .i64 (ep : Int), .int .i64 0, .slice none 0 0, .string zs] 54)) := (Below.refl _ _).alloc (Nat.le_refl _) _
  have hbk := Blk.new w3 [.int .i64 (t.f0 : Int), .int .i64 (ep : Int), .int .i64 0, .slice none 0 0, .string zs] 54
  obtain ⟨w4, hw4⟩ : ∃ w4, w3.alloc (.cells #[.int .i64 (t.f0 : Int), .int .i64 (ep : Int), .int .i64 0, .slice none 0 0, .string zs] 54) = w4 := ⟨_, rfl⟩
  rw [hw4] at hb4 hbk ⊢
  obtain ⟨hb, hhb⟩ : ∃ hb, w3.heap.size = hb := ⟨_, rfl⟩
  have b24 : Below w2.heap.size w2 w4 := B23.out.trans (hb4.mono B23.out.size)
  have hge : w2.heap.size ≤ hb := by rw [← hhb]; exact B23.out.size
  rw [hhb] at hbk ⊢
  have hHA : HalfAt w4 (· = hb) hb [] [] 54 t.f0 ep 0 [] z32 := by
    refine ⟨fun k hk => by subst hk; exact hbk.lt, rfl, by decide, by decide, .slice none 0 0, ?_, RecsV.nil⟩
    rw [List.nil_append, List.append_nil]
    unfold hcells
    rw [eZ]
    exact hbk
  have hX4 := HLV2.out.grow b24
  have hI2 := HJ2.out.1
  have hDI := HD2.out.inn
  have hw1s := HB1.out.size
  have hw2s := HB2.out.size
  have VA := add_any (FJ := (· = hb)) (FD := FD) (FX := fun k => FX k ∨ k = w.heap.size) (b := b) (bd := bd) (s := s) hHA rfl ((b24.cell (p := ⟨b, 0, none⟩) HBX2.out.lt).trans (HBX2.out.cell (i := 0) rfl)) (fun hf => HDJ.out b hf HJ2.out.2.1) (HD2.out.below b24) HCA.out hpn (fun k hf hk => by have := hDI k hf; omega) (HG2.out.below b24 HG2.out.lt) hX4 (fun k hk => by
      have := b24.size
      rcases hk with hk | hk
      · have := HXI.out k hk; omega
      · have := HSW.out; omega) (fun k hk hf => by
      rcases hk with hk | hk
      · exact HXD.out k hk hf
      · exact absurd hk (by have := HDI0.out k hf; omega)) (fun k hk hf => by
      have hf' : k = hb := hf
      rcases hk with hk | hk
      · have := HXI.out k hk; omega
      · have := HSW.out; omega) (by simp) hflb (by omega) (by simp [z32]) (by have h1 := HOK.out.r0; rw [HND.out]; omega) (by simp)
  have HVA := Lib.hid VA
  have HB24 := Lib.hid b24
  have HHI : Hid (w2.heap.size ≤ hb ∧ hb < w4.heap.size) := Lib.hid ⟨hge, hbk.lt⟩
  clear VA hHA hX4 hI2 hDI hw1s hw2s b23 b24 hb4 hbk hw4 hge hbb
  go_wp2_with (go_at_call 35; refine (HVA.out).mono ?_; rintro e w5 ⟨rfl, hs5, FJ5, FD5, s5, g1, g2, g3, g4, g5, g6, gI, gF, -, -, rv5, gB, gR⟩)
  rw [HND.out, Nat.zero_add, List.nil_append, List.append_nil] at gB
  unfold hcells at gB
  obtain ⟨sm, eSM⟩ : ∃ sm : ByteArray, Str (Sha.sum (z32 ++ Jn.body ep [x])) = .string sm := ⟨_, rfl⟩
  rw [eSM] at gB
  have hB5 := HBX2.out.of_same ((hs5.keep b (by have := HBX2.out.lt; have := HB24.out.size; omega) (fun hf => by
    rcases hf with hf | hf
    · have := HBX2.out.lt; have := HHI.out.1; omega
    · exact HDJ.out b hf HJ2.out.2.1)).trans (HB24.out.block b HBX2.out.lt))
  have hne : hb ≠ b := by have := HBX2.out.lt; have := HHI.out.1; omega
  have HBB5 := Lib.hid hB5
  have HGB := Lib.hid gB
  have HGX := Lib.hid (And.intro hs5 (And.intro g1 (And.intro g2 (And.intro g3 (And.intro g4 (And.intro g5 (And.intro g6 (And.intro gI (And.intro gF gR)))))))))
  obtain ⟨ls, eLS⟩ : ∃ ls : ByteArray, Str t.last = .string ls := ⟨_, rfl⟩
  rw [eLS, eZ] at hB5
  have p0 := gB.cell (i := 0) rfl
  have p1 := gB.cell (i := 1) rfl
  have p2 := gB.cell (i := 2) rfl
  have p3 := gB.cell (i := 3) rfl
  have p4 := gB.cell (i := 4) rfl
  have lb5 := gB.lt
  have q2 := hB5.cell (i := 2) rfl
  have q3 := hB5.cell (i := 3) rfl
  have q4 := hB5.cell (i := 4) rfl
  have q5 := hB5.cell (i := 5) rfl
  have q6 := hB5.cell (i := 6) rfl
  have q7 := hB5.cell (i := 7) rfl
  have q8 := hB5.cell (i := 8) rfl
  have q9 := hB5.cell (i := 9) rfl
  have q10 := hB5.cell (i := 10) rfl
  have q11 := hB5.cell (i := 11) rfl
  have q12 := hB5.cell (i := 12) rfl
  have fb := fun i => hB5.free i
  obtain ⟨rva, rvc, rfl, -⟩ := gR.form
  clear hs5 g1 g2 g3 g4 g5 g6 gI gF gB gR hB5
  go_wp2_with fail
  go_still_tail 7, (by kernel_rfl)
  go_wp2_with fail
  have k6 : Blk ((((((w5.setCell ⟨b, 2, none⟩ (.int .i64 (t.f0 : Int))).setCell ⟨b, 3, none⟩ (.int .i64 (ep : Int))).setCell ⟨b, 4, none⟩ (.int .i64 (nd : Int))).setCell ⟨b, 5, none⟩ (.slice rva 1 rvc)).setCell ⟨b, 6, none⟩ (.string sm)).setCell ⟨b, 12, none⟩ (.int .i64 (ep : Int))).drew b [.pointer (some ⟨bd, 0, none⟩), .int .i64 (t.room : Int), .int .i64 (t.f0 : Int), .int .i64 (ep : Int), .int .i64 (nd : Int), .slice rva 1 rvc, .string sm, .int .i64 (t.f1 : Int), .int .i64 (t.epoch : Int), .int .i64 (t.used : Int), rv, Str t.last, .int .i64 (ep : Int), .bool false] 57 := by
    have h := ((((((HBB5.out.set 2 (.int .i64 (t.f0 : Int))).set 3 (.int .i64 (ep : Int))).set 4 (.int .i64 (nd : Int))).set 5 (.slice rva 1 rvc)).set 6 (.string sm)).set 12 (.int .i64 (ep : Int)))
    simp only [List.set_cons_succ, List.set_cons_zero] at h
    exact h.drew
  have s6 : Stp (fun k => k = b) w5 ((((((w5.setCell ⟨b, 2, none⟩ (.int .i64 (t.f0 : Int))).setCell ⟨b, 3, none⟩ (.int .i64 (ep : Int))).setCell ⟨b, 4, none⟩ (.int .i64 (nd : Int))).setCell ⟨b, 5, none⟩ (.slice rva 1 rvc)).setCell ⟨b, 6, none⟩ (.string sm)).setCell ⟨b, 12, none⟩ (.int .i64 (ep : Int))).drew := (((((((Stp.refl (fun k => k = b) w5).set (a := ⟨b, 2, none⟩) (.inl (.inl rfl)) (.int .i64 (t.f0 : Int))).set (a := ⟨b, 3, none⟩) (.inl (.inl rfl)) (.int .i64 (ep : Int))).set (a := ⟨b, 4, none⟩) (.inl (.inl rfl)) (.int .i64 (nd : Int))).set (a := ⟨b, 5, none⟩) (.inl (.inl rfl)) (.slice rva 1 rvc)).set (a := ⟨b, 6, none⟩) (.inl (.inl rfl)) (.string sm)).set (a := ⟨b, 12, none⟩) (.inl (.inl rfl)) (.int .i64 (ep : Int))).drew
  obtain ⟨w6, hw6⟩ : ∃ w6, ((((((w5.setCell ⟨b, 2, none⟩ (.int .i64 (t.f0 : Int))).setCell ⟨b, 3, none⟩ (.int .i64 (ep : Int))).setCell ⟨b, 4, none⟩ (.int .i64 (nd : Int))).setCell ⟨b, 5, none⟩ (.slice rva 1 rvc)).setCell ⟨b, 6, none⟩ (.string sm)).setCell ⟨b, 12, none⟩ (.int .i64 (ep : Int))).drew = w6 := ⟨_, rfl⟩
  rw [hw6] at k6 s6 ⊢
  refine (newhalf_any t.f1 0 w6).mono ?_
  rintro e w7 ⟨rfl, hb7⟩
  rw [eZ]
  have hB7 := k6.of_same (hb7.block b k6.lt)
  have s7 : Stp (fun k => k = b) w5 w7 := s6.trans' (Stp.of_below _ hb7)
  have HB7 := Lib.hid hB7
  have HS7 := Lib.hid s7
  have r2 := hB7.cell (i := 7) rfl
  have r3 := hB7.cell (i := 8) rfl
  have r4 := hB7.cell (i := 9) rfl
  have r5 := hB7.cell (i := 10) rfl
  have r6 := hB7.cell (i := 11) rfl
  have fr := fun i => hB7.free i
  clear k6 s6 hw6 hb7 hB7 s7 p0 p1 p2 p3 p4 q2 q3 q4 q5 q6 q7 q8 q9 q10 q11 q12 fb
  go_wp2_with fail
  go_ret
  have k8 : Blk (((((w7.setCell ⟨b, 7, none⟩ (.int .i64 (t.f1 : Int))).setCell ⟨b, 8, none⟩ (.int .i64 0)).setCell ⟨b, 9, none⟩ (.int .i64 0)).setCell ⟨b, 10, none⟩ (.slice none 0 0)).setCell ⟨b, 11, none⟩ (.string zs)) b [.pointer (some ⟨bd, 0, none⟩), .int .i64 (t.room : Int), .int .i64 (t.f0 : Int), .int .i64 (ep : Int), .int .i64 (nd : Int), .slice rva 1 rvc, .string sm, .int .i64 (t.f1 : Int), .int .i64 0, .int .i64 0, .slice none 0 0, .string zs, .int .i64 (ep : Int), .bool false] 57 := by
    have h := (((((HB7.out.set 7 (.int .i64 (t.f1 : Int))).set 8 (.int .i64 0)).set 9 (.int .i64 0)).set 10 (.slice none 0 0)).set 11 (.string zs))
    simp only [List.set_cons_succ, List.set_cons_zero] at h
    exact h
  have s8 : Stp (fun k => k = b) w5 (((((w7.setCell ⟨b, 7, none⟩ (.int .i64 (t.f1 : Int))).setCell ⟨b, 8, none⟩ (.int .i64 0)).setCell ⟨b, 9, none⟩ (.int .i64 0)).setCell ⟨b, 10, none⟩ (.slice none 0 0)).setCell ⟨b, 11, none⟩ (.string zs)) := HS7.out.trans' ((((((Stp.refl (fun k => k = b) w7).set (a := ⟨b, 7, none⟩) (.inl (.inl rfl)) (.int .i64 (t.f1 : Int))).set (a := ⟨b, 8, none⟩) (.inl (.inl rfl)) (.int .i64 0)).set (a := ⟨b, 9, none⟩) (.inl (.inl rfl)) (.int .i64 0)).set (a := ⟨b, 10, none⟩) (.inl (.inl rfl)) (.slice none 0 0)).set (a := ⟨b, 11, none⟩) (.inl (.inl rfl)) (.string zs))
  obtain ⟨w8, hw8⟩ : ∃ w8, (((((w7.setCell ⟨b, 7, none⟩ (.int .i64 (t.f1 : Int))).setCell ⟨b, 8, none⟩ (.int .i64 0)).setCell ⟨b, 9, none⟩ (.int .i64 0)).setCell ⟨b, 10, none⟩ (.slice none 0 0)).setCell ⟨b, 11, none⟩ (.string zs)) = w8 := ⟨_, rfl⟩
  rw [hw8] at k8 s8 ⊢
  clear hw8 r2 r3 r4 r5 r6 fr
  obtain ⟨hs5, g1, g2, g3, g4, g5, g6, gI, gF, gR⟩ := HGX.out
  have e1 := HB2.out.size
  have e2 := HB24.out.size
  have e3 := hs5.size
  have e4 := s8.size
  have hbl := HBX2.out.lt
  have hFb := HJ2.out.2.1
  have ev1 : ep % 2 = 0 := by have := HEP.out; omega
  have eres : t.reset s.size x = { t with epoch := ep, used := nd, recs := [x], last := Sha.sum (z32 ++ Jn.body ep [x]) } := by
    have hf : t.resFits s.size x := by unfold JSt.resFits; rw [HND.out]; exact hfit
    unfold JSt.reset
    rw [if_pos hf, HND.out, HEP.out]
  rw [eres]
  have stA : Stp (fun k => FJ k ∨ FD k) w w4 := Stp.of_below _ (HB2.out.trans (HB24.out.mono e1))
  have stB : Stp (Plus (fun k => FJ k ∨ FD k) w w4) w4 w5 := hs5.weaken (fun k hk => by
    rcases hk with hk | hk
    · exact .inr ⟨by have := HHI.out.1; omega, by have := HHI.out.2; omega⟩
    · exact .inl (.inr hk))
  have stC : Stp (Plus (fun k => FJ k ∨ FD k) w w5) w5 w8 := s8.weaken (fun k hk => .inl (.inl (by rw [hk]; exact hFb)))
  have hst := (stA.trans stB).trans stC
  have hbn : ∀ k, FJ5 k → k ≠ b := fun k hk e => by
    have h1 := HHI.out.1
    rcases g1 k hk with h | h
    · have h' : k = hb := h
      omega
    · omega
  have hDb : ∀ k, FD5 k → ¬ FJ k := fun k hk hj => by
    rcases g2 k hk with h | h
    · exact HDJ.out k h hj
    · have := HJ2.out.1 k hj; omega
  refine ⟨rfl, hst, (fun k => FJ k ∨ FJ5 k), FD5, s5, fun k hk => ?_, fun k hk => ?_, fun k hk hj => ?_, g4.same (s8.same g4.inn (fun k hk hb' => hDb k hk (by rw [show k = b from hb']; exact hFb))) s8.size, ?_, by rw [g6]; exact Nat.zero_le _, ?_⟩
  · rcases hk with hk | hk
    · exact .inl hk
    · have h1 := HHI.out
      rcases g1 k hk with h | h
      · have h' : k = hb := h
        exact .inr ⟨by omega, by omega⟩
      · exact .inr ⟨by omega, by omega⟩
  · rcases g2 k hk with h | h
    · exact .inl h
    · exact .inr ⟨by omega, by omega⟩
  · rcases hj with hj | hj
    · exact hDb k hk hj
    · exact g3 k hk hj
  · rw [HEP.out]; exact g5
  · refine ⟨fun k hk => ?_, .inl hFb, by decide, by decide, .slice rva 1 rvc, ?_, (gR.same (s8.same gI (fun k hk hb' => hbn k hk hb'))).mono (fun _ h => .inr h)⟩
    · rcases hk with hk | hk
      · have := HJ2.out.1 k hk; omega
      · have := gI k hk; omega
    · rw [JSt.even (t := { t with epoch := ep, used := nd, recs := [x], last := Sha.sum (z32 ++ Jn.body ep [x]) }) ev1]
      simp only [eSM, eZ]
      exact k8
end
end Go.Proofs.YtcpcnfedbffecaaDoor
