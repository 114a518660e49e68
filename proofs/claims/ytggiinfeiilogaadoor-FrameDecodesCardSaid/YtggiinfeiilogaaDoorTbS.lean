/- Contract of a link's Send. -/
import Derived.Test.YtggiinfeiilogaaDoorTbL
import Derived.Deep.RegionHeld3
namespace Go.Proofs.YtggiinfeiilogaaDoor
open Go.RowKit
set_option linter.unusedSimpArgs false
section
variable {w w' : World} {F G : Nat → Prop} {b : Nat} {s : Lk} {xv : Value} {x : List UInt8}
set_option maxHeartbeats 1000000 in
theorem send_full (h : LkAt w b F s) (hx : BV w G xv x) (hd : s.down = false) (hb2 : s.bud ≤ 1048576) (hl : s.sent.length ≤ s.bud) (hf : s.bud < s.sent.length + x.length) :
    Calls Tryd.prog 19 #[.pointer (some ⟨b, 0, none⟩), .int .i64 0, xv] w fun e w' => e = .returned (.tuple #[.int .i64 0, .int .i64 7]) ∧ ∃ n, w' = w.drewN n := by
  obtain ⟨xa, xc, rfl, _⟩ := hx.get
  have H := Lib.hid h
  obtain ⟨hF, hI, sv, wv, hsv, _, _, _, hb⟩ := h
  rw [hd] at hb
  have c6 := hb.cell (i := 6) rfl
  have hlt := hb.lt
  have HL := Lib.hid (show s.sent.length ≤ 1000000000 by omega)
  have HB2 := Lib.hid hb2
  have i1 : ((s.bud : Int) - (s.sent.length : Int)) < (x.length : Int) := by omega
  have i2 : (0 : Int) ≤ (s.bud : Int) - (s.sent.length : Int) := by omega
  clear hF hI hsv hb hx hl hd hf hb2
  go_enter Tryd.func19, Tryd.ntmps19
  go_wp2_with fail
  refine (isside_any w 0 (.inl rfl)).mono ?_
  rintro e w' ⟨rfl, rfl⟩
  go_wp2_with fail
  refine (left_any H.out HL.out HB2.out).mono ?_
  rintro e w' ⟨rfl, n, rfl⟩
  go_wp2_with fail
  go_ret2
  exact ⟨rfl, n, rfl⟩
theorem stp_drewN {w w1 : World} {F : Nat → Prop} (h : Stp F w w1) (n : Nat) : Stp F w (w1.drewN n) :=
  h.trans' ⟨(below_drewN2 (Below.refl w1.heap.size w1) n).os, (below_drewN2 (Below.refl w1.heap.size w1) n).tape, (below_drewN2 (Below.refl w1.heap.size w1) n).output, Nat.le_refl _, fun _ _ _ => rfl⟩
/-- How many bytes arrive, and whether the link is cut. -/
def Lk.arr (s : Lk) (n m : Nat) (dn : Bool) : Prop :=
  (dn = false ∧ m = n ∧ (s.cut < 0 ∨ (0 ≤ s.cut ∧ (n : Int) ≤ s.cut - (s.sent.length : Int)))) ∨ (dn = true ∧ 0 ≤ s.cut ∧ (m : Int) = s.cut - (s.sent.length : Int) ∧ m < n)
set_option maxRecDepth 100000 in
set_option maxHeartbeats 4000000 in
theorem send_ok (h : LkAt w b F s) (hw0 : s.wait = []) (hx : BV w G xv x) (hG : ∀ k, G k → k < w.heap.size ∧ ¬ F k) (hd : s.down = false) (hb2 : s.bud ≤ 1048576) (hf : s.sent.length + x.length ≤ s.bud) (hx0 : 0 < x.length) (hcx : s.cut ≤ 9223372036854775807) {m : Nat} {dn : Bool} (ha : s.arr x.length m dn) :
    Calls Tryd.prog 19 #[.pointer (some ⟨b, 0, none⟩), .int .i64 0, xv] w fun e w' => e = .returned (.tuple #[.int .i64 (m : Int), .int .i64 (if dn then 15 else 0)]) ∧ Stp F w w' ∧ LkAt w' b (Plus F w w') ⟨s.sent ++ x.take m, x.take m, s.bud, s.cut, dn⟩ := by
  obtain ⟨xa, xc, rfl, hxc, hxc2, hxg⟩ := hx.get
  obtain ⟨xb, xo, rfl, _, _⟩ := hxg 0 hx0
  unfold maxLen at hxc2
  have H := Lib.hid h
  obtain ⟨hF, hI, sv, wv, hsv, hwv, hs5, hs6, hb⟩ := h
  rw [hd] at hb
  have c6 := hb.cell (i := 6) rfl
  have c5 := hb.cell (i := 5) rfl
  have hlt := hb.lt
  obtain ⟨cut, hcut⟩ : ∃ cut, s.cut = cut := ⟨_, rfl⟩
  obtain ⟨t, ht⟩ : ∃ t, s.sent.length = t := ⟨_, rfl⟩
  obtain ⟨ln, hln⟩ : ∃ ln, x.length = ln := ⟨_, rfl⟩
  have HL := Lib.hid (show s.sent.length ≤ 1000000000 by omega)
  have HB2 := Lib.hid hb2
  rw [hcut] at c5 hb
  have HB := Lib.hid hb
  rw [hw0] at hwv
  have HSV := Lib.hid hsv
  have HWV := Lib.hid hwv
  have HI := Lib.hid hI
  have HF := Lib.hid hF
  have HS5 := Lib.hid hs5
  have HS6 := Lib.hid hs6
  have HX := Lib.hid hx
  have HGG := Lib.hid hG
  have HT := Lib.hid ht
  have HLN := Lib.hid hln
  have HCUT := Lib.hid hcut
  unfold Lk.arr at ha
  rw [hcut, ht, hln] at ha
  rw [hcut] at hcx
  rw [hln] at HX hxc hf hx0 ⊢
  rw [ht] at hf
  have i1 : (ln : Int) ≤ (s.bud : Int) - (t : Int) := by omega
  have i2 : (0 : Int) ≤ (s.bud : Int) - (t : Int) := by omega
  have i3 : (s.bud : Int) ≤ 1048576 := by omega
  have HFT : Hid (t + ln ≤ s.bud) := Lib.hid hf
  have HX0 : Hid (0 < ln) := Lib.hid hx0
  clear hF hI hsv hwv hs5 hs6 hb hx hd hf hb2 hcut ht hln hxg hG hx0
  go_enter Tryd.func19, Tryd.ntmps19
  go_wp2_with fail
  refine (isside_any w 0 (.inl rfl)).mono ?_
  rintro e w' ⟨rfl, rfl⟩
  go_wp2_with fail
  refine (left_any H.out HL.out HB2.out).mono ?_
  rintro e w1 ⟨rfl, n1, rfl⟩
  rw [HT.out]
  have H1 := Lib.hid (H.out.drewN n1)
  have HB1 : Hid (Blk (w.drewN n1) b _ _) := Lib.hid (show Blk (w.drewN n1) b _ _ from HB.out)
  have X1 : Hid (BV (w.drewN n1) G (.slice (some ⟨xb, xo, none⟩) ln xc) x) := Lib.hid (HX.out.same (fun _ _ => rfl))
  have SV1 : Hid (OwnB (w.drewN n1) sv s.sent) := Lib.hid (HSV.out.same (F := fun _ => True) (fun _ _ => rfl) (fun _ _ => trivial))
  have WV1 : Hid (OwnB (w.drewN n1) wv []) := Lib.hid (HWV.out.same (F := fun _ => True) (fun _ _ => rfl) (fun _ _ => trivial))
  have ST1 : Hid (Stp F w (w.drewN n1)) := Lib.hid ⟨(below_drewN2 (Below.refl w.heap.size w) n1).os, (below_drewN2 (Below.refl w.heap.size w) n1).tape, (below_drewN2 (Below.refl w.heap.size w) n1).output, Nat.le_refl _, fun _ _ _ => rfl⟩
  have HZ1 : Hid ((w.drewN n1).heap.size = w.heap.size) := Lib.hid rfl
  go_wp2_with fail
  generalize w.drewN n1 = w1 at *
  have d5 := HB1.out.cell (i := 5) rfl
  clear c5 c6
  rcases ha with ⟨rfl, rfl, hc⟩ | ⟨rfl, hc0, hcm, hmn⟩
  · have HM : Hid (m ≤ m) := Lib.hid (Nat.le_refl m)
    have jm : (m : Int) ≤ (xc : Int) := by omega
    have jl : ¬ xc < m := by omega
    rcases hc with hc | ⟨hc0, hcl⟩
    case' inl =>
      have hcb : decide ((0 : Int) ≤ cut) = false := by rw [decide_eq_false_iff_not]; omega
      go_quiet (fail)
      clear hcb hc
    case' inr =>
      have k1 : IntKind.i64.wrap (cut - (t : Int)) = cut - (t : Int) := by rw [IntKind.wrap_i64]; have := HFT.out; omega
      have k2 : ¬ (cut - (t : Int)) < (m : Int) := by omega
      have k3 : decide ((cut - (t : Int)) < (m : Int)) = false := by rw [decide_eq_false_iff_not]; omega
      go_quiet (first | (go_at_call 48; exact total_q H1.out HL.out HT.out))
      clear k1 k2 k3 hc0 hcl
    all_goals
      go_wp2_with fail
      have HB2 : Hid (Blk (w1.drewN nq) b [sv, .slice none 0 0, .slice none 0 0, wv, .int .i64 (s.bud : Int), .int .i64 cut, .bool false] 76) := Lib.hid HB1.out
      have X2 : Hid (BV (w1.drewN nq) G (.slice (some ⟨xb, xo, none⟩) m xc) x) := Lib.hid (X1.out.same (fun _ _ => rfl))
      have SV2 : Hid (OwnB (w1.drewN nq) sv s.sent) := Lib.hid (SV1.out.same (F := fun _ => True) (fun _ _ => rfl) (fun _ _ => trivial))
      have WV2 : Hid (OwnB (w1.drewN nq) wv []) := Lib.hid (WV1.out.same (F := fun _ => True) (fun _ _ => rfl) (fun _ _ => trivial))
      have ST2 : Hid (Stp F w (w1.drewN nq)) := Lib.hid (stp_drewN ST1.out nq)
      have HZ2 : Hid ((w1.drewN nq).heap.size = w.heap.size) := Lib.hid HZ1.out
      generalize w1.drewN nq = w2 at *
      clear d5 HB1 X1 SV1 WV1 ST1 HZ1 H1
      go_quiet (fail)
      go_wp2_with fail
      have HB3 : Hid (Blk (w2.drewN nq) b [sv, .slice none 0 0, .slice none 0 0, wv, .int .i64 (s.bud : Int), .int .i64 cut, .bool false] 76) := Lib.hid HB2.out
      have X3 : Hid (BV (w2.drewN nq) G (.slice (some ⟨xb, xo, none⟩) m xc) x) := Lib.hid (X2.out.same (fun _ _ => rfl))
      have SV3 : Hid (OwnB (w2.drewN nq) sv s.sent) := Lib.hid (SV2.out.same (F := fun _ => True) (fun _ _ => rfl) (fun _ _ => trivial))
      have WV3 : Hid (OwnB (w2.drewN nq) wv []) := Lib.hid (WV2.out.same (F := fun _ => True) (fun _ _ => rfl) (fun _ _ => trivial))
      have ST3 : Hid (Stp F w (w2.drewN nq)) := Lib.hid (stp_drewN ST2.out nq)
      have HZ3 : Hid ((w2.drewN nq).heap.size = w.heap.size) := Lib.hid HZ2.out
      generalize w2.drewN nq = w3 at *
      clear HB2 X2 SV2 WV2 ST2 HZ2
      have HTM : Hid ((x.take m).length = m) := Lib.hid (by rw [List.length_take]; have := HM.out; have := HLN.out; omega)
      have HB4 : Hid (Blk w3.drew b [sv, .slice none 0 0, .slice none 0 0, wv, .int .i64 (s.bud : Int), .int .i64 cut, .bool false] 76) := Lib.hid HB3.out
      have X4 : Hid (BV w3.drew G (.slice (some ⟨xb, xo, none⟩) m xc) x) := Lib.hid X3.out
      have SV4 : Hid (OwnB w3.drew sv s.sent) := Lib.hid SV3.out
      have WV4 : Hid (OwnB w3.drew wv []) := Lib.hid WV3.out
      have ST4 : Hid (Stp F w w3.drew) := Lib.hid ST3.out.drew
      have HZ4 : Hid (w3.drew.heap.size = w.heap.size) := Lib.hid HZ3.out
      refine wp_region_any (by kernel_rfl) ?_
      change wpAny _ _ _ _ _ _ _ (World.drew _)
      generalize w3.drew = w4 at *
      clear HB3 X3 SV3 WV3 ST3 HZ3
      have e0 := HB4.out.cell (i := 0) rfl
      refine wpAny_take (i := 0) (oi := ⟨some 62, _, _, _, _, _⟩) (v := .pointer (some ⟨b, 0, none⟩)) rfl (by kernel_rfl) (by kernel_rfl) (by kernel_rfl) (fun _ _ _ h => h) (Or.inl ⟨by rfl, fun w => by go_simp⟩) ?_
      try simp only [Act.put, List.setIfInBounds_toArray, List.set_cons_zero, List.set_cons_succ]
      refine wpAny_take (i := 1) (oi := ⟨some 63, _, _, _, _, _⟩) (v := .pointer (some ⟨b, 0, none⟩)) rfl (by kernel_rfl) (by kernel_rfl) (by kernel_rfl) (fun _ _ _ h => h) (Or.inl ⟨by rfl, fun w => by go_simp⟩) ?_
      try simp only [Act.put, List.setIfInBounds_toArray, List.set_cons_zero, List.set_cons_succ]
      refine wpAny_take (i := 2) (oi := ⟨some 64, _, _, _, _, _⟩) (v := .pointer (some ⟨b, 0, none⟩)) rfl (by kernel_rfl) (by kernel_rfl) (by kernel_rfl) (fun _ _ _ h => h) (Or.inl ⟨by rfl, fun w => by go_simp⟩) ?_
      try simp only [Act.put, List.setIfInBounds_toArray, List.set_cons_zero, List.set_cons_succ]
      refine wpAny_take (i := 3) (oi := ⟨some 65, _, _, _, _, _⟩) (v := .pointer (some ⟨b, 0, none⟩)) rfl (by kernel_rfl) (by kernel_rfl) (by kernel_rfl) (fun _ _ _ h => h) (Or.inl ⟨by rfl, fun w => by go_simp⟩) ?_
      try simp only [Act.put, List.setIfInBounds_toArray, List.set_cons_zero, List.set_cons_succ]
      refine wpAny_take (i := 5) (oi := ⟨some 67, _, _, _, _, _⟩) (v := .slice (some ⟨xb, xo, none⟩) m xc) rfl (by kernel_rfl) (by kernel_rfl) (by kernel_rfl) (fun _ _ _ h => h) (Or.inl ⟨by rfl, fun w => by go_simp⟩) ?_
      try simp only [Act.put, List.setIfInBounds_toArray, List.set_cons_zero, List.set_cons_succ]
      refine wpAny_take (i := 6) (oi := ⟨some 68, _, _, _, _, _⟩) (v := .int .i64 (m : Int)) rfl (by kernel_rfl) (by kernel_rfl) (by kernel_rfl) (fun _ _ _ h => h) (Or.inl ⟨by rfl, fun w => by go_simp⟩) ?_
      try simp only [Act.put, List.setIfInBounds_toArray, List.set_cons_zero, List.set_cons_succ]
      refine wpAny_take (i := 7) (oi := ⟨some 69, _, _, _, _, _⟩) (v := .slice (some ⟨xb, xo, none⟩) m xc) rfl (by kernel_rfl) (by kernel_rfl) (by kernel_rfl) (fun _ _ _ h => h) (Or.inl ⟨by rfl, fun w => by go_simp⟩) ?_
      try simp only [Act.put, List.setIfInBounds_toArray, List.set_cons_zero, List.set_cons_succ]
      refine wpAny_ready (rs := [4]) (by kernel_rfl) (by simp) ?_
      refine AllReady.cons (o := ⟨some 66, _, _, _, _, _⟩) rfl (fun K hK => ?_) AllReady.nil
      go_simp
      refine hK _ _ ?_
      clear hK K
      try simp only [Act.put, List.setIfInBounds_toArray, List.set_cons_zero, List.set_cons_succ]
      refine wpAny_ready (rs := [8]) (by kernel_rfl) (by simp) ?_
      refine AllReady.cons (o := ⟨some 70, _, _, _, _, _⟩) rfl (fun K hK => ?_) AllReady.nil
      refine step_append_bytes rfl (.tmp 66) (.tmp 69) rfl sv (.slice (some ⟨xb, xo, none⟩) m xc) (x.take m) (by rfl) (by rfl) SV4.out (BV.take (k := m) X4.out (by have := HM.out; omega)) (by have := HFT.out; have := HT.out; have := HM.out; rw [List.length_take]; omega) ?_
      intro a5 c5 w5 hO5 hg5 ho5
      rw [HT.out, HTM.out] at hO5 ho5 ⊢
      have HB5 : Hid (Blk w5 b _ _) := Lib.hid (HB4.out.of_same (hg5.block b HB4.out.lt (fun e => (HS5.out b e.symm).2.1 rfl)))
      have X5 : Hid (BV w5 G (.slice (some ⟨xb, xo, none⟩) m xc) x) := Lib.hid (X4.out.same (fun k hk => hg5.block k (by have := (HGG.out k hk).1; have := HZ4.out; omega) (fun e => (HGG.out k hk).2 (HS5.out k e.symm).1)))
      have WV5 : Hid (OwnB w5 wv []) := Lib.hid (WV4.out.same (F := fun k => wv.ownBlock = some k) (fun k hk => hg5.block k (WV4.out.lt k hk) (fun e => (HS5.out k e.symm).2.2 hk)) (fun k hk => hk))
      have ST5 : Hid (Stp F w w5) := Lib.hid (ST4.out.grown hg5 (fun k e => .inl (HS5.out k e).1))
      have O5 := Lib.hid hO5
      have HO5 : Hid (∀ k, (Value.slice a5 (t + m) c5).ownBlock = some k → k ≠ b ∧ wv.ownBlock ≠ some k ∧ (F k ∨ w.heap.size ≤ k)) := Lib.hid (fun k hk => by
        rcases ho5 with e | e
        · rw [e] at hk; have := HS5.out k hk; exact ⟨this.2.1, this.2.2, .inl this.1⟩
        · rw [e] at hk; simp only [Option.some.injEq] at hk; have h1 := HZ4.out; have h2 := HB4.out.lt; exact ⟨by omega, fun e2 => by have := WV4.out.lt k e2; omega, .inr (by omega)⟩)
      have e5 := HB5.out.cell (i := 0) rfl
      have f5 := HB5.out.free 0
      clear hO5 hg5 ho5 e0
      refine hK _ _ ?_
      clear hK K
      try simp only [Act.put, List.setIfInBounds_toArray, List.set_cons_zero, List.set_cons_succ]
      refine wpAny_take (i := 9) (oi := ⟨some 71, _, _, _, _, _⟩) (v := .pointer (some ⟨b, 0, none⟩)) rfl (by kernel_rfl) (by kernel_rfl) (by kernel_rfl) (fun _ _ _ h => h) (Or.inl ⟨by rfl, fun w => by go_simp⟩) ?_
      try simp only [Act.put, List.setIfInBounds_toArray, List.set_cons_zero, List.set_cons_succ]
      refine wpAny_take (i := 10) (oi := ⟨some 72, _, _, _, _, _⟩) (v := .pointer (some ⟨b, 0, none⟩)) rfl (by kernel_rfl) (by kernel_rfl) (by kernel_rfl) (fun _ _ _ h => h) (Or.inl ⟨by rfl, fun w => by go_simp⟩) ?_
      try simp only [Act.put, List.setIfInBounds_toArray, List.set_cons_zero, List.set_cons_succ]
      refine wpAny_ready (rs := [11]) (by kernel_rfl) (by simp) ?_
      refine AllReady.cons (o := ⟨none, _, _, _, _, _⟩) rfl (fun K hK => ?_) AllReady.nil
      go_simp
      refine hK _ _ ?_
      clear hK K
      try simp only [Act.put, List.setIfInBounds_toArray, List.set_cons_zero, List.set_cons_succ]
      refine wpAny_done (by kernel_rfl) ?_ _
      go_wp2_with fail
      have HB6 : Hid (Blk (w5.setCell ⟨b, 0, none⟩ (.slice a5 (t + m) c5)).drew b [(.slice a5 (t + m) c5), .slice none 0 0, .slice none 0 0, wv, .int .i64 (s.bud : Int), .int .i64 cut, .bool false] 76) := Lib.hid (HB5.out.set 0 (.slice a5 (t + m) c5))
      have X6 : Hid (BV (w5.setCell ⟨b, 0, none⟩ (.slice a5 (t + m) c5)).drew G (.slice (some ⟨xb, xo, none⟩) m xc) x) := Lib.hid (X5.out.same (fun k hk => heap_setCell_other w5 ⟨b, 0, none⟩ k _ (fun e => (HGG.out k hk).2 (by rw [show k = b from e]; exact HF.out))))
      have SV6 : Hid (OwnB (w5.setCell ⟨b, 0, none⟩ (.slice a5 (t + m) c5)).drew (.slice a5 (t + m) c5) (s.sent ++ x.take m)) := Lib.hid (O5.out.same (F := fun k => (Value.slice a5 (t + m) c5).ownBlock = some k) (fun k hk => heap_setCell_other w5 ⟨b, 0, none⟩ k _ (HO5.out k hk).1) (fun k hk => hk))
      have WV6 : Hid (OwnB (w5.setCell ⟨b, 0, none⟩ (.slice a5 (t + m) c5)).drew wv []) := Lib.hid (WV5.out.same (F := fun k => wv.ownBlock = some k) (fun k hk => heap_setCell_other w5 ⟨b, 0, none⟩ k _ (HS6.out k hk).2) (fun k hk => hk))
      have ST6 : Hid (Stp F w (w5.setCell ⟨b, 0, none⟩ (.slice a5 (t + m) c5)).drew) := Lib.hid (ST5.out.set (.inl (.inl HF.out)) _).drew
      refine wp_region_any (by kernel_rfl) ?_
      change wpAny _ _ _ _ _ _ _ (World.drew _)
      generalize (w5.setCell ⟨b, 0, none⟩ (.slice a5 (t + m) c5)).drew = w6 at *
      clear HB4 X4 SV4 WV4 ST4 HZ4 HB5 X5 WV5 ST5 O5 e5 f5
      have e3 := HB6.out.cell (i := 3) rfl
      refine wpAny_take (i := 0) (oi := ⟨some 73, _, _, _, _, _⟩) (v := .pointer (some ⟨b, 2, none⟩)) rfl (by kernel_rfl) (by kernel_rfl) (by kernel_rfl) (fun _ _ _ h => h) (Or.inl ⟨by rfl, fun w => by go_simp⟩) ?_
      try simp only [Act.put, List.setIfInBounds_toArray, List.set_cons_zero, List.set_cons_succ]
      refine wpAny_take (i := 1) (oi := ⟨some 74, _, _, _, _, _⟩) (v := .pointer (some ⟨b, 2, none⟩)) rfl (by kernel_rfl) (by kernel_rfl) (by kernel_rfl) (fun _ _ _ h => h) (Or.inl ⟨by rfl, fun w => by go_simp⟩) ?_
      try simp only [Act.put, List.setIfInBounds_toArray, List.set_cons_zero, List.set_cons_succ]
      refine wpAny_take (i := 2) (oi := ⟨some 75, _, _, _, _, _⟩) (v := .pointer (some ⟨b, 2, none⟩)) rfl (by kernel_rfl) (by kernel_rfl) (by kernel_rfl) (fun _ _ _ h => h) (Or.inl ⟨by rfl, fun w => by go_simp⟩) ?_
      try simp only [Act.put, List.setIfInBounds_toArray, List.set_cons_zero, List.set_cons_succ]
      refine wpAny_take (i := 3) (oi := ⟨some 76, _, _, _, _, _⟩) (v := .pointer (some ⟨b, 3, none⟩)) rfl (by kernel_rfl) (by kernel_rfl) (by kernel_rfl) (fun _ _ _ h => h) (Or.inl ⟨by rfl, fun w => by go_simp⟩) ?_
      try simp only [Act.put, List.setIfInBounds_toArray, List.set_cons_zero, List.set_cons_succ]
      refine wpAny_take (i := 5) (oi := ⟨some 78, _, _, _, _, _⟩) (v := .slice (some ⟨xb, xo, none⟩) m xc) rfl (by kernel_rfl) (by kernel_rfl) (by kernel_rfl) (fun _ _ _ h => h) (Or.inl ⟨by rfl, fun w => by go_simp⟩) ?_
      try simp only [Act.put, List.setIfInBounds_toArray, List.set_cons_zero, List.set_cons_succ]
      refine wpAny_take (i := 6) (oi := ⟨some 79, _, _, _, _, _⟩) (v := .int .i64 (m : Int)) rfl (by kernel_rfl) (by kernel_rfl) (by kernel_rfl) (fun _ _ _ h => h) (Or.inl ⟨by rfl, fun w => by go_simp⟩) ?_
      try simp only [Act.put, List.setIfInBounds_toArray, List.set_cons_zero, List.set_cons_succ]
      refine wpAny_take (i := 7) (oi := ⟨some 80, _, _, _, _, _⟩) (v := .slice (some ⟨xb, xo, none⟩) m xc) rfl (by kernel_rfl) (by kernel_rfl) (by kernel_rfl) (fun _ _ _ h => h) (Or.inl ⟨by rfl, fun w => by go_simp⟩) ?_
      try simp only [Act.put, List.setIfInBounds_toArray, List.set_cons_zero, List.set_cons_succ]
      refine wpAny_ready (rs := [4]) (by kernel_rfl) (by simp) ?_
      refine AllReady.cons (o := ⟨some 77, _, _, _, _, _⟩) rfl (fun K hK => ?_) AllReady.nil
      go_simp
      refine hK _ _ ?_
      clear hK K
      try simp only [Act.put, List.setIfInBounds_toArray, List.set_cons_zero, List.set_cons_succ]
      refine wpAny_ready (rs := [8]) (by kernel_rfl) (by simp) ?_
      refine AllReady.cons (o := ⟨some 81, _, _, _, _, _⟩) rfl (fun K hK => ?_) AllReady.nil
      refine step_append_bytes rfl (.tmp 77) (.tmp 80) rfl wv (.slice (some ⟨xb, xo, none⟩) m xc) (x.take m) (by rfl) (by rfl) WV6.out (BV.take (k := m) X6.out (by have := HM.out; omega)) (by have := HFT.out; have := HM.out; rw [List.length_take, List.length_nil]; omega) ?_
      intro a7 c7 w7 hO7 hg7 ho7
      rw [List.length_nil, Nat.zero_add, HTM.out] at hO7 ho7 ⊢
      rw [List.nil_append] at hO7
      have HB7 : Hid (Blk w7 b _ _) := Lib.hid (HB6.out.of_same (hg7.block b HB6.out.lt (fun e => (HS6.out b e.symm).2 rfl)))
      have SV7 : Hid (OwnB w7 (.slice a5 (t + m) c5) (s.sent ++ x.take m)) := Lib.hid (SV6.out.same (F := fun k => (Value.slice a5 (t + m) c5).ownBlock = some k) (fun k hk => hg7.block k (SV6.out.lt k hk) (fun e => (HO5.out k hk).2.1 e.symm)) (fun k hk => hk))
      have ST7 : Hid (Stp F w w7) := Lib.hid (ST6.out.grown hg7 (fun k e => .inl (HS6.out k e).1))
      have O7 := Lib.hid hO7
      have HO7 : Hid (∀ k, (Value.slice a7 m c7).ownBlock = some k → k ≠ b ∧ (Value.slice a5 (t + m) c5).ownBlock ≠ some k ∧ (F k ∨ w.heap.size ≤ k)) := Lib.hid (fun k hk => by
        rcases ho7 with e | e
        · rw [e] at hk; have := HS6.out k hk; exact ⟨this.2, fun e2 => (HO5.out k e2).2.1 hk, .inl this.1⟩
        · rw [e] at hk; simp only [Option.some.injEq] at hk; have h1 := ST6.out.size; have h2 := HB6.out.lt; exact ⟨by omega, fun e2 => by have := SV6.out.lt k e2; omega, .inr (by omega)⟩)
      have e7 := HB7.out.cell (i := 3) rfl
      have f7 := HB7.out.free 3
      clear hO7 hg7 ho7 e3
      refine hK _ _ ?_
      clear hK K
      try simp only [Act.put, List.setIfInBounds_toArray, List.set_cons_zero, List.set_cons_succ]
      refine wpAny_take (i := 9) (oi := ⟨some 82, _, _, _, _, _⟩) (v := .pointer (some ⟨b, 2, none⟩)) rfl (by kernel_rfl) (by kernel_rfl) (by kernel_rfl) (fun _ _ _ h => h) (Or.inl ⟨by rfl, fun w => by go_simp⟩) ?_
      try simp only [Act.put, List.setIfInBounds_toArray, List.set_cons_zero, List.set_cons_succ]
      refine wpAny_take (i := 10) (oi := ⟨some 83, _, _, _, _, _⟩) (v := .pointer (some ⟨b, 3, none⟩)) rfl (by kernel_rfl) (by kernel_rfl) (by kernel_rfl) (fun _ _ _ h => h) (Or.inl ⟨by rfl, fun w => by go_simp⟩) ?_
      try simp only [Act.put, List.setIfInBounds_toArray, List.set_cons_zero, List.set_cons_succ]
      refine wpAny_ready (rs := [11]) (by kernel_rfl) (by simp) ?_
      refine AllReady.cons (o := ⟨none, _, _, _, _, _⟩) rfl (fun K hK => ?_) AllReady.nil
      go_simp
      refine hK _ _ ?_
      clear hK K
      try simp only [Act.put, List.setIfInBounds_toArray, List.set_cons_zero, List.set_cons_succ]
      refine wpAny_done (by kernel_rfl) ?_ _
      have HB8 : Hid (Blk (w7.setCell ⟨b, 3, none⟩ (.slice a7 m c7)) b [(.slice a5 (t + m) c5), .slice none 0 0, .slice none 0 0, (.slice a7 m c7), .int .i64 (s.bud : Int), .int .i64 cut, .bool false] 76) := Lib.hid (HB7.out.set 3 (.slice a7 m c7))
      have SV8 : Hid (OwnB (w7.setCell ⟨b, 3, none⟩ (.slice a7 m c7)) (.slice a5 (t + m) c5) (s.sent ++ x.take m)) := Lib.hid (SV7.out.same (F := fun k => (Value.slice a5 (t + m) c5).ownBlock = some k) (fun k hk => heap_setCell_other w7 ⟨b, 3, none⟩ k _ (HO5.out k hk).1) (fun k hk => hk))
      have WV8 : Hid (OwnB (w7.setCell ⟨b, 3, none⟩ (.slice a7 m c7)) (.slice a7 m c7) (x.take m)) := Lib.hid (O7.out.same (F := fun k => (Value.slice a7 m c7).ownBlock = some k) (fun k hk => heap_setCell_other w7 ⟨b, 3, none⟩ k _ (HO7.out k hk).1) (fun k hk => hk))
      have ST8 : Hid (Stp F w (w7.setCell ⟨b, 3, none⟩ (.slice a7 m c7))) := Lib.hid (ST7.out.set (.inl (.inl HF.out)) _)
      have e6 : (w7.setCell ⟨b, 3, none⟩ (.slice a7 m c7)).cell? ⟨b, 6, none⟩ = some (.bool false) := HB8.out.cell (i := 6) rfl
      clear e7 f7
      go_wp2_with fail
      generalize (w7.setCell ⟨b, 3, none⟩ (.slice a7 m c7)) = w8 at *
      go_ret2
      refine ⟨rfl, ST8.out, .inl HF.out, Plus.inn HI.out ST8.out.size, (.slice a5 (t + m) c5), (.slice a7 m c7), SV8.out, WV8.out, fun g hg => ⟨?_, (HO5.out g hg).1, fun e => (HO7.out g e).2.1 hg⟩, fun g hg => ⟨?_, (HO7.out g hg).1⟩, ?_⟩
      · rcases (HO5.out g hg).2.2 with h | h
        · exact .inl h
        · exact .inr ⟨h, SV8.out.lt g hg⟩
      · rcases (HO7.out g hg).2.2 with h | h
        · exact .inl h
        · exact .inr ⟨h, WV8.out.lt g hg⟩
      · rw [HCUT.out]; exact HB8.out
  · have HM : Hid (m ≤ ln) := Lib.hid (by omega)
    have jm : (m : Int) ≤ (xc : Int) := by omega
    have jl : ¬ xc < m := by omega
    obtain rfl : cut = (m : Int) + (t : Int) := by omega
    have jt : (t : Int) ≤ 1048576 := by have := HFT.out; omega
    have k1 : IntKind.i64.wrap ((m : Int) + (t : Int) - (t : Int)) = (m : Int) := by rw [IntKind.wrap_i64]; omega
    have k2 : (m : Int) < (ln : Int) := by omega
    have k4 : (m : Int) + (t : Int) - (t : Int) = (m : Int) := by omega
    clear hcm hmn
    go_quiet (first | (go_at_call 48; exact total_q H1.out HL.out HT.out))
    go_wp2_with fail
    have H2 := Lib.hid (H1.out.drewN nq)
    have HB2a : Hid (Blk (w1.drewN nq) b [sv, .slice none 0 0, .slice none 0 0, wv, .int .i64 (s.bud : Int), .int .i64 ((m : Int) + (t : Int)), .bool false] 76) := Lib.hid HB1.out
    have X2a : Hid (BV (w1.drewN nq) G (.slice (some ⟨xb, xo, none⟩) ln xc) x) := Lib.hid (X1.out.same (fun _ _ => rfl))
    have SV2a : Hid (OwnB (w1.drewN nq) sv s.sent) := Lib.hid (SV1.out.same (F := fun _ => True) (fun _ _ => rfl) (fun _ _ => trivial))
    have WV2a : Hid (OwnB (w1.drewN nq) wv []) := Lib.hid (WV1.out.same (F := fun _ => True) (fun _ _ => rfl) (fun _ _ => trivial))
    have ST2a : Hid (Stp F w (w1.drewN nq)) := Lib.hid (stp_drewN ST1.out nq)
    have HZ2a : Hid ((w1.drewN nq).heap.size = w.heap.size) := Lib.hid HZ1.out
    generalize w1.drewN nq = w2a at *
    have d5 := HB2a.out.cell (i := 5) rfl
    have d6 := HB2a.out.cell (i := 6) rfl
    have f6 := HB2a.out.free 6
    go_quiet (first | (go_at_call 48; exact total_q H2.out HL.out HT.out))
    go_wp2_with fail
    have HB2 : Hid (Blk ((w2a.drewN nq).setCell ⟨b, 6, none⟩ (.bool true)) b [sv, .slice none 0 0, .slice none 0 0, wv, .int .i64 (s.bud : Int), .int .i64 ((m : Int) + (t : Int)), .bool true] 76) := Lib.hid ((show Blk (w2a.drewN nq) b _ _ from HB2a.out).set 6 (.bool true))
    have X2 : Hid (BV ((w2a.drewN nq).setCell ⟨b, 6, none⟩ (.bool true)) G (.slice (some ⟨xb, xo, none⟩) ln xc) x) := Lib.hid (X2a.out.same (fun k hk => heap_setCell_other (w2a.drewN nq) ⟨b, 6, none⟩ k _ (fun e => (HGG.out k hk).2 (by rw [show k = b from e]; exact HF.out))))
    have SV2 : Hid (OwnB ((w2a.drewN nq).setCell ⟨b, 6, none⟩ (.bool true)) sv s.sent) := Lib.hid (SV2a.out.same (F := fun k => sv.ownBlock = some k) (fun k hk => heap_setCell_other (w2a.drewN nq) ⟨b, 6, none⟩ k _ (HS5.out k hk).2.1) (fun k hk => hk))
    have WV2 : Hid (OwnB ((w2a.drewN nq).setCell ⟨b, 6, none⟩ (.bool true)) wv []) := Lib.hid (WV2a.out.same (F := fun k => wv.ownBlock = some k) (fun k hk => heap_setCell_other (w2a.drewN nq) ⟨b, 6, none⟩ k _ (HS6.out k hk).2) (fun k hk => hk))
    have ST2 : Hid (Stp F w ((w2a.drewN nq).setCell ⟨b, 6, none⟩ (.bool true))) := Lib.hid ((stp_drewN ST2a.out nq).set (.inl (.inl HF.out)) _)
    have HZ2 : Hid (((w2a.drewN nq).setCell ⟨b, 6, none⟩ (.bool true)).heap.size = w.heap.size) := Lib.hid (by rw [← HZ2a.out]; simp)
    generalize (w2a.drewN nq).setCell ⟨b, 6, none⟩ (.bool true) = w2 at *
    clear d5 d6 f6 HB1 X1 SV1 WV1 ST1 HZ1 H1 HB2a X2a SV2a WV2a ST2a HZ2a H2 k1 k2 k4
    go_quiet (fail)
    go_wp2_with fail
    have HB3 : Hid (Blk (w2.drewN nq) b [sv, .slice none 0 0, .slice none 0 0, wv, .int .i64 (s.bud : Int), .int .i64 ((m : Int) + (t : Int)), .bool true] 76) := Lib.hid HB2.out
    have X3 : Hid (BV (w2.drewN nq) G (.slice (some ⟨xb, xo, none⟩) ln xc) x) := Lib.hid (X2.out.same (fun _ _ => rfl))
    have SV3 : Hid (OwnB (w2.drewN nq) sv s.sent) := Lib.hid (SV2.out.same (F := fun _ => True) (fun _ _ => rfl) (fun _ _ => trivial))
    have WV3 : Hid (OwnB (w2.drewN nq) wv []) := Lib.hid (WV2.out.same (F := fun _ => True) (fun _ _ => rfl) (fun _ _ => trivial))
    have ST3 : Hid (Stp F w (w2.drewN nq)) := Lib.hid (stp_drewN ST2.out nq)
    have HZ3 : Hid ((w2.drewN nq).heap.size = w.heap.size) := Lib.hid HZ2.out
    generalize w2.drewN nq = w3 at *
    clear HB2 X2 SV2 WV2 ST2 HZ2
    have HTM : Hid ((x.take m).length = m) := Lib.hid (by rw [List.length_take]; have := HM.out; have := HLN.out; omega)
    have HB4 : Hid (Blk w3.drew b [sv, .slice none 0 0, .slice none 0 0, wv, .int .i64 (s.bud : Int), .int .i64 ((m : Int) + (t : Int)), .bool true] 76) := Lib.hid HB3.out
    have X4 : Hid (BV w3.drew G (.slice (some ⟨xb, xo, none⟩) ln xc) x) := Lib.hid X3.out
    have SV4 : Hid (OwnB w3.drew sv s.sent) := Lib.hid SV3.out
    have WV4 : Hid (OwnB w3.drew wv []) := Lib.hid WV3.out
    have ST4 : Hid (Stp F w w3.drew) := Lib.hid ST3.out.drew
    have HZ4 : Hid (w3.drew.heap.size = w.heap.size) := Lib.hid HZ3.out
    refine wp_region_any (by kernel_rfl) ?_
    change wpAny _ _ _ _ _ _ _ (World.drew _)
    generalize w3.drew = w4 at *
    clear HB3 X3 SV3 WV3 ST3 HZ3
    have e0 := HB4.out.cell (i := 0) rfl
    refine wpAny_take (i := 0) (oi := ⟨some 62, _, _, _, _, _⟩) (v := .pointer (some ⟨b, 0, none⟩)) rfl (by kernel_rfl) (by kernel_rfl) (by kernel_rfl) (fun _ _ _ h => h) (Or.inl ⟨by rfl, fun w => by go_simp⟩) ?_
    try simp only [Act.put, List.setIfInBounds_toArray, List.set_cons_zero, List.set_cons_succ]
    refine wpAny_take (i := 1) (oi := ⟨some 63, _, _, _, _, _⟩) (v := .pointer (some ⟨b, 0, none⟩)) rfl (by kernel_rfl) (by kernel_rfl) (by kernel_rfl) (fun _ _ _ h => h) (Or.inl ⟨by rfl, fun w => by go_simp⟩) ?_
    try simp only [Act.put, List.setIfInBounds_toArray, List.set_cons_zero, List.set_cons_succ]
    refine wpAny_take (i := 2) (oi := ⟨some 64, _, _, _, _, _⟩) (v := .pointer (some ⟨b, 0, none⟩)) rfl (by kernel_rfl) (by kernel_rfl) (by kernel_rfl) (fun _ _ _ h => h) (Or.inl ⟨by rfl, fun w => by go_simp⟩) ?_
    try simp only [Act.put, List.setIfInBounds_toArray, List.set_cons_zero, List.set_cons_succ]
    refine wpAny_take (i := 3) (oi := ⟨some 65, _, _, _, _, _⟩) (v := .pointer (some ⟨b, 0, none⟩)) rfl (by kernel_rfl) (by kernel_rfl) (by kernel_rfl) (fun _ _ _ h => h) (Or.inl ⟨by rfl, fun w => by go_simp⟩) ?_
    try simp only [Act.put, List.setIfInBounds_toArray, List.set_cons_zero, List.set_cons_succ]
    refine wpAny_take (i := 5) (oi := ⟨some 67, _, _, _, _, _⟩) (v := .slice (some ⟨xb, xo, none⟩) ln xc) rfl (by kernel_rfl) (by kernel_rfl) (by kernel_rfl) (fun _ _ _ h => h) (Or.inl ⟨by rfl, fun w => by go_simp⟩) ?_
    try simp only [Act.put, List.setIfInBounds_toArray, List.set_cons_zero, List.set_cons_succ]
    refine wpAny_take (i := 6) (oi := ⟨some 68, _, _, _, _, _⟩) (v := .int .i64 (m : Int)) rfl (by kernel_rfl) (by kernel_rfl) (by kernel_rfl) (fun _ _ _ h => h) (Or.inl ⟨by rfl, fun w => by go_simp⟩) ?_
    try simp only [Act.put, List.setIfInBounds_toArray, List.set_cons_zero, List.set_cons_succ]
    refine wpAny_take (i := 7) (oi := ⟨some 69, _, _, _, _, _⟩) (v := .slice (some ⟨xb, xo, none⟩) m xc) rfl (by kernel_rfl) (by kernel_rfl) (by kernel_rfl) (fun _ _ _ h => h) (Or.inl ⟨by rfl, fun w => by go_simp⟩) ?_
    try simp only [Act.put, List.setIfInBounds_toArray, List.set_cons_zero, List.set_cons_succ]
    refine wpAny_ready (rs := [4]) (by kernel_rfl) (by simp) ?_
    refine AllReady.cons (o := ⟨some 66, _, _, _, _, _⟩) rfl (fun K hK => ?_) AllReady.nil
    go_simp
    refine hK _ _ ?_
    clear hK K
    try simp only [Act.put, List.setIfInBounds_toArray, List.set_cons_zero, List.set_cons_succ]
    refine wpAny_ready (rs := [8]) (by kernel_rfl) (by simp) ?_
    refine AllReady.cons (o := ⟨some 70, _, _, _, _, _⟩) rfl (fun K hK => ?_) AllReady.nil
    refine step_append_bytes rfl (.tmp 66) (.tmp 69) rfl sv (.slice (some ⟨xb, xo, none⟩) m xc) (x.take m) (by rfl) (by rfl) SV4.out (BV.take (k := m) X4.out (by have := HM.out; omega)) (by have := HFT.out; have := HT.out; have := HM.out; rw [List.length_take]; omega) ?_
    intro a5 c5 w5 hO5 hg5 ho5
    rw [HT.out, HTM.out] at hO5 ho5 ⊢
    have HB5 : Hid (Blk w5 b _ _) := Lib.hid (HB4.out.of_same (hg5.block b HB4.out.lt (fun e => (HS5.out b e.symm).2.1 rfl)))
    have X5 : Hid (BV w5 G (.slice (some ⟨xb, xo, none⟩) ln xc) x) := Lib.hid (X4.out.same (fun k hk => hg5.block k (by have := (HGG.out k hk).1; have := HZ4.out; omega) (fun e => (HGG.out k hk).2 (HS5.out k e.symm).1)))
    have WV5 : Hid (OwnB w5 wv []) := Lib.hid (WV4.out.same (F := fun k => wv.ownBlock = some k) (fun k hk => hg5.block k (WV4.out.lt k hk) (fun e => (HS5.out k e.symm).2.2 hk)) (fun k hk => hk))
    have ST5 : Hid (Stp F w w5) := Lib.hid (ST4.out.grown hg5 (fun k e => .inl (HS5.out k e).1))
    have O5 := Lib.hid hO5
    have HO5 : Hid (∀ k, (Value.slice a5 (t + m) c5).ownBlock = some k → k ≠ b ∧ wv.ownBlock ≠ some k ∧ (F k ∨ w.heap.size ≤ k)) := Lib.hid (fun k hk => by
      rcases ho5 with e | e
      · rw [e] at hk; have := HS5.out k hk; exact ⟨this.2.1, this.2.2, .inl this.1⟩
      · rw [e] at hk; simp only [Option.some.injEq] at hk; have h1 := HZ4.out; have h2 := HB4.out.lt; exact ⟨by omega, fun e2 => by have := WV4.out.lt k e2; omega, .inr (by omega)⟩)
    have e5 := HB5.out.cell (i := 0) rfl
    have f5 := HB5.out.free 0
    clear hO5 hg5 ho5 e0
    refine hK _ _ ?_
    clear hK K
    try simp only [Act.put, List.setIfInBounds_toArray, List.set_cons_zero, List.set_cons_succ]
    refine wpAny_take (i := 9) (oi := ⟨some 71, _, _, _, _, _⟩) (v := .pointer (some ⟨b, 0, none⟩)) rfl (by kernel_rfl) (by kernel_rfl) (by kernel_rfl) (fun _ _ _ h => h) (Or.inl ⟨by rfl, fun w => by go_simp⟩) ?_
    try simp only [Act.put, List.setIfInBounds_toArray, List.set_cons_zero, List.set_cons_succ]
    refine wpAny_take (i := 10) (oi := ⟨some 72, _, _, _, _, _⟩) (v := .pointer (some ⟨b, 0, none⟩)) rfl (by kernel_rfl) (by kernel_rfl) (by kernel_rfl) (fun _ _ _ h => h) (Or.inl ⟨by rfl, fun w => by go_simp⟩) ?_
    try simp only [Act.put, List.setIfInBounds_toArray, List.set_cons_zero, List.set_cons_succ]
    refine wpAny_ready (rs := [11]) (by kernel_rfl) (by simp) ?_
    refine AllReady.cons (o := ⟨none, _, _, _, _, _⟩) rfl (fun K hK => ?_) AllReady.nil
    go_simp
    refine hK _ _ ?_
    clear hK K
    try simp only [Act.put, List.setIfInBounds_toArray, List.set_cons_zero, List.set_cons_succ]
    refine wpAny_done (by kernel_rfl) ?_ _
    go_wp2_with fail
    have HB6 : Hid (Blk (w5.setCell ⟨b, 0, none⟩ (.slice a5 (t + m) c5)).drew b [(.slice a5 (t + m) c5), .slice none 0 0, .slice none 0 0, wv, .int .i64 (s.bud : Int), .int .i64 ((m : Int) + (t : Int)), .bool true] 76) := Lib.hid (HB5.out.set 0 (.slice a5 (t + m) c5))
    have X6 : Hid (BV (w5.setCell ⟨b, 0, none⟩ (.slice a5 (t + m) c5)).drew G (.slice (some ⟨xb, xo, none⟩) ln xc) x) := Lib.hid (X5.out.same (fun k hk => heap_setCell_other w5 ⟨b, 0, none⟩ k _ (fun e => (HGG.out k hk).2 (by rw [show k = b from e]; exact HF.out))))
    have SV6 : Hid (OwnB (w5.setCell ⟨b, 0, none⟩ (.slice a5 (t + m) c5)).drew (.slice a5 (t + m) c5) (s.sent ++ x.take m)) := Lib.hid (O5.out.same (F := fun k => (Value.slice a5 (t + m) c5).ownBlock = some k) (fun k hk => heap_setCell_other w5 ⟨b, 0, none⟩ k _ (HO5.out k hk).1) (fun k hk => hk))
    have WV6 : Hid (OwnB (w5.setCell ⟨b, 0, none⟩ (.slice a5 (t + m) c5)).drew wv []) := Lib.hid (WV5.out.same (F := fun k => wv.ownBlock = some k) (fun k hk => heap_setCell_other w5 ⟨b, 0, none⟩ k _ (HS6.out k hk).2) (fun k hk => hk))
    have ST6 : Hid (Stp F w (w5.setCell ⟨b, 0, none⟩ (.slice a5 (t + m) c5)).drew) := Lib.hid (ST5.out.set (.inl (.inl HF.out)) _).drew
    refine wp_region_any (by kernel_rfl) ?_
    change wpAny _ _ _ _ _ _ _ (World.drew _)
    generalize (w5.setCell ⟨b, 0, none⟩ (.slice a5 (t + m) c5)).drew = w6 at *
    clear HB4 X4 SV4 WV4 ST4 HZ4 HB5 X5 WV5 ST5 O5 e5 f5
    have e3 := HB6.out.cell (i := 3) rfl
    refine wpAny_take (i := 0) (oi := ⟨some 73, _, _, _, _, _⟩) (v := .pointer (some ⟨b, 2, none⟩)) rfl (by kernel_rfl) (by kernel_rfl) (by kernel_rfl) (fun _ _ _ h => h) (Or.inl ⟨by rfl, fun w => by go_simp⟩) ?_
    try simp only [Act.put, List.setIfInBounds_toArray, List.set_cons_zero, List.set_cons_succ]
    refine wpAny_take (i := 1) (oi := ⟨some 74, _, _, _, _, _⟩) (v := .pointer (some ⟨b, 2, none⟩)) rfl (by kernel_rfl) (by kernel_rfl) (by kernel_rfl) (fun _ _ _ h => h) (Or.inl ⟨by rfl, fun w => by go_simp⟩) ?_
    try simp only [Act.put, List.setIfInBounds_toArray, List.set_cons_zero, List.set_cons_succ]
    refine wpAny_take (i := 2) (oi := ⟨some 75, _, _, _, _, _⟩) (v := .pointer (some ⟨b, 2, none⟩)) rfl (by kernel_rfl) (by kernel_rfl) (by kernel_rfl) (fun _ _ _ h => h) (Or.inl ⟨by rfl, fun w => by go_simp⟩) ?_
    try simp only [Act.put, List.setIfInBounds_toArray, List.set_cons_zero, List.set_cons_succ]
    refine wpAny_take (i := 3) (oi := ⟨some 76, _, _, _, _, _⟩) (v := .pointer (some ⟨b, 3, none⟩)) rfl (by kernel_rfl) (by kernel_rfl) (by kernel_rfl) (fun _ _ _ h => h) (Or.inl ⟨by rfl, fun w => by go_simp⟩) ?_
    try simp only [Act.put, List.setIfInBounds_toArray, List.set_cons_zero, List.set_cons_succ]
    refine wpAny_take (i := 5) (oi := ⟨some 78, _, _, _, _, _⟩) (v := .slice (some ⟨xb, xo, none⟩) ln xc) rfl (by kernel_rfl) (by kernel_rfl) (by kernel_rfl) (fun _ _ _ h => h) (Or.inl ⟨by rfl, fun w => by go_simp⟩) ?_
    try simp only [Act.put, List.setIfInBounds_toArray, List.set_cons_zero, List.set_cons_succ]
    refine wpAny_take (i := 6) (oi := ⟨some 79, _, _, _, _, _⟩) (v := .int .i64 (m : Int)) rfl (by kernel_rfl) (by kernel_rfl) (by kernel_rfl) (fun _ _ _ h => h) (Or.inl ⟨by rfl, fun w => by go_simp⟩) ?_
    try simp only [Act.put, List.setIfInBounds_toArray, List.set_cons_zero, List.set_cons_succ]
    refine wpAny_take (i := 7) (oi := ⟨some 80, _, _, _, _, _⟩) (v := .slice (some ⟨xb, xo, none⟩) m xc) rfl (by kernel_rfl) (by kernel_rfl) (by kernel_rfl) (fun _ _ _ h => h) (Or.inl ⟨by rfl, fun w => by go_simp⟩) ?_
    try simp only [Act.put, List.setIfInBounds_toArray, List.set_cons_zero, List.set_cons_succ]
    refine wpAny_ready (rs := [4]) (by kernel_rfl) (by simp) ?_
    refine AllReady.cons (o := ⟨some 77, _, _, _, _, _⟩) rfl (fun K hK => ?_) AllReady.nil
    go_simp
    refine hK _ _ ?_
    clear hK K
    try simp only [Act.put, List.setIfInBounds_toArray, List.set_cons_zero, List.set_cons_succ]
    refine wpAny_ready (rs := [8]) (by kernel_rfl) (by simp) ?_
    refine AllReady.cons (o := ⟨some 81, _, _, _, _, _⟩) rfl (fun K hK => ?_) AllReady.nil
    refine step_append_bytes rfl (.tmp 77) (.tmp 80) rfl wv (.slice (some ⟨xb, xo, none⟩) m xc) (x.take m) (by rfl) (by rfl) WV6.out (BV.take (k := m) X6.out (by have := HM.out; omega)) (by have := HFT.out; have := HM.out; rw [List.length_take, List.length_nil]; omega) ?_
    intro a7 c7 w7 hO7 hg7 ho7
    rw [List.length_nil, Nat.zero_add, HTM.out] at hO7 ho7 ⊢
    rw [List.nil_append] at hO7
    have HB7 : Hid (Blk w7 b _ _) := Lib.hid (HB6.out.of_same (hg7.block b HB6.out.lt (fun e => (HS6.out b e.symm).2 rfl)))
    have SV7 : Hid (OwnB w7 (.slice a5 (t + m) c5) (s.sent ++ x.take m)) := Lib.hid (SV6.out.same (F := fun k => (Value.slice a5 (t + m) c5).ownBlock = some k) (fun k hk => hg7.block k (SV6.out.lt k hk) (fun e => (HO5.out k hk).2.1 e.symm)) (fun k hk => hk))
    have ST7 : Hid (Stp F w w7) := Lib.hid (ST6.out.grown hg7 (fun k e => .inl (HS6.out k e).1))
    have O7 := Lib.hid hO7
    have HO7 : Hid (∀ k, (Value.slice a7 m c7).ownBlock = some k → k ≠ b ∧ (Value.slice a5 (t + m) c5).ownBlock ≠ some k ∧ (F k ∨ w.heap.size ≤ k)) := Lib.hid (fun k hk => by
      rcases ho7 with e | e
      · rw [e] at hk; have := HS6.out k hk; exact ⟨this.2, fun e2 => (HO5.out k e2).2.1 hk, .inl this.1⟩
      · rw [e] at hk; simp only [Option.some.injEq] at hk; have h1 := ST6.out.size; have h2 := HB6.out.lt; exact ⟨by omega, fun e2 => by have := SV6.out.lt k e2; omega, .inr (by omega)⟩)
    have e7 := HB7.out.cell (i := 3) rfl
    have f7 := HB7.out.free 3
    clear hO7 hg7 ho7 e3
    refine hK _ _ ?_
    clear hK K
    try simp only [Act.put, List.setIfInBounds_toArray, List.set_cons_zero, List.set_cons_succ]
    refine wpAny_take (i := 9) (oi := ⟨some 82, _, _, _, _, _⟩) (v := .pointer (some ⟨b, 2, none⟩)) rfl (by kernel_rfl) (by kernel_rfl) (by kernel_rfl) (fun _ _ _ h => h) (Or.inl ⟨by rfl, fun w => by go_simp⟩) ?_
    try simp only [Act.put, List.setIfInBounds_toArray, List.set_cons_zero, List.set_cons_succ]
    refine wpAny_take (i := 10) (oi := ⟨some 83, _, _, _, _, _⟩) (v := .pointer (some ⟨b, 3, none⟩)) rfl (by kernel_rfl) (by kernel_rfl) (by kernel_rfl) (fun _ _ _ h => h) (Or.inl ⟨by rfl, fun w => by go_simp⟩) ?_
    try simp only [Act.put, List.setIfInBounds_toArray, List.set_cons_zero, List.set_cons_succ]
    refine wpAny_ready (rs := [11]) (by kernel_rfl) (by simp) ?_
    refine AllReady.cons (o := ⟨none, _, _, _, _, _⟩) rfl (fun K hK => ?_) AllReady.nil
    go_simp
    refine hK _ _ ?_
    clear hK K
    try simp only [Act.put, List.setIfInBounds_toArray, List.set_cons_zero, List.set_cons_succ]
    refine wpAny_done (by kernel_rfl) ?_ _
    have HB8 : Hid (Blk (w7.setCell ⟨b, 3, none⟩ (.slice a7 m c7)) b [(.slice a5 (t + m) c5), .slice none 0 0, .slice none 0 0, (.slice a7 m c7), .int .i64 (s.bud : Int), .int .i64 ((m : Int) + (t : Int)), .bool true] 76) := Lib.hid (HB7.out.set 3 (.slice a7 m c7))
    have SV8 : Hid (OwnB (w7.setCell ⟨b, 3, none⟩ (.slice a7 m c7)) (.slice a5 (t + m) c5) (s.sent ++ x.take m)) := Lib.hid (SV7.out.same (F := fun k => (Value.slice a5 (t + m) c5).ownBlock = some k) (fun k hk => heap_setCell_other w7 ⟨b, 3, none⟩ k _ (HO5.out k hk).1) (fun k hk => hk))
    have WV8 : Hid (OwnB (w7.setCell ⟨b, 3, none⟩ (.slice a7 m c7)) (.slice a7 m c7) (x.take m)) := Lib.hid (O7.out.same (F := fun k => (Value.slice a7 m c7).ownBlock = some k) (fun k hk => heap_setCell_other w7 ⟨b, 3, none⟩ k _ (HO7.out k hk).1) (fun k hk => hk))
    have ST8 : Hid (Stp F w (w7.setCell ⟨b, 3, none⟩ (.slice a7 m c7))) := Lib.hid (ST7.out.set (.inl (.inl HF.out)) _)
    have e6 : (w7.setCell ⟨b, 3, none⟩ (.slice a7 m c7)).cell? ⟨b, 6, none⟩ = some (.bool true) := HB8.out.cell (i := 6) rfl
    clear e7 f7
    go_wp2_with fail
    generalize (w7.setCell ⟨b, 3, none⟩ (.slice a7 m c7)) = w8 at *
    go_ret2
    refine ⟨rfl, ST8.out, .inl HF.out, Plus.inn HI.out ST8.out.size, (.slice a5 (t + m) c5), (.slice a7 m c7), SV8.out, WV8.out, fun g hg => ⟨?_, (HO5.out g hg).1, fun e => (HO7.out g e).2.1 hg⟩, fun g hg => ⟨?_, (HO7.out g hg).1⟩, ?_⟩
    · rcases (HO5.out g hg).2.2 with h | h
      · exact .inl h
      · exact .inr ⟨h, SV8.out.lt g hg⟩
    · rcases (HO7.out g hg).2.2 with h | h
      · exact .inl h
      · exact .inr ⟨h, WV8.out.lt g hg⟩
    · rw [HCUT.out]; exact HB8.out
end
end Go.Proofs.YtggiinfeiilogaaDoor
