/- Contract of the reference decoder's Next. -/
import Derived.Test.YtggiinfeiilogaaDoorFdL
import Derived.Deep.RegionHeld3
import Derived.Deep.DeepCutAuto
namespace Go.Proofs.YtggiinfeiilogaaDoor
open Go.RowKit
set_option linter.unusedSimpArgs false
/-- A decoder of the reference at block b: the stream S, the offset a, and whether it is bad; b's cells alone turn. -/
def RefD (w : World) (b : Nat) (sv : Value) (a : Nat) (bad : Bool) : Prop := Blk w b [sv, .int .i64 (a : Int), .bool bad] 53
section
variable {w w' : World} {F : Nat → Prop} {sv : Value} {S : List UInt8} {b a : Nat}
set_option maxHeartbeats 1000000 in
theorem refnext_bad (h : RefD w b sv a true) : Calls Tryd.prog 31 #[.pointer (some ⟨b, 0, none⟩)] w fun e w' => e = .returned (.tuple #[msg0, .bool false, .int .i64 9]) ∧ Below w.heap.size w w' := by
  unfold RefD at h
  have d2 := h.cell (i := 2) rfl
  have hlt := h.lt
  clear h
  go_enter Tryd.func31, Tryd.ntmps31
  go_wp2_with fail
  refine ret_msg rfl (g := w.heap.size) rfl (Blk.new w [.int .i64 0, .slice none 0 0] _) rfl ?_
  exact ⟨rfl, (Below.refl _ _).alloc (Nat.le_refl _) _⟩
set_option maxHeartbeats 1000000 in
theorem refnext_end (h : RefD w b sv a false) (hx : BV w F sv S) (ha : S.length = a) : Calls Tryd.prog 31 #[.pointer (some ⟨b, 0, none⟩)] w fun e w' => e = .returned (.tuple #[msg0, .bool false, .int .i64 0]) ∧ Below w.heap.size w w' := by
  obtain ⟨xa, xc, rfl, x1, x2, -⟩ := hx.get
  subst ha
  unfold RefD at h
  have e0 := (h.alloc (.cells #[.int .i64 0, .slice none 0 0] 32)).cell (i := 0) rfl
  have e1 := (h.alloc (.cells #[.int .i64 0, .slice none 0 0] 32)).cell (i := 1) rfl
  have d2 := h.cell (i := 2) rfl
  have hlt := h.lt
  have P : Hid (Blk (w.alloc (.cells #[.int .i64 0, .slice none 0 0] 32)) w.heap.size [.int .i64 0, .slice none 0 0] 32) := Lib.hid (Blk.new w _ _)
  have B1 : Hid (Below w.heap.size w (w.alloc (.cells #[.int .i64 0, .slice none 0 0] 32))) := Lib.hid ((Below.refl _ _).alloc (Nat.le_refl _) _)
  clear h hx
  go_enter Tryd.func31, Tryd.ntmps31
  go_wp2_with fail
  generalize w.alloc (.cells #[.int .i64 0, .slice none 0 0] 32) = w1 at *
  go_quiet (fail)
  have p0 := P.out.cell (i := 0) rfl
  have p1 := P.out.cell (i := 1) rfl
  have pf := P.out.free
  go_wp2_with fail
  refine ret_msg rfl (g := w.heap.size) rfl (((show Blk (w1.drewN nq) w.heap.size _ _ from P.out).set 0 (.int .i64 0)).set 1 (.slice none 0 0)) rfl ⟨rfl, ?_⟩
  exact ((below_drewN2 B1.out nq).setCell (Nat.le_refl _) _).setCell (Nat.le_refl _) _
abbrev NxS (w1 : World) (b a : Nat) (xv : Value) (w' : World) : Prop := Below w1.heap.size w1 w' ∧ w'.cell? ⟨b, 0, none⟩ = some xv ∧ w'.cell? ⟨b, 1, none⟩ = some (.int .i64 (a : Int))
theorem NxS.next {w1 w2 : World} {xv : Value} (hl : b < w1.heap.size) (h : NxS w1 b a xv w') (h2 : Below w'.heap.size w' w2) : NxS w1 b a xv w2 :=
  ⟨h.1.trans (h2.mono h.1.size), (h2.cell (p := ⟨b, 0, none⟩) (Nat.lt_of_lt_of_le hl h.1.size)).trans h.2.1, (h2.cell (p := ⟨b, 1, none⟩) (Nat.lt_of_lt_of_le hl h.1.size)).trans h.2.2⟩
theorem NxS.len {w1 : World} {xv : Value} (hx : BV w1 F xv S) (hF : ∀ k, F k → k < w1.heap.size) (ha : a < S.length) (hn : S.length ≤ 1000000) {X : Fr.Len} (hX : Fr.lenAt (S.drop a) = X) (h : NxS w1 b a xv w') :
    Calls Tryd.prog 52 #[xv, .int .i64 ((a : Int) + 1)] w' fun e w'' => RLenPost a X e ∧ Below w'.heap.size w' w'' := by
  subst hX; exact reflen_any (hx.grow h.1) (fun k hk => Nat.lt_of_lt_of_le (hF k hk) h.1.size) ha hn
set_option maxRecDepth 100000 in
set_option maxHeartbeats 2000000 in
theorem refnext_need (h : RefD w b sv a false) (hx : BV w F sv S) (hF : ∀ k, F k → k < w.heap.size) (ha : a < S.length) (hn : S.length ≤ 1000000) (hX : Fr.lenAt (S.drop a) = .need) : Calls Tryd.prog 31 #[.pointer (some ⟨b, 0, none⟩)] w fun e w' => e = .returned (.tuple #[msg0, .bool false, .int .i64 0]) ∧ Below w.heap.size w w' := by
  obtain ⟨xa, xc, rfl, x1, x2, hg⟩ := hx.get
  obtain ⟨xb, xo, rfl, -, -⟩ := hg 0 (by omega)
  unfold maxLen at x2
  unfold RefD at h
  obtain ⟨n, hnn⟩ : ∃ n, S.length = n := ⟨_, rfl⟩
  have e0 := (h.alloc (.cells #[.int .i64 0, .slice none 0 0] 32)).cell (i := 0) rfl
  have e1 := (h.alloc (.cells #[.int .i64 0, .slice none 0 0] 32)).cell (i := 1) rfl
  have d2 := h.cell (i := 2) rfl
  have hlt := h.lt
  rw [hnn] at ha hn x1 hx e0 h
  try rw [hnn]
  have hlt1 : b < (w.alloc (.cells #[.int .i64 0, .slice none 0 0] 32)).heap.size := by simp; omega
  have HLT := Lib.hid hlt1
  have P : Hid (Blk (w.alloc (.cells #[.int .i64 0, .slice none 0 0] 32)) w.heap.size [.int .i64 0, .slice none 0 0] 32) := Lib.hid (Blk.new w _ _)
  have RD : Hid (Blk (w.alloc (.cells #[.int .i64 0, .slice none 0 0] 32)) b _ _) := Lib.hid (h.alloc _)
  have hb1 : Below w.heap.size w (w.alloc (.cells #[.int .i64 0, .slice none 0 0] 32)) := (Below.refl _ _).alloc (Nat.le_refl _) _
  have B1 := Lib.hid hb1
  have X1 := Lib.hid (hx.grow hb1)
  have HF1 := Lib.hid (fun k hk => Nat.lt_of_lt_of_le (hF k hk) hb1.size)
  have HNN := Lib.hid hnn
  have HA := Lib.hid (show a < S.length by omega)
  have HN2 := Lib.hid (show S.length ≤ 1000000 by omega)
  have iab : ((a : Int) == (n : Int)) = false := by rw [beq_eq_false_iff_ne]; omega
  have ia : (a : Int) < (n : Int) := by omega
  have in_ : (n : Int) ≤ 1000000 := by omega
  have HXX := Lib.hid hX
  clear hX
  clear h hx hF hg hb1 hnn hlt1
  go_enter Tryd.func31, Tryd.ntmps31
  go_wp2_with fail
  generalize w.alloc (.cells #[.int .i64 0, .slice none 0 0] 32) = w0 at *
  go_quiet (fail)
  go_wp2_with fail
  have HP : Hid (Blk (w0.drewN nq) w.heap.size [.int .i64 0, .slice none 0 0] 32) := Lib.hid P.out
  have HRD : Hid (Blk (w0.drewN nq) b [.slice (some ⟨xb, xo, none⟩) n xc, .int .i64 (a : Int), .bool false] 53) := Lib.hid RD.out
  have HB : Hid (Below w.heap.size w (w0.drewN nq)) := Lib.hid (below_drewN2 B1.out nq)
  have HX : Hid (BV (w0.drewN nq) F (.slice (some ⟨xb, xo, none⟩) n xc) S) := Lib.hid (X1.out.same (fun _ _ => rfl))
  have HFF : Hid (∀ k, F k → k < (w0.drewN nq).heap.size) := Lib.hid HF1.out
  have HL1 : Hid (b < (w0.drewN nq).heap.size) := Lib.hid HLT.out
  generalize w0.drewN nq = w1 at *
  have q0 := HRD.out.cell (i := 0) rfl
  have q1 := HRD.out.cell (i := 1) rfl
  have HS0 : Hid (NxS w1 b a (.slice (some ⟨xb, xo, none⟩) n xc) w1.drew) := Lib.hid ⟨(Below.refl _ _).drew, q0, q1⟩
  have k1 : IntKind.i64.wrap ((a : Int) + 1) = (a : Int) + 1 := by rw [IntKind.wrap_i64]; omega
  clear P RD B1 X1 HF1 HLT e0 e1 d2
  go_region_held3 (fun w' => Below w1.heap.size w1 w' ∧ w'.cell? ⟨b, 0, none⟩ = some (.slice (some ⟨xb, xo, none⟩) n xc) ∧ w'.cell? ⟨b, 1, none⟩ = some (.int .i64 (a : Int)))
    (first
      | assumption
      | exact HS0.out
      | exact NxS.next HL1.out (by assumption) hb)
    (first
      | (go_at_call 52; refine (NxS.len HX.out HFF.out HA.out HN2.out HXX.out (by assumption)).mono ?_; rintro e w' ⟨rfl, hb⟩))
  rename_i hH
  rename World => w2
  have B2 := Lib.hid (HB.out.trans (hH.1.mono HB.out.size))
  have P2 := Lib.hid (HP.out.of_same (hH.1.block _ HP.out.lt))
  have R2 := Lib.hid (HRD.out.of_same (hH.1.block _ HRD.out.lt))
  have p0 := P2.out.cell (i := 0) rfl
  have p1 := P2.out.cell (i := 1) rfl
  have pf := P2.out.free
  have r0 := R2.out.cell (i := 0) rfl
  have r2 := R2.out.cell (i := 2) rfl
  have rf := R2.out.free
  have HH := Lib.hid hH.1
  have nb : b ≠ w.heap.size := by omega
  clear q0 q1 HS0 k1 hH
  go_wp2_with fail
  refine ret_msg rfl (g := w.heap.size) rfl ((P2.out.set 0 (.int .i64 0)).set 1 (.slice none 0 0)) rfl ⟨rfl, ?_⟩
  exact (B2.out.setCell (Nat.le_refl _) _).setCell (Nat.le_refl _) _
set_option maxRecDepth 100000 in
set_option maxHeartbeats 2000000 in
theorem refnext_invalid (h : RefD w b sv a false) (hx : BV w F sv S) (hF : ∀ k, F k → k < w.heap.size) (ha : a < S.length) (hn : S.length ≤ 1000000) (hX : Fr.lenAt (S.drop a) = .bad) : Calls Tryd.prog 31 #[.pointer (some ⟨b, 0, none⟩)] w fun e w' => e = .returned (.tuple #[msg0, .bool false, .int .i64 9]) ∧ Stp (· = b) w w' ∧ RefD w' b sv a true := by
  obtain ⟨xa, xc, rfl, x1, x2, hg⟩ := hx.get
  obtain ⟨xb, xo, rfl, -, -⟩ := hg 0 (by omega)
  unfold maxLen at x2
  unfold RefD at h
  obtain ⟨n, hnn⟩ : ∃ n, S.length = n := ⟨_, rfl⟩
  have e0 := (h.alloc (.cells #[.int .i64 0, .slice none 0 0] 32)).cell (i := 0) rfl
  have e1 := (h.alloc (.cells #[.int .i64 0, .slice none 0 0] 32)).cell (i := 1) rfl
  have d2 := h.cell (i := 2) rfl
  have hlt := h.lt
  rw [hnn] at ha hn x1 hx e0 h
  try rw [hnn]
  have hlt1 : b < (w.alloc (.cells #[.int .i64 0, .slice none 0 0] 32)).heap.size := by simp; omega
  have HLT := Lib.hid hlt1
  have P : Hid (Blk (w.alloc (.cells #[.int .i64 0, .slice none 0 0] 32)) w.heap.size [.int .i64 0, .slice none 0 0] 32) := Lib.hid (Blk.new w _ _)
  have RD : Hid (Blk (w.alloc (.cells #[.int .i64 0, .slice none 0 0] 32)) b _ _) := Lib.hid (h.alloc _)
  have hb1 : Below w.heap.size w (w.alloc (.cells #[.int .i64 0, .slice none 0 0] 32)) := (Below.refl _ _).alloc (Nat.le_refl _) _
  have B1 := Lib.hid hb1
  have X1 := Lib.hid (hx.grow hb1)
  have HF1 := Lib.hid (fun k hk => Nat.lt_of_lt_of_le (hF k hk) hb1.size)
  have HNN := Lib.hid hnn
  have HA := Lib.hid (show a < S.length by omega)
  have HN2 := Lib.hid (show S.length ≤ 1000000 by omega)
  have iab : ((a : Int) == (n : Int)) = false := by rw [beq_eq_false_iff_ne]; omega
  have ia : (a : Int) < (n : Int) := by omega
  have in_ : (n : Int) ≤ 1000000 := by omega
  have HXX := Lib.hid hX
  clear hX
  clear h hx hF hg hb1 hnn hlt1
  go_enter Tryd.func31, Tryd.ntmps31
  go_wp2_with fail
  generalize w.alloc (.cells #[.int .i64 0, .slice none 0 0] 32) = w0 at *
  go_quiet (fail)
  go_wp2_with fail
  have HP : Hid (Blk (w0.drewN nq) w.heap.size [.int .i64 0, .slice none 0 0] 32) := Lib.hid P.out
  have HRD : Hid (Blk (w0.drewN nq) b [.slice (some ⟨xb, xo, none⟩) n xc, .int .i64 (a : Int), .bool false] 53) := Lib.hid RD.out
  have HB : Hid (Below w.heap.size w (w0.drewN nq)) := Lib.hid (below_drewN2 B1.out nq)
  have HX : Hid (BV (w0.drewN nq) F (.slice (some ⟨xb, xo, none⟩) n xc) S) := Lib.hid (X1.out.same (fun _ _ => rfl))
  have HFF : Hid (∀ k, F k → k < (w0.drewN nq).heap.size) := Lib.hid HF1.out
  have HL1 : Hid (b < (w0.drewN nq).heap.size) := Lib.hid HLT.out
  generalize w0.drewN nq = w1 at *
  have q0 := HRD.out.cell (i := 0) rfl
  have q1 := HRD.out.cell (i := 1) rfl
  have HS0 : Hid (NxS w1 b a (.slice (some ⟨xb, xo, none⟩) n xc) w1.drew) := Lib.hid ⟨(Below.refl _ _).drew, q0, q1⟩
  have k1 : IntKind.i64.wrap ((a : Int) + 1) = (a : Int) + 1 := by rw [IntKind.wrap_i64]; omega
  clear P RD B1 X1 HF1 HLT e0 e1 d2
  go_region_held3 (fun w' => Below w1.heap.size w1 w' ∧ w'.cell? ⟨b, 0, none⟩ = some (.slice (some ⟨xb, xo, none⟩) n xc) ∧ w'.cell? ⟨b, 1, none⟩ = some (.int .i64 (a : Int)))
    (first
      | assumption
      | exact HS0.out
      | exact NxS.next HL1.out (by assumption) hb)
    (first
      | (go_at_call 52; refine (NxS.len HX.out HFF.out HA.out HN2.out HXX.out (by assumption)).mono ?_; rintro e w' ⟨⟨c, rfl⟩, hb⟩))
  rename_i hH
  rename World => w2
  have B2 := Lib.hid (HB.out.trans (hH.1.mono HB.out.size))
  have P2 := Lib.hid (HP.out.of_same (hH.1.block _ HP.out.lt))
  have R2 := Lib.hid (HRD.out.of_same (hH.1.block _ HRD.out.lt))
  have p0 := P2.out.cell (i := 0) rfl
  have p1 := P2.out.cell (i := 1) rfl
  have pf := P2.out.free
  have r0 := R2.out.cell (i := 0) rfl
  have r2 := R2.out.cell (i := 2) rfl
  have rf := R2.out.free
  have HH := Lib.hid hH.1
  have nb : b ≠ w.heap.size := by omega
  clear q0 q1 HS0 k1 hH
  go_wp2_with fail
  have st := (Stp.of_below (· = b) B2.out).set (a := ⟨b, 2, none⟩) (.inl (.inl rfl)) (.bool true)
  refine ret_msg rfl (g := w.heap.size) rfl (((P2.out.set_ne (a := ⟨b, 2, none⟩) (Ne.symm nb) (.bool true)).set 0 (.int .i64 0)).set 1 (.slice none 0 0)) rfl ⟨rfl, ?_, ?_⟩
  · exact (st.set (.inr (Nat.le_refl _)) _).set (.inr (Nat.le_refl _)) _
  · exact ((R2.out.set 2 (.bool true)).set_ne nb _).set_ne nb _
set_option maxRecDepth 100000 in
set_option maxHeartbeats 2000000 in
theorem refnext_short (h : RefD w b sv a false) (hx : BV w F sv S) (hF : ∀ k, F k → k < w.heap.size) (ha : a < S.length) (hn : S.length ≤ 1000000) {bg s : Nat} (hX : Fr.lenAt (S.drop a) = .ok bg s) (hsh : S.length < a + bg + s + 8) : Calls Tryd.prog 31 #[.pointer (some ⟨b, 0, none⟩)] w fun e w' => e = .returned (.tuple #[msg0, .bool false, .int .i64 0]) ∧ Below w.heap.size w w' := by
  obtain ⟨xa, xc, rfl, x1, x2, hg⟩ := hx.get
  obtain ⟨xb, xo, rfl, -, -⟩ := hg 0 (by omega)
  unfold maxLen at x2
  unfold RefD at h
  obtain ⟨n, hnn⟩ : ∃ n, S.length = n := ⟨_, rfl⟩
  have e0 := (h.alloc (.cells #[.int .i64 0, .slice none 0 0] 32)).cell (i := 0) rfl
  have e1 := (h.alloc (.cells #[.int .i64 0, .slice none 0 0] 32)).cell (i := 1) rfl
  have d2 := h.cell (i := 2) rfl
  have hlt := h.lt
  rw [hnn] at ha hn x1 hx e0 h
  try rw [hnn]
  have hlt1 : b < (w.alloc (.cells #[.int .i64 0, .slice none 0 0] 32)).heap.size := by simp; omega
  have HLT := Lib.hid hlt1
  have P : Hid (Blk (w.alloc (.cells #[.int .i64 0, .slice none 0 0] 32)) w.heap.size [.int .i64 0, .slice none 0 0] 32) := Lib.hid (Blk.new w _ _)
  have RD : Hid (Blk (w.alloc (.cells #[.int .i64 0, .slice none 0 0] 32)) b _ _) := Lib.hid (h.alloc _)
  have hb1 : Below w.heap.size w (w.alloc (.cells #[.int .i64 0, .slice none 0 0] 32)) := (Below.refl _ _).alloc (Nat.le_refl _) _
  have B1 := Lib.hid hb1
  have X1 := Lib.hid (hx.grow hb1)
  have HF1 := Lib.hid (fun k hk => Nat.lt_of_lt_of_le (hF k hk) hb1.size)
  have HNN := Lib.hid hnn
  have HA := Lib.hid (show a < S.length by omega)
  have HN2 := Lib.hid (show S.length ≤ 1000000 by omega)
  have iab : ((a : Int) == (n : Int)) = false := by rw [beq_eq_false_iff_ne]; omega
  have ia : (a : Int) < (n : Int) := by omega
  have in_ : (n : Int) ≤ 1000000 := by omega
  have HXX := Lib.hid hX
  have hle := Fr.lenAt_le hX
  rw [List.length_drop] at hle
  have is1 : (s : Int) ≤ 65536 := by omega
  have ish : (n : Int) - ((a + bg : Nat) : Int) < (s : Int) + 8 := by omega
  have ibn : ((a + bg : Nat) : Int) ≤ (n : Int) := by omega
  clear hX hsh hle
  clear h hx hF hg hb1 hnn hlt1
  go_enter Tryd.func31, Tryd.ntmps31
  go_wp2_with fail
  generalize w.alloc (.cells #[.int .i64 0, .slice none 0 0] 32) = w0 at *
  go_quiet (fail)
  go_wp2_with fail
  have HP : Hid (Blk (w0.drewN nq) w.heap.size [.int .i64 0, .slice none 0 0] 32) := Lib.hid P.out
  have HRD : Hid (Blk (w0.drewN nq) b [.slice (some ⟨xb, xo, none⟩) n xc, .int .i64 (a : Int), .bool false] 53) := Lib.hid RD.out
  have HB : Hid (Below w.heap.size w (w0.drewN nq)) := Lib.hid (below_drewN2 B1.out nq)
  have HX : Hid (BV (w0.drewN nq) F (.slice (some ⟨xb, xo, none⟩) n xc) S) := Lib.hid (X1.out.same (fun _ _ => rfl))
  have HFF : Hid (∀ k, F k → k < (w0.drewN nq).heap.size) := Lib.hid HF1.out
  have HL1 : Hid (b < (w0.drewN nq).heap.size) := Lib.hid HLT.out
  generalize w0.drewN nq = w1 at *
  have q0 := HRD.out.cell (i := 0) rfl
  have q1 := HRD.out.cell (i := 1) rfl
  have HS0 : Hid (NxS w1 b a (.slice (some ⟨xb, xo, none⟩) n xc) w1.drew) := Lib.hid ⟨(Below.refl _ _).drew, q0, q1⟩
  have k1 : IntKind.i64.wrap ((a : Int) + 1) = (a : Int) + 1 := by rw [IntKind.wrap_i64]; omega
  clear P RD B1 X1 HF1 HLT e0 e1 d2
  go_region_held3 (fun w' => Below w1.heap.size w1 w' ∧ w'.cell? ⟨b, 0, none⟩ = some (.slice (some ⟨xb, xo, none⟩) n xc) ∧ w'.cell? ⟨b, 1, none⟩ = some (.int .i64 (a : Int)))
    (first
      | assumption
      | exact HS0.out
      | exact NxS.next HL1.out (by assumption) hb)
    (first
      | (go_at_call 52; refine (NxS.len HX.out HFF.out HA.out HN2.out HXX.out (by assumption)).mono ?_; rintro e w' ⟨rfl, hb⟩))
  rename_i hH
  rename World => w2
  have B2 := Lib.hid (HB.out.trans (hH.1.mono HB.out.size))
  have P2 := Lib.hid (HP.out.of_same (hH.1.block _ HP.out.lt))
  have R2 := Lib.hid (HRD.out.of_same (hH.1.block _ HRD.out.lt))
  have p0 := P2.out.cell (i := 0) rfl
  have p1 := P2.out.cell (i := 1) rfl
  have pf := P2.out.free
  have r0 := R2.out.cell (i := 0) rfl
  have r2 := R2.out.cell (i := 2) rfl
  have rf := R2.out.free
  have HH := Lib.hid hH.1
  have nb : b ≠ w.heap.size := by omega
  clear q0 q1 HS0 k1 hH
  go_wp2_with fail
  refine ret_msg rfl (g := w.heap.size) rfl ((P2.out.set 0 (.int .i64 0)).set 1 (.slice none 0 0)) rfl ⟨rfl, ?_⟩
  exact (B2.out.setCell (Nat.le_refl _) _).setCell (Nat.le_refl _) _
abbrev N4 (w1 : World) (b a : Nat) (xv : Value) (q : Addr) (k : Int) (w' : World) : Prop := Below w1.heap.size w1 w' ∧ w'.cell? ⟨b, 0, none⟩ = some xv ∧ w'.cell? ⟨b, 1, none⟩ = some (.int .i64 (a : Int)) ∧ w'.cell? q = some (.int .u8 k)
theorem N4.next {w1 w2 : World} {xv : Value} {xb o : Nat} {k : Int} (hl : b < w1.heap.size) (hq : xb < w1.heap.size) (h : N4 w1 b a xv ⟨xb, o, none⟩ k w') (h2 : Below w'.heap.size w' w2) : N4 w1 b a xv ⟨xb, o, none⟩ k w2 :=
  ⟨h.1.trans (h2.mono h.1.size), (h2.cell (p := ⟨b, 0, none⟩) (Nat.lt_of_lt_of_le hl h.1.size)).trans h.2.1, (h2.cell (p := ⟨b, 1, none⟩) (Nat.lt_of_lt_of_le hl h.1.size)).trans h.2.2.1, (h2.cell (p := ⟨xb, o, none⟩) (Nat.lt_of_lt_of_le hq h.1.size)).trans h.2.2.2⟩
abbrev N5 (w1 : World) (b a g : Nat) (xv c0 c1 yv : Value) (X : ByteArray) (w' : World) : Prop := Below w1.heap.size w1 w' ∧ w'.cell? ⟨b, 0, none⟩ = some xv ∧ w'.cell? ⟨b, 1, none⟩ = some (.int .i64 (a : Int)) ∧ w'.cell? ⟨g, 0, none⟩ = some c0 ∧ w'.cell? ⟨g, 1, none⟩ = some c1 ∧ (convert 30 9 yv).run Tryd.prog w' = .ok (.string X) w'
theorem N5.mk {w1 : World} {g : Nat} {xv c0 c1 yv : Value} {X : ByteArray} {y : List UInt8} (hb : Below w1.heap.size w1 w') (h0 : w1.cell? ⟨b, 0, none⟩ = some xv) (h1 : w1.cell? ⟨b, 1, none⟩ = some (.int .i64 (a : Int))) (h2 : w1.cell? ⟨g, 0, none⟩ = some c0) (h3 : w1.cell? ⟨g, 1, none⟩ = some c1) (hy : BV w1 F yv y) (hX : (⟨y.toArray⟩ : ByteArray) = X) : N5 w1 b a g xv c0 c1 yv X w' :=
  ⟨hb, (hb.cell (p := ⟨b, 0, none⟩) (block_lt_of_cell h0)).trans h0, (hb.cell (p := ⟨b, 1, none⟩) (block_lt_of_cell h1)).trans h1, (hb.cell (p := ⟨g, 0, none⟩) (block_lt_of_cell h2)).trans h2, (hb.cell (p := ⟨g, 1, none⟩) (block_lt_of_cell h3)).trans h3, hX ▸ (hy.grow hb).convS⟩
theorem N4.two {w1 : World} {xv : Value} {xb o g : Nat} {k : Int} (hl : b < w1.heap.size) (hq : xb < w1.heap.size) (h : N4 w1 b a xv ⟨xb, o, none⟩ k w') (hg : w1.heap.size ≤ g) (d0 d1 : Value) : N4 w1 b a xv ⟨xb, o, none⟩ k ((w'.setCell ⟨g, 0, none⟩ d0).setCell ⟨g, 1, none⟩ d1) := by
  have hb : Below w1.heap.size w' ((w'.setCell ⟨g, 0, none⟩ d0).setCell ⟨g, 1, none⟩ d1) := ((Below.refl _ _).setCell hg _).setCell hg _
  exact ⟨h.1.trans hb, (hb.cell (p := ⟨b, 0, none⟩) hl).trans h.2.1, (hb.cell (p := ⟨b, 1, none⟩) hl).trans h.2.2.1, (hb.cell (p := ⟨xb, o, none⟩) hq).trans h.2.2.2⟩
set_option maxRecDepth 100000 in
set_option maxHeartbeats 2000000 in
theorem refnext_whole (h : RefD w b sv a false) (hx : BV w F sv S) (hF : ∀ k, F k → k < w.heap.size) (ha : a < S.length) (hn : S.length ≤ 1000000) {bg s : Nat} {k0 : UInt8} {body : List UInt8} (hX : Fr.lenAt (S.drop a) = .ok bg s) (hsh : a + bg + s + 8 ≤ S.length) (hk0 : S[a] = k0) (hbd : (S.drop (a + bg)).take s = body) (heq : Fr.encM ((k0.toNat : Int), body) = (S.drop a).take (bg + s + 8)) : Calls Tryd.prog 31 #[.pointer (some ⟨b, 0, none⟩)] w fun e w' => ∃ bv, e = .returned (.tuple #[msgV (k0.toNat : Int) bv, .bool true, .int .i64 0]) ∧ BV w' (fun x => w.heap.size ≤ x ∧ x < w'.heap.size) bv body ∧ Stp (· = b) w w' ∧ RefD w' b sv (a + bg + s + 8) false := by
  obtain ⟨xa, xc, rfl, x1, x2, hg⟩ := hx.get
  obtain ⟨xb, xo, rfl, -, -⟩ := hg 0 (by omega)
  unfold maxLen at x2
  unfold RefD at h
  obtain ⟨n, hnn⟩ : ∃ n, S.length = n := ⟨_, rfl⟩
  have e0 := (h.alloc (.cells #[.int .i64 0, .slice none 0 0] 32)).cell (i := 0) rfl
  have e1 := (h.alloc (.cells #[.int .i64 0, .slice none 0 0] 32)).cell (i := 1) rfl
  have d2 := h.cell (i := 2) rfl
  have hlt := h.lt
  rw [hnn] at ha hn x1 hx e0 h
  try rw [hnn]
  have hlt1 : b < (w.alloc (.cells #[.int .i64 0, .slice none 0 0] 32)).heap.size := by simp; omega
  have HLT := Lib.hid hlt1
  have P : Hid (Blk (w.alloc (.cells #[.int .i64 0, .slice none 0 0] 32)) w.heap.size [.int .i64 0, .slice none 0 0] 32) := Lib.hid (Blk.new w _ _)
  have RD : Hid (Blk (w.alloc (.cells #[.int .i64 0, .slice none 0 0] 32)) b _ _) := Lib.hid (h.alloc _)
  have hb1 : Below w.heap.size w (w.alloc (.cells #[.int .i64 0, .slice none 0 0] 32)) := (Below.refl _ _).alloc (Nat.le_refl _) _
  have B1 := Lib.hid hb1
  have X1 := Lib.hid (hx.grow hb1)
  have HF1 := Lib.hid (fun k hk => Nat.lt_of_lt_of_le (hF k hk) hb1.size)
  have HNN := Lib.hid hnn
  have HA := Lib.hid (show a < S.length by omega)
  have HN2 := Lib.hid (show S.length ≤ 1000000 by omega)
  have iab : ((a : Int) == (n : Int)) = false := by rw [beq_eq_false_iff_ne]; omega
  have ia : (a : Int) < (n : Int) := by omega
  have in_ : (n : Int) ≤ 1000000 := by omega
  have HXX := Lib.hid hX
  have hle := Fr.lenAt_le hX
  rw [List.length_drop] at hle
  have is1 : (s : Int) ≤ 65536 := by omega
  obtain ⟨p, hp⟩ : ∃ p, a + bg = p := ⟨_, rfl⟩
  obtain ⟨e, he⟩ : ∃ e, p + s = e := ⟨_, rfl⟩
  have ish : ¬ (n : Int) - (p : Int) < (s : Int) + 8 := by omega
  have ibn : (p : Int) ≤ (n : Int) := by omega
  have HNUM : Hid (a + bg = p ∧ p + s = e ∧ e + 8 ≤ n ∧ 2 ≤ bg ∧ bg ≤ 4 ∧ s ≤ 65536 ∧ n ≤ xc) := Lib.hid ⟨hp, he, by omega, by omega, by omega, by omega, x1⟩
  have HK0 := Lib.hid hk0
  have HBODY : Hid ((S.drop p).take s = body) := Lib.hid (by rw [← hp]; exact hbd)
  have HBL : Hid (body.length = s) := Lib.hid (by rw [← hbd, List.length_take, List.length_drop]; omega)
  have HEQ := Lib.hid heq
  clear hX hsh hle hp he hk0 hbd heq
  clear h hx hF hg hb1 hnn hlt1
  go_enter Tryd.func31, Tryd.ntmps31
  go_wp2_with fail
  generalize w.alloc (.cells #[.int .i64 0, .slice none 0 0] 32) = w0 at *
  go_quiet (fail)
  go_wp2_with fail
  have HP : Hid (Blk (w0.drewN nq) w.heap.size [.int .i64 0, .slice none 0 0] 32) := Lib.hid P.out
  have HRD : Hid (Blk (w0.drewN nq) b [.slice (some ⟨xb, xo, none⟩) n xc, .int .i64 (a : Int), .bool false] 53) := Lib.hid RD.out
  have HB : Hid (Below w.heap.size w (w0.drewN nq)) := Lib.hid (below_drewN2 B1.out nq)
  have HX : Hid (BV (w0.drewN nq) F (.slice (some ⟨xb, xo, none⟩) n xc) S) := Lib.hid (X1.out.same (fun _ _ => rfl))
  have HFF : Hid (∀ k, F k → k < (w0.drewN nq).heap.size) := Lib.hid HF1.out
  have HL1 : Hid (b < (w0.drewN nq).heap.size) := Lib.hid HLT.out
  generalize w0.drewN nq = w1 at *
  have q0 := HRD.out.cell (i := 0) rfl
  have q1 := HRD.out.cell (i := 1) rfl
  have HS0 : Hid (NxS w1 b a (.slice (some ⟨xb, xo, none⟩) n xc) w1.drew) := Lib.hid ⟨(Below.refl _ _).drew, q0, q1⟩
  have k1 : IntKind.i64.wrap ((a : Int) + 1) = (a : Int) + 1 := by rw [IntKind.wrap_i64]; omega
  clear P RD B1 X1 HF1 HLT e0 e1 d2
  go_region_held3 (fun w' => Below w1.heap.size w1 w' ∧ w'.cell? ⟨b, 0, none⟩ = some (.slice (some ⟨xb, xo, none⟩) n xc) ∧ w'.cell? ⟨b, 1, none⟩ = some (.int .i64 (a : Int)))
    (first
      | assumption
      | exact HS0.out
      | exact NxS.next HL1.out (by assumption) hb)
    (first
      | (go_at_call 52; refine (NxS.len HX.out HFF.out HA.out HN2.out HXX.out (by assumption)).mono ?_; rintro e w' ⟨rfl, hb⟩))
  rename_i hH
  rename World => w2
  have B2 := Lib.hid (HB.out.trans (hH.1.mono HB.out.size))
  have P2 := Lib.hid (HP.out.of_same (hH.1.block _ HP.out.lt))
  have R2 := Lib.hid (HRD.out.of_same (hH.1.block _ HRD.out.lt))
  have p0 := P2.out.cell (i := 0) rfl
  have p1 := P2.out.cell (i := 1) rfl
  have pf := P2.out.free
  have r0 := R2.out.cell (i := 0) rfl
  have r2 := R2.out.cell (i := 2) rfl
  have rf := R2.out.free
  have HH := Lib.hid hH.1
  have nb : b ≠ w.heap.size := by omega
  clear q0 q1 HS0 k1 hH
  rw [show (a : Int) + (bg : Int) = (p : Int) from by have := HNUM.out; omega]
  go_upto_region 11 with fail
  have HLB : Hid (b < w2.heap.size) := Lib.hid R2.out.lt
  have hxc0 : w2.cell? ⟨xb, xo + a, none⟩ = some (.int .u8 (k0.toNat : Int)) := by
    obtain ⟨a', c', e1, _, _, h⟩ := (HX.out.grow HH.out).get
    obtain ⟨b', o', e3, _, h⟩ := h a HA.out
    injection e1 with e4 e5 e6
    rw [e3] at e4
    have e4 := Option.some.inj e4
    injection e4 with e7 e8
    subst e7; subst e8
    rw [HK0.out] at h
    exact h
  have HLX : Hid (xb < w2.heap.size) := Lib.hid (block_lt_of_cell hxc0)
  have HS4 : Hid (N4 w2 b a (.slice (some ⟨xb, xo, none⟩) n xc) ⟨xb, xo + a, none⟩ (k0.toNat : Int) w2.drew) := Lib.hid ⟨(Below.refl _ _).drew, r0, R2.out.cell (i := 1) rfl, hxc0⟩
  have HSRC : Hid (BV w2.drew (fun k => k < w2.heap.size) (.slice (some ⟨xb, xo + p, none⟩) s (xc - p)) body) := Lib.hid (by
    have h := (HX.out.grow HH.out).subAt (lo := p) (k := s) HNN.out (by have := HNUM.out; omega)
    rw [HBODY.out] at h
    exact (h.mono (fun k hk => Nat.lt_of_lt_of_le (HFF.out k hk) HH.out.size)).same (fun _ _ => rfl))
  have j1 : (p : Int) ≤ (e : Int) := by have := HNUM.out; omega
  have j2 : (e : Int) ≤ (xc : Int) := by have := HNUM.out; omega
  have j3 : e - p = s := by have := HNUM.out; omega
  have j4 : ¬ xc = p := by have := HNUM.out; omega
  have k2 : IntKind.i64.wrap ((p : Int) + (s : Int)) = (e : Int) := by rw [IntKind.wrap_i64]; have := HNUM.out; omega
  have k3 : IntKind.i64.wrap (k0.toNat : Int) = (k0.toNat : Int) := by rw [IntKind.wrap_i64]; have := k0.toNat_lt; omega
  go_cut [9] (fun s9 wx => ∃ g bv, s9 = .pointer (some ⟨g, 0, none⟩) ∧ w2.heap.size ≤ g ∧ Blk wx g [.int .i64 (k0.toNat : Int), bv] 32 ∧ BV wx (fun k => w2.heap.size ≤ k ∧ k < wx.heap.size) bv body ∧ Below w2.heap.size w2 wx)
  case first =>
    refine wp_region_held_drew (S := (fun w' => Below w2.heap.size w2 w' ∧ w'.cell? ⟨b, 0, none⟩ = some (.slice (some ⟨xb, xo, none⟩) n xc) ∧ w'.cell? ⟨b, 1, none⟩ = some (.int .i64 (a : Int)) ∧ w'.cell? ⟨xb, xo + a, none⟩ = some (.int .u8 (k0.toNat : Int)))) (by kernel_rfl) HS4.out (fun hS => ?_)
    refine wpAnyH_take (i := 0) (oi := ⟨some 61, _, _, _, _, _⟩) (v := .pointer (some ⟨b, 0, none⟩)) rfl (by kernel_rfl) (by kernel_rfl) (by kernel_rfl) (fun _ _ _ h => h) (Or.inl ⟨by rfl, fun w hSw => by obtain ⟨_, s1, s2, s3⟩ := hSw; go_simp⟩) hS ?_
    try simp only [Act.put, List.setIfInBounds_toArray, List.set_cons_zero, List.set_cons_succ]
    refine wpAnyH_take (i := 1) (oi := ⟨some 62, _, _, _, _, _⟩) (v := .pointer (some ⟨b, 0, none⟩)) rfl (by kernel_rfl) (by kernel_rfl) (by kernel_rfl) (fun _ _ _ h => h) (Or.inl ⟨by rfl, fun w hSw => by obtain ⟨_, s1, s2, s3⟩ := hSw; go_simp⟩) hS ?_
    try simp only [Act.put, List.setIfInBounds_toArray, List.set_cons_zero, List.set_cons_succ]
    refine wpAnyH_take (i := 2) (oi := ⟨some 63, _, _, _, _, _⟩) (v := .pointer (some ⟨b, 0, none⟩)) rfl (by kernel_rfl) (by kernel_rfl) (by kernel_rfl) (fun _ _ _ h => h) (Or.inl ⟨by rfl, fun w hSw => by obtain ⟨_, s1, s2, s3⟩ := hSw; go_simp⟩) hS ?_
    try simp only [Act.put, List.setIfInBounds_toArray, List.set_cons_zero, List.set_cons_succ]
    refine wpAnyH_take (i := 3) (oi := ⟨some 64, _, _, _, _, _⟩) (v := .slice (some ⟨xb, xo, none⟩) n xc) rfl (by kernel_rfl) (by kernel_rfl) (by kernel_rfl) (fun _ _ _ h => h) (Or.inl ⟨by rfl, fun w hSw => by obtain ⟨_, s1, s2, s3⟩ := hSw; go_simp⟩) hS ?_
    try simp only [Act.put, List.setIfInBounds_toArray, List.set_cons_zero, List.set_cons_succ]
    refine wpAnyH_take (i := 4) (oi := ⟨some 65, _, _, _, _, _⟩) (v := .pointer (some ⟨b, 0, none⟩)) rfl (by kernel_rfl) (by kernel_rfl) (by kernel_rfl) (fun _ _ _ h => h) (Or.inl ⟨by rfl, fun w hSw => by obtain ⟨_, s1, s2, s3⟩ := hSw; go_simp⟩) hS ?_
    try simp only [Act.put, List.setIfInBounds_toArray, List.set_cons_zero, List.set_cons_succ]
    refine wpAnyH_take (i := 5) (oi := ⟨some 66, _, _, _, _, _⟩) (v := .pointer (some ⟨b, 0, none⟩)) rfl (by kernel_rfl) (by kernel_rfl) (by kernel_rfl) (fun _ _ _ h => h) (Or.inl ⟨by rfl, fun w hSw => by obtain ⟨_, s1, s2, s3⟩ := hSw; go_simp⟩) hS ?_
    try simp only [Act.put, List.setIfInBounds_toArray, List.set_cons_zero, List.set_cons_succ]
    refine wpAnyH_take (i := 6) (oi := ⟨some 67, _, _, _, _, _⟩) (v := .pointer (some ⟨b, 1, none⟩)) rfl (by kernel_rfl) (by kernel_rfl) (by kernel_rfl) (fun _ _ _ h => h) (Or.inl ⟨by rfl, fun w hSw => by obtain ⟨_, s1, s2, s3⟩ := hSw; go_simp⟩) hS ?_
    try simp only [Act.put, List.setIfInBounds_toArray, List.set_cons_zero, List.set_cons_succ]
    refine wpAnyH_take (i := 7) (oi := ⟨some 68, _, _, _, _, _⟩) (v := .int .i64 (a : Int)) rfl (by kernel_rfl) (by kernel_rfl) (by kernel_rfl) (fun _ _ _ h => h) (Or.inl ⟨by rfl, fun w hSw => by obtain ⟨_, s1, s2, s3⟩ := hSw; go_simp⟩) hS ?_
    try simp only [Act.put, List.setIfInBounds_toArray, List.set_cons_zero, List.set_cons_succ]
    refine wpAnyH_take (i := 8) (oi := ⟨some 69, _, _, _, _, _⟩) (v := .pointer (some ⟨xb, xo + a, none⟩)) rfl (by kernel_rfl) (by kernel_rfl) (by kernel_rfl) (fun _ _ _ h => h) (Or.inl ⟨by rfl, fun w hSw => by obtain ⟨_, s1, s2, s3⟩ := hSw; go_simp⟩) hS ?_
    try simp only [Act.put, List.setIfInBounds_toArray, List.set_cons_zero, List.set_cons_succ]
    refine wpAnyH_take (i := 9) (oi := ⟨some 70, _, _, _, _, _⟩) (v := .int .u8 (k0.toNat : Int)) rfl (by kernel_rfl) (by kernel_rfl) (by kernel_rfl) (fun _ _ _ h => h) (Or.inl ⟨by rfl, fun w hSw => by obtain ⟨_, s1, s2, s3⟩ := hSw; go_simp⟩) hS ?_
    try simp only [Act.put, List.setIfInBounds_toArray, List.set_cons_zero, List.set_cons_succ]
    refine wpAnyH_take (i := 10) (oi := ⟨some 71, _, _, _, _, _⟩) (v := .int .i64 (k0.toNat : Int)) rfl (by kernel_rfl) (by kernel_rfl) (by kernel_rfl) (fun _ _ _ h => h) (Or.inl ⟨by rfl, fun w hSw => by obtain ⟨_, s1, s2, s3⟩ := hSw; go_simp⟩) hS ?_
    try simp only [Act.put, List.setIfInBounds_toArray, List.set_cons_zero, List.set_cons_succ]
    refine wpAnyH_take (i := 12) (oi := ⟨some 73, _, _, _, _, _⟩) (v := .pointer (some ⟨b, 0, none⟩)) rfl (by kernel_rfl) (by kernel_rfl) (by kernel_rfl) (fun _ _ _ h => h) (Or.inl ⟨by rfl, fun w hSw => by obtain ⟨_, s1, s2, s3⟩ := hSw; go_simp⟩) hS ?_
    try simp only [Act.put, List.setIfInBounds_toArray, List.set_cons_zero, List.set_cons_succ]
    refine wpAnyH_take (i := 13) (oi := ⟨some 74, _, _, _, _, _⟩) (v := .pointer (some ⟨b, 0, none⟩)) rfl (by kernel_rfl) (by kernel_rfl) (by kernel_rfl) (fun _ _ _ h => h) (Or.inl ⟨by rfl, fun w hSw => by obtain ⟨_, s1, s2, s3⟩ := hSw; go_simp⟩) hS ?_
    try simp only [Act.put, List.setIfInBounds_toArray, List.set_cons_zero, List.set_cons_succ]
    refine wpAnyH_take (i := 14) (oi := ⟨some 75, _, _, _, _, _⟩) (v := .pointer (some ⟨b, 0, none⟩)) rfl (by kernel_rfl) (by kernel_rfl) (by kernel_rfl) (fun _ _ _ h => h) (Or.inl ⟨by rfl, fun w hSw => by obtain ⟨_, s1, s2, s3⟩ := hSw; go_simp⟩) hS ?_
    try simp only [Act.put, List.setIfInBounds_toArray, List.set_cons_zero, List.set_cons_succ]
    refine wpAnyH_take (i := 15) (oi := ⟨some 76, _, _, _, _, _⟩) (v := .slice (some ⟨xb, xo, none⟩) n xc) rfl (by kernel_rfl) (by kernel_rfl) (by kernel_rfl) (fun _ _ _ h => h) (Or.inl ⟨by rfl, fun w hSw => by obtain ⟨_, s1, s2, s3⟩ := hSw; go_simp⟩) hS ?_
    try simp only [Act.put, List.setIfInBounds_toArray, List.set_cons_zero, List.set_cons_succ]
    refine wpAnyH_take (i := 16) (oi := ⟨some 77, _, _, _, _, _⟩) (v := .int .i64 (p : Int)) rfl (by kernel_rfl) (by kernel_rfl) (by kernel_rfl) (fun _ _ _ h => h) (Or.inl ⟨by rfl, fun w hSw => by obtain ⟨_, s1, s2, s3⟩ := hSw; go_simp⟩) hS ?_
    try simp only [Act.put, List.setIfInBounds_toArray, List.set_cons_zero, List.set_cons_succ]
    refine wpAnyH_take (i := 17) (oi := ⟨some 78, _, _, _, _, _⟩) (v := .int .i64 (p : Int)) rfl (by kernel_rfl) (by kernel_rfl) (by kernel_rfl) (fun _ _ _ h => h) (Or.inl ⟨by rfl, fun w hSw => by obtain ⟨_, s1, s2, s3⟩ := hSw; go_simp⟩) hS ?_
    try simp only [Act.put, List.setIfInBounds_toArray, List.set_cons_zero, List.set_cons_succ]
    refine wpAnyH_take (i := 18) (oi := ⟨some 79, _, _, _, _, _⟩) (v := .int .i64 (s : Int)) rfl (by kernel_rfl) (by kernel_rfl) (by kernel_rfl) (fun _ _ _ h => h) (Or.inl ⟨by rfl, fun w hSw => by obtain ⟨_, s1, s2, s3⟩ := hSw; go_simp⟩) hS ?_
    try simp only [Act.put, List.setIfInBounds_toArray, List.set_cons_zero, List.set_cons_succ]
    refine wpAnyH_take (i := 19) (oi := ⟨some 80, _, _, _, _, _⟩) (v := .int .i64 (e : Int)) rfl (by kernel_rfl) (by kernel_rfl) (by kernel_rfl) (fun _ _ _ h => h) (Or.inl ⟨by rfl, fun w hSw => by obtain ⟨_, s1, s2, s3⟩ := hSw; go_simp⟩) hS ?_
    try simp only [Act.put, List.setIfInBounds_toArray, List.set_cons_zero, List.set_cons_succ]
    refine wpAnyH_take (i := 20) (oi := ⟨some 81, _, _, _, _, _⟩) (v := .slice (some ⟨xb, xo + p, none⟩) s (xc - p)) rfl (by kernel_rfl) (by kernel_rfl) (by kernel_rfl) (fun _ _ _ h => h) (Or.inl ⟨by rfl, fun w hSw => by obtain ⟨_, s1, s2, s3⟩ := hSw; go_simp⟩) hS ?_
    try simp only [Act.put, List.setIfInBounds_toArray, List.set_cons_zero, List.set_cons_succ]
    refine wpAnyH_ready (rs := [11, 23]) (by kernel_rfl) (by simp) ?_
    refine AllReadyH.cons (o := ⟨some 72, _, _, _, _, _⟩) rfl (fun K hK => ?_) (AllReadyH.cons (o := ⟨some 9, _, _, _, _, _⟩) rfl (fun K hK => ?_) AllReadyH.nil)
    · go_simp
      have hS1 := N4.next HLB.out HLX.out hS ((Below.refl _ _).alloc (Nat.le_refl _) (.cells #[] 5))
      refine hK.out _ _ hS1 (fun _ => ?_)
      clear hK K
      try simp only [Act.put, List.setIfInBounds_toArray, List.set_cons_zero, List.set_cons_succ]
      refine wpAnyH_ready (rs := [21, 23]) (by kernel_rfl) (by simp) ?_
      refine AllReadyH.cons (o := ⟨some 82, _, _, _, _, _⟩) rfl (fun K hK => ?_) (AllReadyH.cons (o := ⟨some 9, _, _, _, _, _⟩) rfl (fun K hK => ?_) AllReadyH.nil)
      · refine step_append_bytes rfl (.tmp 72) (.tmp 81) rfl (.slice (some ⟨w2.drew.heap.size, 0, none⟩) 0 0) (.slice (some ⟨xb, xo + p, none⟩) s (xc - p)) body (by rfl) (by rfl) (NewB.empty w2.drew).2.1 (HSRC.out.alloc _) (by rw [List.length_nil, HBL.out]; omega) ?_
        intro a5 c5 w5 hO5 hg5 ho5
        rw [List.length_nil, Nat.zero_add, HBL.out] at hO5 ho5 ⊢
        rw [List.nil_append] at hO5
        have N5 := Lib.hid ((NewB.empty w2.drew).push hO5 hg5 ho5)
        have hS5 := N4.next HLB.out HLX.out hS N5.out.1
        refine hK.out _ _ hS5 (fun _ => ?_)
        clear hK K hO5 hg5 ho5
        try simp only [Act.put, List.setIfInBounds_toArray, List.set_cons_zero, List.set_cons_succ]
        refine wpAnyH_take (i := 22) (oi := ⟨some 83, _, _, _, _, _⟩) (v := .agg #[.int .i64 (k0.toNat : Int), .slice a5 s c5]) rfl (by kernel_rfl) (by kernel_rfl) (by kernel_rfl) (fun _ _ _ h => h) (Or.inl ⟨by rfl, fun w hSw => by obtain ⟨_, s1, s2, s3⟩ := hSw; go_simp⟩) hS5 ?_
        try simp only [Act.put, List.setIfInBounds_toArray, List.set_cons_zero, List.set_cons_succ]
        refine wpAnyH_ready (rs := [23]) (by kernel_rfl) (by simp) ?_
        refine AllReadyH.cons (o := ⟨some 9, _, _, _, _, _⟩) rfl (fun K hK => ?_) AllReadyH.nil
        go_simp
        have hS6 := N4.next HLB.out HLX.out hS5 ((Below.refl w5.heap.size w5).alloc (Nat.le_refl _) (.cells #[.int .i64 0, .slice none 0 0] 32))
        refine hK.out _ _ hS6 (fun _ => ?_)
        clear hK K
        try simp only [Act.put, List.setIfInBounds_toArray, List.set_cons_zero, List.set_cons_succ]
        refine wpAnyH_ready (rs := [24]) (by kernel_rfl) (by simp) ?_
        refine AllReadyH.cons (o := ⟨none, _, _, _, _, _⟩) rfl (fun K hK => ?_) AllReadyH.nil
        go_simp
        have hS7 := N4.next HLB.out HLX.out hS5 ((Below.refl w5.heap.size w5).alloc (Nat.le_refl _) (.cells #[.int .i64 (k0.toNat : Int), .slice a5 s c5] 32))
        refine hK.out _ _ hS7 (fun _ => ?_)
        clear hK K
        try simp only [Act.put, List.setIfInBounds_toArray, List.set_cons_zero, List.set_cons_succ]
        have C9 : Hid (Blk (w5.alloc (.cells #[.int .i64 (k0.toNat : Int), .slice a5 s c5] 32)) w5.heap.size [.int .i64 (k0.toNat : Int), .slice a5 s c5] 32) := Lib.hid (Blk.new _ _ _)
        have V9 : Hid (BV (w5.alloc (.cells #[.int .i64 (k0.toNat : Int), .slice a5 s c5] 32)) (fun k => w2.heap.size ≤ k ∧ k < (w5.alloc (.cells #[.int .i64 (k0.toNat : Int), .slice a5 s c5] 32)).heap.size) (.slice a5 s c5) body) := Lib.hid ((N5.out.2.1.bv.mono (fun k hk => ⟨N5.out.2.2.2 k hk, by have := N5.out.2.1.lt k hk; simp; omega⟩)).alloc _)
        have BZ9 := Lib.hid hS7.1
        refine wpAnyH_done (by kernel_rfl) ?_ _
        go_wp2_with fail
        go_meet
        exact ⟨_, _, rfl, by first | exact hS5.1.size | omega, C9.out, V9.out, BZ9.out⟩
      · go_simp
        have hS2 := N4.next HLB.out HLX.out hS1 ((Below.refl _ _).alloc (Nat.le_refl _) (.cells #[.int .i64 0, .slice none 0 0] 32))
        refine hK.out _ _ hS2 (fun _ => ?_)
        clear hK K
        try simp only [Act.put, List.setIfInBounds_toArray, List.set_cons_zero, List.set_cons_succ]
        refine wpAnyH_ready (rs := [21]) (by kernel_rfl) (by simp) ?_
        refine AllReadyH.cons (o := ⟨some 82, _, _, _, _, _⟩) rfl (fun K hK => ?_) AllReadyH.nil
        refine step_append_bytes rfl (.tmp 72) (.tmp 81) rfl (.slice (some ⟨w2.drew.heap.size, 0, none⟩) 0 0) (.slice (some ⟨xb, xo + p, none⟩) s (xc - p)) body (by rfl) (by rfl) ((NewB.empty w2.drew).alloc (.cells #[.int .i64 0, .slice none 0 0] 32)).2.1 ((HSRC.out.alloc (.cells #[] 5)).alloc (.cells #[.int .i64 0, .slice none 0 0] 32)) (by rw [List.length_nil, HBL.out]; omega) ?_
        intro a5 c5 w5 hO5 hg5 ho5
        rw [List.length_nil, Nat.zero_add, HBL.out] at hO5 ho5 ⊢
        rw [List.nil_append] at hO5
        have N5 := Lib.hid (((NewB.empty w2.drew).alloc (.cells #[.int .i64 0, .slice none 0 0] 32)).push hO5 hg5 ho5)
        have BG : Below w2.heap.size w2.drew w5 := N5.out.1
        have hS5 : N4 w2 b a (.slice (some ⟨xb, xo, none⟩) n xc) ⟨xb, xo + a, none⟩ (k0.toNat : Int) w5 := N4.next HLB.out HLX.out hS BG
        have HC : Hid (Blk w5 (w2.heap.size + 1) [.int .i64 0, .slice none 0 0] 32) := Lib.hid ((Blk.newAt (k := w2.heap.size + 1) (w2.drew.alloc (.cells #[] 5)) [.int .i64 0, .slice none 0 0] 32 (by simp)).of_same (hg5.block (w2.heap.size + 1) (by simp) (fun e => by simp only [Value.ownBlock, Option.some.injEq] at e; simp at e)))
        have HNE : Hid (∀ k, (Value.slice a5 s c5).ownBlock = some k → k ≠ w2.heap.size + 1) := Lib.hid (fun k hk e => by rcases ho5 with h | h <;> rw [h] at hk <;> simp only [Value.ownBlock, Option.some.injEq] at hk <;> simp at hk <;> omega)
        have HGE : Hid (∀ k, (Value.slice a5 s c5).ownBlock = some k → w2.heap.size ≤ k) := Lib.hid N5.out.2.2.2
        refine hK.out _ _ hS5 (fun _ => ?_)
        clear hK K hO5 hg5 ho5
        try simp only [Act.put, List.setIfInBounds_toArray, List.set_cons_zero, List.set_cons_succ]
        refine wpAnyH_take (i := 22) (oi := ⟨some 83, _, _, _, _, _⟩) (v := .agg #[.int .i64 (k0.toNat : Int), .slice a5 s c5]) rfl (by kernel_rfl) (by kernel_rfl) (by kernel_rfl) (fun _ _ _ h => h) (Or.inl ⟨by rfl, fun w hSw => by obtain ⟨_, s1, s2, s3⟩ := hSw; go_simp⟩) hS5 ?_
        try simp only [Act.put, List.setIfInBounds_toArray, List.set_cons_zero, List.set_cons_succ]
        have z0 := HC.out.cell (i := 0) rfl
        have z1 := HC.out.cell (i := 1) rfl
        have zf := HC.out.free
        refine wpAnyH_ready (rs := [24]) (by kernel_rfl) (by simp) ?_
        refine AllReadyH.cons (o := ⟨none, _, _, _, _, _⟩) rfl (fun K hK => ?_) AllReadyH.nil
        go_simp
        have hS7 := N4.two HLB.out HLX.out hS5 (g := w2.heap.size + 1) (by omega) (.int .i64 (k0.toNat : Int)) (.slice a5 s c5)
        refine hK.out _ _ hS7 (fun _ => ?_)
        clear hK K
        try simp only [Act.put, List.setIfInBounds_toArray, List.set_cons_zero, List.set_cons_succ]
        have C9 : Hid (Blk ((w5.setCell ⟨w2.heap.size + 1, 0, none⟩ (.int .i64 (k0.toNat : Int))).setCell ⟨w2.heap.size + 1, 1, none⟩ (.slice a5 s c5)) (w2.heap.size + 1) [.int .i64 (k0.toNat : Int), .slice a5 s c5] 32) := Lib.hid ((HC.out.set 0 (.int .i64 (k0.toNat : Int))).set 1 (.slice a5 s c5))
        have V9 : Hid (BV ((w5.setCell ⟨w2.heap.size + 1, 0, none⟩ (.int .i64 (k0.toNat : Int))).setCell ⟨w2.heap.size + 1, 1, none⟩ (.slice a5 s c5)) (fun k => w2.heap.size ≤ k ∧ k < ((w5.setCell ⟨w2.heap.size + 1, 0, none⟩ (.int .i64 (k0.toNat : Int))).setCell ⟨w2.heap.size + 1, 1, none⟩ (.slice a5 s c5)).heap.size) (.slice a5 s c5) body) := Lib.hid ((N5.out.2.1.bv.mono (F := fun k => (Value.slice a5 s c5).ownBlock = some k) (G := fun k => k ≠ w2.heap.size + 1 ∧ w2.heap.size ≤ k ∧ k < w5.heap.size) (fun k hk => ⟨HNE.out k hk, HGE.out k hk, N5.out.2.1.lt k hk⟩)).same (fun k hk => by rw [heap_setCell_other _ _ _ _ (show k ≠ w2.heap.size + 1 from hk.1), heap_setCell_other _ _ _ _ (show k ≠ w2.heap.size + 1 from hk.1)]) |>.mono (fun k hk => ⟨hk.2.1, by simpa using hk.2.2⟩))
        have BZ9 := Lib.hid hS7.1
        refine wpAnyH_done (by kernel_rfl) ?_ _
        go_wp2_with fail
        go_meet
        exact ⟨_, _, rfl, by first | exact hS5.1.size | omega, C9.out, V9.out, BZ9.out⟩
    · go_simp
      have hS1 := N4.next HLB.out HLX.out hS ((Below.refl _ _).alloc (Nat.le_refl _) (.cells #[.int .i64 0, .slice none 0 0] 32))
      refine hK.out _ _ hS1 (fun _ => ?_)
      clear hK K
      try simp only [Act.put, List.setIfInBounds_toArray, List.set_cons_zero, List.set_cons_succ]
      refine wpAnyH_ready (rs := [11]) (by kernel_rfl) (by simp) ?_
      refine AllReadyH.cons (o := ⟨some 72, _, _, _, _, _⟩) rfl (fun K hK => ?_) AllReadyH.nil
      go_simp
      have hS2 := N4.next HLB.out HLX.out hS1 ((Below.refl _ _).alloc (Nat.le_refl _) (.cells #[] 5))
      refine hK.out _ _ hS2 (fun _ => ?_)
      clear hK K
      try simp only [Act.put, List.setIfInBounds_toArray, List.set_cons_zero, List.set_cons_succ]
      have hN0 := NewB.empty (w2.drew.alloc (.cells #[.int .i64 0, .slice none 0 0] 32))
      rw [show (w2.drew.alloc (.cells #[.int .i64 0, .slice none 0 0] 32)).heap.size = w2.heap.size + 1 from by simp] at hN0
      refine wpAnyH_ready (rs := [21]) (by kernel_rfl) (by simp) ?_
      refine AllReadyH.cons (o := ⟨some 82, _, _, _, _, _⟩) rfl (fun K hK => ?_) AllReadyH.nil
      refine step_append_bytes rfl (.tmp 72) (.tmp 81) rfl (.slice (some ⟨w2.heap.size + 1, 0, none⟩) 0 0) (.slice (some ⟨xb, xo + p, none⟩) s (xc - p)) body (by rfl) (by rfl) hN0.2.1 ((HSRC.out.alloc (.cells #[.int .i64 0, .slice none 0 0] 32)).alloc (.cells #[] 5)) (by rw [List.length_nil, HBL.out]; omega) ?_
      intro a5 c5 w5 hO5 hg5 ho5
      rw [List.length_nil, Nat.zero_add, HBL.out] at hO5 ho5 ⊢
      rw [List.nil_append] at hO5
      have N5 := Lib.hid (hN0.push hO5 hg5 ho5)
      have BG : Below w2.heap.size w2.drew w5 := ((Below.refl w2.drew.heap.size w2.drew).alloc (Nat.le_refl _) (.cells #[.int .i64 0, .slice none 0 0] 32)).trans (N5.out.1.mono (by show w2.heap.size ≤ w2.heap.size + 1; omega))
      have hS5 : N4 w2 b a (.slice (some ⟨xb, xo, none⟩) n xc) ⟨xb, xo + a, none⟩ (k0.toNat : Int) w5 := N4.next HLB.out HLX.out hS BG
      have HC : Hid (Blk w5 (w2.heap.size) [.int .i64 0, .slice none 0 0] 32) := Lib.hid (((Blk.new w2.drew [.int .i64 0, .slice none 0 0] 32).alloc (.cells #[] 5)).of_same (hg5.block w2.heap.size (by simp; omega) (fun e => by simp only [Value.ownBlock, Option.some.injEq] at e; omega)))
      have HNE : Hid (∀ k, (Value.slice a5 s c5).ownBlock = some k → k ≠ w2.heap.size) := Lib.hid (fun k hk e => by have := N5.out.2.2.2 k hk; omega)
      have HGE : Hid (∀ k, (Value.slice a5 s c5).ownBlock = some k → w2.heap.size ≤ k) := Lib.hid (fun k hk => by have := N5.out.2.2.2 k hk; omega)
      refine hK.out _ _ hS5 (fun _ => ?_)
      clear hK K hO5 hg5 ho5
      try simp only [Act.put, List.setIfInBounds_toArray, List.set_cons_zero, List.set_cons_succ]
      refine wpAnyH_take (i := 22) (oi := ⟨some 83, _, _, _, _, _⟩) (v := .agg #[.int .i64 (k0.toNat : Int), .slice a5 s c5]) rfl (by kernel_rfl) (by kernel_rfl) (by kernel_rfl) (fun _ _ _ h => h) (Or.inl ⟨by rfl, fun w hSw => by obtain ⟨_, s1, s2, s3⟩ := hSw; go_simp⟩) hS5 ?_
      try simp only [Act.put, List.setIfInBounds_toArray, List.set_cons_zero, List.set_cons_succ]
      have z0 := HC.out.cell (i := 0) rfl
      have z1 := HC.out.cell (i := 1) rfl
      have zf := HC.out.free
      refine wpAnyH_ready (rs := [24]) (by kernel_rfl) (by simp) ?_
      refine AllReadyH.cons (o := ⟨none, _, _, _, _, _⟩) rfl (fun K hK => ?_) AllReadyH.nil
      go_simp
      have hS7 := N4.two HLB.out HLX.out hS5 (g := w2.heap.size) (by omega) (.int .i64 (k0.toNat : Int)) (.slice a5 s c5)
      refine hK.out _ _ hS7 (fun _ => ?_)
      clear hK K
      try simp only [Act.put, List.setIfInBounds_toArray, List.set_cons_zero, List.set_cons_succ]
      have C9 : Hid (Blk ((w5.setCell ⟨w2.heap.size, 0, none⟩ (.int .i64 (k0.toNat : Int))).setCell ⟨w2.heap.size, 1, none⟩ (.slice a5 s c5)) (w2.heap.size) [.int .i64 (k0.toNat : Int), .slice a5 s c5] 32) := Lib.hid ((HC.out.set 0 (.int .i64 (k0.toNat : Int))).set 1 (.slice a5 s c5))
      have V9 : Hid (BV ((w5.setCell ⟨w2.heap.size, 0, none⟩ (.int .i64 (k0.toNat : Int))).setCell ⟨w2.heap.size, 1, none⟩ (.slice a5 s c5)) (fun k => w2.heap.size ≤ k ∧ k < ((w5.setCell ⟨w2.heap.size, 0, none⟩ (.int .i64 (k0.toNat : Int))).setCell ⟨w2.heap.size, 1, none⟩ (.slice a5 s c5)).heap.size) (.slice a5 s c5) body) := Lib.hid ((N5.out.2.1.bv.mono (F := fun k => (Value.slice a5 s c5).ownBlock = some k) (G := fun k => k ≠ w2.heap.size ∧ w2.heap.size ≤ k ∧ k < w5.heap.size) (fun k hk => ⟨HNE.out k hk, HGE.out k hk, N5.out.2.1.lt k hk⟩)).same (fun k hk => by rw [heap_setCell_other _ _ _ _ (show k ≠ w2.heap.size from hk.1), heap_setCell_other _ _ _ _ (show k ≠ w2.heap.size from hk.1)]) |>.mono (fun k hk => ⟨hk.2.1, by simpa using hk.2.2⟩))
      have BZ9 := Lib.hid hS7.1
      refine wpAnyH_done (by kernel_rfl) ?_ _
      go_wp2_with fail
      go_meet
      exact ⟨_, _, rfl, by first | exact hS5.1.size | omega, C9.out, V9.out, BZ9.out⟩
  case rest =>
    obtain ⟨g, bv, rfl, hgw, hC, hV, hBz⟩ := hcut
    obtain ⟨ba, bc, rfl, _⟩ := hV.get
    rw [HBL.out] at hC hV
    have HC := Lib.hid hC
    have HV := Lib.hid hV
    have HBZ := Lib.hid hBz
    have B3 := Lib.hid (B2.out.trans (hBz.mono B2.out.size))
    have P3 := Lib.hid (P2.out.of_same (hBz.block _ P2.out.lt))
    have R3 := Lib.hid (R2.out.of_same (hBz.block _ R2.out.lt))
    have HX3 : Hid (BV wc (fun k => k < w2.heap.size) (.slice (some ⟨xb, xo, none⟩) n xc) S) := Lib.hid (((HX.out.grow HH.out).mono (fun k hk => Nat.lt_of_lt_of_le (HFF.out k hk) HH.out.size)).grow hBz)
    obtain ⟨e8, he8⟩ : ∃ e8, e + 8 = e8 := ⟨_, rfl⟩
    have HE8 := Lib.hid he8
    have hfl : (S.drop a).take (e8 - a) = Fr.encM ((k0.toNat : Int), body) := by
      rw [HEQ.out]; congr 1; have := HNUM.out; omega
    obtain ⟨X, hXX⟩ : ∃ X : ByteArray, (⟨(Fr.encM ((k0.toNat : Int), body)).toArray⟩ : ByteArray) = X := ⟨_, rfl⟩
    have HXY := Lib.hid hXX
    have HSB : Hid (BV wc (fun k => k < w2.heap.size) (.slice (some ⟨xb, xo + a, none⟩) (e8 - a) (xc - a)) (Fr.encM ((k0.toNat : Int), body))) := Lib.hid (by
      have h := HX3.out.subAt (lo := a) (k := e8 - a) HNN.out (by have := HNUM.out; omega)
      rwa [hfl] at h)
    have m1 : (a : Int) ≤ (e8 : Int) := by have := HNUM.out; omega
    have m2 : (e8 : Int) ≤ (xc : Int) := by have := HNUM.out; omega
    have m4 : ¬ xc = a := by have := HNUM.out; omega
    have k4 : IntKind.i64.wrap ((e : Int) + 8) = (e8 : Int) := by rw [IntKind.wrap_i64]; have := HNUM.out; omega
    have hkk : (k0.toNat : Int) ≤ 255 := by have := k0.toNat_lt; omega
    have HS5 : Hid (N5 wc b a g (.slice (some ⟨xb, xo, none⟩) n xc) (.int .i64 (k0.toNat : Int)) (.slice ba s bc) (.slice (some ⟨xb, xo + a, none⟩) (e8 - a) (xc - a)) X wc.drew) := Lib.hid (N5.mk (Below.refl _ _).drew (R3.out.cell (i := 0) rfl) (R3.out.cell (i := 1) rfl) (hC.cell (i := 0) rfl) (hC.cell (i := 1) rfl) HSB.out hXX)
    have HENC : Hid (∀ w', N5 wc b a g (.slice (some ⟨xb, xo, none⟩) n xc) (.int .i64 (k0.toNat : Int)) (.slice ba s bc) (.slice (some ⟨xb, xo + a, none⟩) (e8 - a) (xc - a)) X w' → Calls Tryd.prog 29 #[.agg #[.int .i64 (k0.toNat : Int), .slice ba s bc]] w' fun e w'' => ∃ ra rn rc, e = .returned (.slice ra rn rc) ∧ N5 wc b a g (.slice (some ⟨xb, xo, none⟩) n xc) (.int .i64 (k0.toNat : Int)) (.slice ba s bc) (.slice (some ⟨xb, xo + a, none⟩) (e8 - a) (xc - a)) X w'' ∧ (convert 30 9 (.slice ra rn rc)).run Tryd.prog w'' = .ok (.string X) w'') := Lib.hid (fun w' hs => by
      refine (refenc_any (HV.out.grow hs.1) (fun k hk => Nat.lt_of_lt_of_le hk.2 hs.1.size) (by omega) hkk (by rw [HBL.out]; exact HNUM.out.2.2.2.2.2.1)).mono ?_
      rintro e w'' ⟨sv, rfl, hN⟩
      have h1 := hN.2.1.bv.convS
      obtain ⟨ra, rc, rfl, _⟩ := hN.2.1.form
      have hw := hs.1.trans (hN.1.mono hs.1.size)
      exact ⟨ra, _, rc, rfl, N5.mk hw (R3.out.cell (i := 0) rfl) (R3.out.cell (i := 1) rfl) (HC.out.cell (i := 0) rfl) (HC.out.cell (i := 1) rfl) HSB.out HXY.out, by rw [← HXY.out]; exact h1⟩)
    clear hC hV hBz he8 hfl hXX p0 p1 pf r0 r2 rf hxc0
    go_wp2_with fail
    refine wp_region_held_drew (S := (fun w' => Below wc.heap.size wc w' ∧ w'.cell? ⟨b, 0, none⟩ = some (.slice (some ⟨xb, xo, none⟩) n xc) ∧ w'.cell? ⟨b, 1, none⟩ = some (.int .i64 (a : Int)) ∧ w'.cell? ⟨g, 0, none⟩ = some (.int .i64 (k0.toNat : Int)) ∧ w'.cell? ⟨g, 1, none⟩ = some (.slice ba s bc) ∧ (convert 30 9 (.slice (some ⟨xb, xo + a, none⟩) (e8 - a) (xc - a))).run Tryd.prog w' = .ok (.string X) w')) (by kernel_rfl) HS5.out (fun hS => ?_)
    refine wpAnyH_take (i := 0) (oi := ⟨some 84, _, _, _, _, _⟩) (v := .agg #[.int .i64 (k0.toNat : Int), .slice ba s bc]) rfl (by kernel_rfl) (by kernel_rfl) (by kernel_rfl) (fun _ _ _ h => h) (Or.inl ⟨by rfl, fun w hSw => by obtain ⟨_, s1, s2, s3, s4, s5⟩ := hSw; go_simp⟩) hS ?_
    try simp only [Act.put, List.setIfInBounds_toArray, List.set_cons_zero, List.set_cons_succ]
    refine wpAnyH_take (i := 3) (oi := ⟨some 87, _, _, _, _, _⟩) (v := .pointer (some ⟨b, 0, none⟩)) rfl (by kernel_rfl) (by kernel_rfl) (by kernel_rfl) (fun _ _ _ h => h) (Or.inl ⟨by rfl, fun w hSw => by obtain ⟨_, s1, s2, s3, s4, s5⟩ := hSw; go_simp⟩) hS ?_
    try simp only [Act.put, List.setIfInBounds_toArray, List.set_cons_zero, List.set_cons_succ]
    refine wpAnyH_take (i := 4) (oi := ⟨some 88, _, _, _, _, _⟩) (v := .pointer (some ⟨b, 0, none⟩)) rfl (by kernel_rfl) (by kernel_rfl) (by kernel_rfl) (fun _ _ _ h => h) (Or.inl ⟨by rfl, fun w hSw => by obtain ⟨_, s1, s2, s3, s4, s5⟩ := hSw; go_simp⟩) hS ?_
    try simp only [Act.put, List.setIfInBounds_toArray, List.set_cons_zero, List.set_cons_succ]
    refine wpAnyH_take (i := 5) (oi := ⟨some 89, _, _, _, _, _⟩) (v := .pointer (some ⟨b, 0, none⟩)) rfl (by kernel_rfl) (by kernel_rfl) (by kernel_rfl) (fun _ _ _ h => h) (Or.inl ⟨by rfl, fun w hSw => by obtain ⟨_, s1, s2, s3, s4, s5⟩ := hSw; go_simp⟩) hS ?_
    try simp only [Act.put, List.setIfInBounds_toArray, List.set_cons_zero, List.set_cons_succ]
    refine wpAnyH_take (i := 6) (oi := ⟨some 90, _, _, _, _, _⟩) (v := .slice (some ⟨xb, xo, none⟩) n xc) rfl (by kernel_rfl) (by kernel_rfl) (by kernel_rfl) (fun _ _ _ h => h) (Or.inl ⟨by rfl, fun w hSw => by obtain ⟨_, s1, s2, s3, s4, s5⟩ := hSw; go_simp⟩) hS ?_
    try simp only [Act.put, List.setIfInBounds_toArray, List.set_cons_zero, List.set_cons_succ]
    refine wpAnyH_take (i := 7) (oi := ⟨some 91, _, _, _, _, _⟩) (v := .pointer (some ⟨b, 0, none⟩)) rfl (by kernel_rfl) (by kernel_rfl) (by kernel_rfl) (fun _ _ _ h => h) (Or.inl ⟨by rfl, fun w hSw => by obtain ⟨_, s1, s2, s3, s4, s5⟩ := hSw; go_simp⟩) hS ?_
    try simp only [Act.put, List.setIfInBounds_toArray, List.set_cons_zero, List.set_cons_succ]
    refine wpAnyH_take (i := 8) (oi := ⟨some 92, _, _, _, _, _⟩) (v := .pointer (some ⟨b, 0, none⟩)) rfl (by kernel_rfl) (by kernel_rfl) (by kernel_rfl) (fun _ _ _ h => h) (Or.inl ⟨by rfl, fun w hSw => by obtain ⟨_, s1, s2, s3, s4, s5⟩ := hSw; go_simp⟩) hS ?_
    try simp only [Act.put, List.setIfInBounds_toArray, List.set_cons_zero, List.set_cons_succ]
    refine wpAnyH_take (i := 9) (oi := ⟨some 93, _, _, _, _, _⟩) (v := .pointer (some ⟨b, 1, none⟩)) rfl (by kernel_rfl) (by kernel_rfl) (by kernel_rfl) (fun _ _ _ h => h) (Or.inl ⟨by rfl, fun w hSw => by obtain ⟨_, s1, s2, s3, s4, s5⟩ := hSw; go_simp⟩) hS ?_
    try simp only [Act.put, List.setIfInBounds_toArray, List.set_cons_zero, List.set_cons_succ]
    refine wpAnyH_take (i := 10) (oi := ⟨some 94, _, _, _, _, _⟩) (v := .int .i64 (a : Int)) rfl (by kernel_rfl) (by kernel_rfl) (by kernel_rfl) (fun _ _ _ h => h) (Or.inl ⟨by rfl, fun w hSw => by obtain ⟨_, s1, s2, s3, s4, s5⟩ := hSw; go_simp⟩) hS ?_
    try simp only [Act.put, List.setIfInBounds_toArray, List.set_cons_zero, List.set_cons_succ]
    refine wpAnyH_take (i := 11) (oi := ⟨some 95, _, _, _, _, _⟩) (v := .int .i64 (p : Int)) rfl (by kernel_rfl) (by kernel_rfl) (by kernel_rfl) (fun _ _ _ h => h) (Or.inl ⟨by rfl, fun w hSw => by obtain ⟨_, s1, s2, s3, s4, s5⟩ := hSw; go_simp⟩) hS ?_
    try simp only [Act.put, List.setIfInBounds_toArray, List.set_cons_zero, List.set_cons_succ]
    refine wpAnyH_take (i := 12) (oi := ⟨some 96, _, _, _, _, _⟩) (v := .int .i64 (s : Int)) rfl (by kernel_rfl) (by kernel_rfl) (by kernel_rfl) (fun _ _ _ h => h) (Or.inl ⟨by rfl, fun w hSw => by obtain ⟨_, s1, s2, s3, s4, s5⟩ := hSw; go_simp⟩) hS ?_
    try simp only [Act.put, List.setIfInBounds_toArray, List.set_cons_zero, List.set_cons_succ]
    refine wpAnyH_take (i := 13) (oi := ⟨some 97, _, _, _, _, _⟩) (v := .int .i64 (e : Int)) rfl (by kernel_rfl) (by kernel_rfl) (by kernel_rfl) (fun _ _ _ h => h) (Or.inl ⟨by rfl, fun w hSw => by obtain ⟨_, s1, s2, s3, s4, s5⟩ := hSw; go_simp⟩) hS ?_
    try simp only [Act.put, List.setIfInBounds_toArray, List.set_cons_zero, List.set_cons_succ]
    refine wpAnyH_take (i := 14) (oi := ⟨some 98, _, _, _, _, _⟩) (v := .int .i64 (e8 : Int)) rfl (by kernel_rfl) (by kernel_rfl) (by kernel_rfl) (fun _ _ _ h => h) (Or.inl ⟨by rfl, fun w hSw => by obtain ⟨_, s1, s2, s3, s4, s5⟩ := hSw; go_simp⟩) hS ?_
    try simp only [Act.put, List.setIfInBounds_toArray, List.set_cons_zero, List.set_cons_succ]
    refine wpAnyH_take (i := 15) (oi := ⟨some 99, _, _, _, _, _⟩) (v := .slice (some ⟨xb, xo + a, none⟩) (e8 - a) (xc - a)) rfl (by kernel_rfl) (by kernel_rfl) (by kernel_rfl) (fun _ _ _ h => h) (Or.inl ⟨by rfl, fun w hSw => by obtain ⟨_, s1, s2, s3, s4, s5⟩ := hSw; go_simp⟩) hS ?_
    try simp only [Act.put, List.setIfInBounds_toArray, List.set_cons_zero, List.set_cons_succ]
    refine wpAnyH_take (i := 16) (oi := ⟨some 100, _, _, _, _, _⟩) (v := .string X) rfl (by kernel_rfl) (by kernel_rfl) (by kernel_rfl) (fun _ _ _ h => h) (Or.inl ⟨by rfl, fun w hSw => by obtain ⟨_, s1, s2, s3, s4, s5⟩ := hSw; go_simp⟩) hS ?_
    try simp only [Act.put, List.setIfInBounds_toArray, List.set_cons_zero, List.set_cons_succ]
    refine wpAnyH_ready (rs := [1]) (by kernel_rfl) (by simp) ?_
    refine AllReadyH.cons (o := ⟨some 85, _, _, _, _, _⟩) rfl (fun K hK => ?_) AllReadyH.nil
    go_simp
    refine (HENC.out _ hS).mono ?_
    rintro er w3 ⟨ra, rn, rc, rfl, hS6, hcv⟩
    refine hK.out _ _ hS6 (fun _ => ?_)
    clear hK K
    try simp only [Act.put, List.setIfInBounds_toArray, List.set_cons_zero, List.set_cons_succ]
    refine wpAnyH_ready (rs := [2]) (by kernel_rfl) (by simp) ?_
    refine AllReadyH.cons (o := ⟨some 86, _, _, _, _, _⟩) rfl (fun K hK => ?_) AllReadyH.nil
    go_simp
    refine hK.out _ _ hS6 (fun _ => ?_)
    clear hK K
    try simp only [Act.put, List.setIfInBounds_toArray, List.set_cons_zero, List.set_cons_succ]
    refine wpAnyH_take (i := 17) (oi := ⟨some 101, _, _, _, _, _⟩) (v := .bool false) rfl (by kernel_rfl) (by kernel_rfl) (by kernel_rfl) (fun _ _ _ h => h) (Or.inl ⟨by rfl, fun w hSw => by obtain ⟨_, s1, s2, s3, s4, s5⟩ := hSw; go_simp⟩) hS6 ?_
    try simp only [Act.put, List.setIfInBounds_toArray, List.set_cons_zero, List.set_cons_succ]
    refine wpAnyH_done (by kernel_rfl) ?_ _
    have HBF := Lib.hid hS6.1
    have P4 := Lib.hid (P3.out.of_same (HBF.out.block _ P3.out.lt))
    have R4 := Lib.hid (R3.out.of_same (HBF.out.block _ R3.out.lt))
    have C4 := Lib.hid (HC.out.of_same (HBF.out.block _ HC.out.lt))
    have V4 := Lib.hid (HV.out.grow HBF.out)
    have p0 := P4.out.cell (i := 0) rfl
    have p1 := P4.out.cell (i := 1) rfl
    have pf := P4.out.free
    have c0 := C4.out.cell (i := 0) rfl
    have c1 := C4.out.cell (i := 1) rfl
    have r1 := R4.out.cell (i := 1) rfl
    have rf := R4.out.free
    have hw2 : w.heap.size < w2.heap.size := P2.out.lt
    have hb2 : b < w2.heap.size := R2.out.lt
    have m5 : g ≠ b := by omega
    have m6 : b ≠ g := by omega
    have m7 : g ≠ w.heap.size := by omega
    have B4 : Below w.heap.size w w3 := B3.out.trans (HBF.out.mono B3.out.size)
    have BB4 := Lib.hid B4
    have HB2 := Lib.hid hb2
    have HW2 := Lib.hid hw2
    clear B4 hS6 hcv
    go_wp2_with fail
    have st := (Stp.of_below (· = b) BB4.out).set (a := ⟨b, 1, none⟩) (.inl (.inl rfl)) (.int .i64 (e8 : Int))
    have hkeep : ∀ k, w2.heap.size ≤ k → (((w3.setCell ⟨b, 1, none⟩ (.int .i64 (e8 : Int))).setCell ⟨w.heap.size, 0, none⟩ (.int .i64 (k0.toNat : Int))).setCell ⟨w.heap.size, 1, none⟩ (.slice ba s bc)).heap[k]? = w3.heap[k]? := fun k hk => by
      have h1 := HB2.out
      have h2 := HW2.out
      rw [heap_setCell_other _ _ _ _ (show k ≠ w.heap.size by omega), heap_setCell_other _ _ _ _ (show k ≠ w.heap.size by omega), heap_setCell_other _ _ _ _ (show k ≠ b by omega)]
    refine ret_msg rfl (g := w.heap.size) rfl (((P4.out.set_ne (a := ⟨b, 1, none⟩) (Ne.symm nb) (.int .i64 (e8 : Int))).set 0 (.int .i64 (k0.toNat : Int))).set 1 (.slice ba s bc)) rfl ⟨_, rfl, ?_, ?_, ?_⟩
    · refine (V4.out.same (fun k hk => hkeep k hk.1)).mono (fun k hk => ⟨by have := HW2.out; omega, ?_⟩)
      have h1 := HBF.out.size
      have h2 : k < w3.heap.size := by omega
      simpa using h2
    · exact (st.set (.inr (Nat.le_refl _)) _).set (.inr (Nat.le_refl _)) _
    · have h := ((R4.out.set 1 (.int .i64 (e8 : Int))).set_ne nb (.int .i64 (k0.toNat : Int)) (a := ⟨w.heap.size, 0, none⟩)).set_ne nb (.slice ba s bc) (a := ⟨w.heap.size, 1, none⟩)
      unfold RefD
      rw [show a + bg + s + 8 = e8 from by have := HNUM.out; have := HE8.out; omega]
      exact h
end
end Go.Proofs.YtggiinfeiilogaaDoor
