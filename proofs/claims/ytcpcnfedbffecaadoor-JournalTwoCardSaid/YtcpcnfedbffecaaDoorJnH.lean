/- Contracts of the batch reader's 'take' and 'number', within the first sector. -/
import Derived.Test.YtcpcnfedbffecaaDoorJnG
namespace Go.Proofs.YtcpcnfedbffecaaDoor
open Go.RowKit Go.Maps
set_option linter.unusedSimpArgs false
/-- A batch reader: its next sector, the end, the bytes so far, the offset. -/
def BrAt (w : World) (br bd nx en : Nat) (dv : Value) (D : List UInt8) (off : Nat) : Prop :=
  Blk w br [.pointer (some ⟨bd, 0, none⟩), .int .i64 (nx : Int), .int .i64 (en : Int), dv, .int .i64 (off : Int), .int .i64 0] 73 ∧ OwnB w dv D
section
variable {w w' : World} {F G FD : Nat → Prop} {s : DSt} {br bd nx nx' en off n : Nat} {dv : Value} {D D' : List UInt8}
theorem BrAt.below (h : BrAt w br bd nx en dv D off) (hb : Below w.heap.size w w') : BrAt w' br bd nx en dv D off := ⟨h.1.of_same (hb.block br h.1.lt), h.2.grow hb⟩
theorem BrAt.ne (h : BrAt w br bd nx en dv D off) : dv.ownBlock ≠ some br := fun e => by
  obtain ⟨cur, hb⟩ := ownsRow_blk h.2 e
  exact absurd (hb.inj h.1).2 (by decide)
theorem BrAt.set (h : BrAt w br bd nx en dv D off) (i : Nat) (y : Value) {nx2 off2 : Nat} {dv2 : Value} {D2 : List UInt8} (hL : [.pointer (some ⟨bd, 0, none⟩), .int .i64 (nx : Int), .int .i64 (en : Int), dv, .int .i64 (off : Int), .int .i64 0].set i y = [.pointer (some ⟨bd, 0, none⟩), .int .i64 (nx2 : Int), .int .i64 (en : Int), dv2, .int .i64 (off2 : Int), .int .i64 0]) (hO : OwnB w dv2 D2) (hne : dv2.ownBlock ≠ some br) :
    BrAt (w.setCell ⟨br, i, none⟩ y) br bd nx2 en dv2 D2 off2 := by
  refine ⟨hL ▸ h.1.set i y, hO.same (F := fun g => dv2.ownBlock = some g) (fun g hg => heap_setCell_other w ⟨br, i, none⟩ g y (fun e => hne (by rw [hg]; exact congrArg some e))) (fun g hg => hg)⟩
theorem NewV.bv {w w' : World} {v : Value} {l : List UInt8} (h : NewV w w' v l) : BV w' (fun k => w.heap.size ≤ k) v l := by
  rcases h with ⟨rfl, rfl⟩ | ⟨k, rfl, hk, hb, hl⟩
  · exact BV.nil _ _
  · exact (BV.of_blk hb (by rw [List.take_of_length_le (by simp)]) (Nat.le_refl _) (by unfold maxLen; omega)).mono (fun _ e => e ▸ hk)
theorem cell_setx (w : World) (a c : Addr) (v : Value) (h : c.block ≠ a.block) : (w.setCell a v).drew.cell? c = w.cell? c := World.cell?_of_block (w := w) (heap_setCell_other w a c.block v h)
set_option maxRecDepth 100000 in
set_option maxHeartbeats 4000000 in
theorem take_any (h : BrAt w br bd nx en dv D off) (hD : DiskAt w s bd FD) (hc : s.Calm) (hbr : ¬ FD br) (hn : 0 < n) (hn2 : n ≤ 100000) (hen : nx ≤ en) (hen2 : en ≤ 65536) (hoff : off ≤ D.length) (hDl : D.length ≤ 100000)
    (H : (D' = D ∧ off + n ≤ D.length ∧ nx' = nx) ∨ (D = [] ∧ off = 0 ∧ D' = s.look nx ∧ n ≤ s.size ∧ nx' = nx + 1 ∧ nx < en ∧ nx < s.dur.length ∧ dv = .slice none 0 0)) :
    Calls Tryd.prog 43 #[.pointer (some ⟨br, 0, none⟩), .int .i64 (n : Int)] w fun e w' =>
      ∃ sv dv', e = .returned (.tuple #[sv, .bool true]) ∧ Stp (fun k => k = br) w w' ∧ BrAt w' br bd nx' en dv' D' (off + n) ∧ BV w' (fun _ => True) sv ((D'.drop off).take n) := by
  obtain ⟨da, dc, rfl, dc1, dc2, -⟩ := h.2.form
  unfold maxLen at dc2
  have hs1 := hD.ok.size1
  have hs2 := hD.ok.size2
  have hlk : nx < s.dur.length → (s.look nx).length = s.size := fun hx => DSt.look_len hD.ok hx
  have q0 := h.1.cell (i := 0) rfl
  have q1 := h.1.cell (i := 1) rfl
  have q2 := h.1.cell (i := 2) rfl
  have q3 := h.1.cell (i := 3) rfl
  have q4 := h.1.cell (i := 4) rfl
  have HS := Lib.hid (fun n => size_any (hD.below (below_drewN w n)))
  obtain ⟨pr, hpr⟩ : ∃ pr, (en - nx) * s.size = pr := ⟨_, rfl⟩
  have ipr : ((en : Int) - (nx : Int)) * (s.size : Int) = (pr : Int) := by
    rw [← hpr, Int.natCast_mul, show ((en - nx : Nat) : Int) = (en : Int) - (nx : Int) from by omega]
  have hprb : pr ≤ 65536 * 4096 := by rw [← hpr]; exact Nat.mul_le_mul (by omega) hs2
  have hpr2 : nx < en → s.size ≤ pr := fun hx => by
    rw [← hpr]
    have := Nat.mul_le_mul_right s.size (show 1 ≤ en - nx by omega)
    rwa [Nat.one_mul] at this
  have hav : n ≤ D.length - off + pr := by
    rcases H with ⟨-, h1, -⟩ | ⟨h1, h2, -, h3, -, h4, -, -⟩
    · omega
    · have := hpr2 h4; omega
  have HB := Lib.hid h
  have HD := Lib.hid hD
  have HC := Lib.hid hc
  have HBR := Lib.hid hbr
  have HH := Lib.hid H
  have HLK := Lib.hid hlk
  clear h hD hc hbr H hlk hpr hpr2
  go_enter Tryd.func43, Tryd.ntmps43
  go_wp2_with fail
  go_quiet (first | (go_at_call 23; refine quiet_same (HS.out _)))
  have hav2 : ¬ (D.length : Int) - (off : Int) + (pr : Int) < (n : Int) := by omega
  obtain ⟨w1, hw1⟩ : ∃ w1, w.drewN nq = w1 := ⟨_, rfl⟩
  have hb1 : Below w.heap.size w w1 := by rw [← hw1]; exact below_drewN w nq
  rw [hw1]
  have HB1 := Lib.hid (HB.out.below hb1)
  have HD1 := Lib.hid (HD.out.below hb1)
  have HS1 := Lib.hid (Stp.of_below (fun k => k = br) hb1)
  clear hw1 hb1 q0 q1 q2 q3 q4 HS
  go_wp2_with fail
  go_loopw [7] (fun s7 wr => ∃ (D1 : List UInt8) (nx1 : Nat) (dv1 : Value), ((D1 = D ∧ nx1 = nx ∧ dv1 = .slice da D.length dc) ∨ (D1 = D' ∧ nx1 = nx' ∧ off + n ≤ D'.length)) ∧ Stp (fun k => k = br) w1 wr ∧ BrAt wr br bd nx1 en dv1 D1 off) (fun s7 wr => en + 1 - (intOf ((wr.cell? ⟨br, 1, none⟩).getD undef)).toNat)
  case atStart => exact ⟨D, nx, _, .inl ⟨rfl, rfl, rfl⟩, Stp.refl _ _, HB1.out⟩
  case round =>
    obtain ⟨D1, nx1, dv1, hcase, hst, hBr⟩ := hrel
    obtain ⟨a1, c1, rfl, k1, k2, -⟩ := hBr.2.form
    unfold maxLen at k2
    have hD1 : D1.length ≤ 100000 ∧ off ≤ D1.length := by
      rcases hcase with ⟨rfl, -⟩ | ⟨rfl, -, h3⟩
      · exact ⟨hDl, hoff⟩
      · refine ⟨?_, by omega⟩
        rcases HH.out with ⟨h4, -, -⟩ | ⟨-, -, h4, -, -, -, h5, -⟩
        · rw [h4]; exact hDl
        · rw [h4, HLK.out h5]; omega
    obtain ⟨hD1l, hD1o⟩ := hD1
    have q1 := hBr.1.cell (i := 1) rfl
    have q3 := hBr.1.cell (i := 3) rfl
    have q4 := hBr.1.cell (i := 4) rfl
    have HBr := Lib.hid hBr
    have HST := Lib.hid hst
    clear hBr hst HB1
    go_wp2_with fail
    go_quiet (fail)
    obtain ⟨w3, hw3⟩ : ∃ w3, wr.drewN nq = w3 := ⟨_, rfl⟩
    have hb3 : Below wr.heap.size wr w3 := by rw [← hw3]; exact below_drewN wr nq
    rw [hw3]
    have HB3 := Lib.hid (HBr.out.below hb3)
    have HS3 := Lib.hid (HST.out.trans (Stp.of_below _ hb3))
    have HS3x := HS3
    have hq1 := Lib.hid q1
    have g1 := HB3.out.1.cell (i := 1) rfl
    have g3 := HB3.out.1.cell (i := 3) rfl
    have g4 := HB3.out.1.cell (i := 4) rfl
    have g0 := HB3.out.1.cell (i := 0) rfl
    have gf := fun i => HB3.out.1.free i
    have glt := HB3.out.1.lt
    clear hw3 hb3 q1 q3 q4
    by_cases hx : off + n ≤ D1.length
    · have hDD : D1 = D' ∧ nx1 = nx' := by
        rcases hcase with ⟨h1, h2, -⟩ | ⟨h1, h2, -⟩
        · rcases HH.out with ⟨h4, -, h5⟩ | ⟨h4, h6, -⟩
          · exact ⟨by rw [h1, h4], by rw [h2, h5]⟩
          · rw [h1, h4] at hx; simp at hx; omega
        · exact ⟨h1, h2⟩
      obtain ⟨rfl, rfl⟩ := hDD
      have ix : ¬ (D1.length : Int) - (off : Int) < (n : Int) := by omega
      clear hcase
      obtain ⟨g, c', e', gk1, gk2, _, -, -, -⟩ := HB3.out.2.cells (by omega)
      obtain ⟨rfl, rfl⟩ : a1 = some ⟨g, 0, none⟩ ∧ c1 = c' := by simpa using e'
      obtain ⟨o2, ho2⟩ : ∃ o2, off + n = o2 := ⟨_, rfl⟩
      have io : (off : Int) + (n : Int) = (o2 : Int) := by omega
      have wo : IntKind.i64.wrap (o2 : Int) = (o2 : Int) := by rw [IntKind.wrap_i64]; omega
      have h1 : off ≤ o2 := by omega
      have h2 : ¬ o2 < off := by omega
      have h3 : ¬ c1 < o2 := by omega
      have h4 : ¬ c1 = off := by omega
      have h5 : o2 - off = n := by omega
      have HVS : Hid (BV w3 (fun _ => True) (.slice (some ⟨g, off, none⟩) n (c1 - off)) ((D1.drop off).take n)) := Lib.hid (by
        have := (HB3.out.2.bv.subAt (lo := off) (k := n) rfl (by omega)).mono (G := fun _ => True) (fun _ _ => trivial)
        rwa [Nat.zero_add] at this)
      have HO2 := Lib.hid ho2
      clear ho2 e' gk1 gk2
      go_wp2_with fail
      have HSg : Hid (w3.drew.cell? ⟨br, 3, none⟩ = some (.slice (some ⟨g, 0, none⟩) D1.length c1) ∧ w3.drew.cell? ⟨br, 4, none⟩ = some (.int .i64 (off : Int))) := Lib.hid ⟨g3, g4⟩
      refine wp_region_held_drew (S := (fun w' => w'.cell? ⟨br, 3, none⟩ = some (.slice (some ⟨g, 0, none⟩) D1.length c1) ∧ w'.cell? ⟨br, 4, none⟩ = some (.int .i64 (off : Int)))) (by kernel_rfl) HSg.out (fun hS => ?_)
      refine wpAnyH_take (i := 0) (oi := ⟨some 83, _, _, _, _, _⟩) (v := .pointer (some ⟨br, 0, none⟩)) rfl (by kernel_rfl) (by kernel_rfl) (by kernel_rfl) (fun _ _ _ h => h) (Or.inl ⟨by rfl, fun w hSw => by obtain ⟨s1, s2⟩ := hSw; go_simp⟩) hS ?_
      try simp only [Act.put, List.setIfInBounds_toArray, List.set_cons_zero, List.set_cons_succ]
      refine wpAnyH_take (i := 1) (oi := ⟨some 84, _, _, _, _, _⟩) (v := .pointer (some ⟨br, 0, none⟩)) rfl (by kernel_rfl) (by kernel_rfl) (by kernel_rfl) (fun _ _ _ h => h) (Or.inl ⟨by rfl, fun w hSw => by obtain ⟨s1, s2⟩ := hSw; go_simp⟩) hS ?_
      try simp only [Act.put, List.setIfInBounds_toArray, List.set_cons_zero, List.set_cons_succ]
      refine wpAnyH_take (i := 2) (oi := ⟨some 85, _, _, _, _, _⟩) (v := .pointer (some ⟨br, 3, none⟩)) rfl (by kernel_rfl) (by kernel_rfl) (by kernel_rfl) (fun _ _ _ h => h) (Or.inl ⟨by rfl, fun w hSw => by obtain ⟨s1, s2⟩ := hSw; go_simp⟩) hS ?_
      try simp only [Act.put, List.setIfInBounds_toArray, List.set_cons_zero, List.set_cons_succ]
      refine wpAnyH_take (i := 3) (oi := ⟨some 86, _, _, _, _, _⟩) (v := .slice (some ⟨g, 0, none⟩) D1.length c1) rfl (by kernel_rfl) (by kernel_rfl) (by kernel_rfl) (fun _ _ _ h => h) (Or.inl ⟨by rfl, fun w hSw => by obtain ⟨s1, s2⟩ := hSw; go_simp⟩) hS ?_
      try simp only [Act.put, List.setIfInBounds_toArray, List.set_cons_zero, List.set_cons_succ]
      refine wpAnyH_take (i := 4) (oi := ⟨some 87, _, _, _, _, _⟩) (v := .pointer (some ⟨br, 0, none⟩)) rfl (by kernel_rfl) (by kernel_rfl) (by kernel_rfl) (fun _ _ _ h => h) (Or.inl ⟨by rfl, fun w hSw => by obtain ⟨s1, s2⟩ := hSw; go_simp⟩) hS ?_
      try simp only [Act.put, List.setIfInBounds_toArray, List.set_cons_zero, List.set_cons_succ]
      refine wpAnyH_take (i := 5) (oi := ⟨some 88, _, _, _, _, _⟩) (v := .pointer (some ⟨br, 0, none⟩)) rfl (by kernel_rfl) (by kernel_rfl) (by kernel_rfl) (fun _ _ _ h => h) (Or.inl ⟨by rfl, fun w hSw => by obtain ⟨s1, s2⟩ := hSw; go_simp⟩) hS ?_
      try simp only [Act.put, List.setIfInBounds_toArray, List.set_cons_zero, List.set_cons_succ]
      refine wpAnyH_take (i := 6) (oi := ⟨some 89, _, _, _, _, _⟩) (v := .pointer (some ⟨br, 4, none⟩)) rfl (by kernel_rfl) (by kernel_rfl) (by kernel_rfl) (fun _ _ _ h => h) (Or.inl ⟨by rfl, fun w hSw => by obtain ⟨s1, s2⟩ := hSw; go_simp⟩) hS ?_
      try simp only [Act.put, List.setIfInBounds_toArray, List.set_cons_zero, List.set_cons_succ]
      refine wpAnyH_take (i := 7) (oi := ⟨some 90, _, _, _, _, _⟩) (v := .int .i64 (off : Int)) rfl (by kernel_rfl) (by kernel_rfl) (by kernel_rfl) (fun _ _ _ h => h) (Or.inl ⟨by rfl, fun w hSw => by obtain ⟨s1, s2⟩ := hSw; go_simp⟩) hS ?_
      try simp only [Act.put, List.setIfInBounds_toArray, List.set_cons_zero, List.set_cons_succ]
      refine wpAnyH_take (i := 8) (oi := ⟨some 91, _, _, _, _, _⟩) (v := .pointer (some ⟨br, 0, none⟩)) rfl (by kernel_rfl) (by kernel_rfl) (by kernel_rfl) (fun _ _ _ h => h) (Or.inl ⟨by rfl, fun w hSw => by obtain ⟨s1, s2⟩ := hSw; go_simp⟩) hS ?_
      try simp only [Act.put, List.setIfInBounds_toArray, List.set_cons_zero, List.set_cons_succ]
      refine wpAnyH_take (i := 9) (oi := ⟨some 92, _, _, _, _, _⟩) (v := .pointer (some ⟨br, 0, none⟩)) rfl (by kernel_rfl) (by kernel_rfl) (by kernel_rfl) (fun _ _ _ h => h) (Or.inl ⟨by rfl, fun w hSw => by obtain ⟨s1, s2⟩ := hSw; go_simp⟩) hS ?_
      try simp only [Act.put, List.setIfInBounds_toArray, List.set_cons_zero, List.set_cons_succ]
      refine wpAnyH_take (i := 10) (oi := ⟨some 93, _, _, _, _, _⟩) (v := .pointer (some ⟨br, 4, none⟩)) rfl (by kernel_rfl) (by kernel_rfl) (by kernel_rfl) (fun _ _ _ h => h) (Or.inl ⟨by rfl, fun w hSw => by obtain ⟨s1, s2⟩ := hSw; go_simp⟩) hS ?_
      try simp only [Act.put, List.setIfInBounds_toArray, List.set_cons_zero, List.set_cons_succ]
      refine wpAnyH_take (i := 11) (oi := ⟨some 94, _, _, _, _, _⟩) (v := .int .i64 (off : Int)) rfl (by kernel_rfl) (by kernel_rfl) (by kernel_rfl) (fun _ _ _ h => h) (Or.inl ⟨by rfl, fun w hSw => by obtain ⟨s1, s2⟩ := hSw; go_simp⟩) hS ?_
      try simp only [Act.put, List.setIfInBounds_toArray, List.set_cons_zero, List.set_cons_succ]
      refine wpAnyH_take (i := 12) (oi := ⟨some 95, _, _, _, _, _⟩) (v := .int .i64 (n : Int)) rfl (by kernel_rfl) (by kernel_rfl) (by kernel_rfl) (fun _ _ _ h => h) (Or.inl ⟨by rfl, fun w hSw => by obtain ⟨s1, s2⟩ := hSw; go_simp⟩) hS ?_
      try simp only [Act.put, List.setIfInBounds_toArray, List.set_cons_zero, List.set_cons_succ]
      refine wpAnyH_take (i := 13) (oi := ⟨some 96, _, _, _, _, _⟩) (v := .int .i64 (o2 : Int)) rfl (by kernel_rfl) (by kernel_rfl) (by kernel_rfl) (fun _ _ _ h => h) (Or.inl ⟨by rfl, fun w hSw => by obtain ⟨s1, s2⟩ := hSw; go_simp⟩) hS ?_
      try simp only [Act.put, List.setIfInBounds_toArray, List.set_cons_zero, List.set_cons_succ]
      refine wpAnyH_take (i := 14) (oi := ⟨some 97, _, _, _, _, _⟩) (v := .slice (some ⟨g, off, none⟩) n (c1 - off)) rfl (by kernel_rfl) (by kernel_rfl) (by kernel_rfl) (fun _ _ _ h => h) (Or.inl ⟨by rfl, fun w hSw => by obtain ⟨s1, s2⟩ := hSw; go_simp⟩) hS ?_
      try simp only [Act.put, List.setIfInBounds_toArray, List.set_cons_zero, List.set_cons_succ]
      refine wpAnyH_take (i := 15) (oi := ⟨some 8, _, _, _, _, _⟩) (v := .slice (some ⟨g, off, none⟩) n (c1 - off)) rfl (by kernel_rfl) (by kernel_rfl) (by kernel_rfl) (fun _ _ _ h => h) (Or.inl ⟨by rfl, fun w hSw => by obtain ⟨s1, s2⟩ := hSw; go_simp⟩) hS ?_
      try simp only [Act.put, List.setIfInBounds_toArray, List.set_cons_zero, List.set_cons_succ]
      refine wpAnyH_done (by kernel_rfl) ?_ _
      go_wp2_with fail
      go_ret2
      have R := (HB3.out.set 4 (.int .i64 (o2 : Int)) (nx2 := nx1) (off2 := o2) rfl HB3.out.2 HB3.out.ne).below (Below.refl _ _).drew
      have S4 := ((HS1.out.trans' HS3.out).set (a := ⟨br, 4, none⟩) (.inl (.inl rfl)) (.int .i64 (o2 : Int))).drew
      rw [HO2.out]
      exact ⟨_, _, rfl, S4, R, (by
        obtain ⟨a, c, e, b1, b2, b3, b4⟩ := HVS.out
        refine ⟨a, c, e, b1, b2, b3, fun hp => ?_⟩
        obtain ⟨bb, o, e2, hF, hcell⟩ := b4 hp
        refine ⟨bb, o, e2, trivial, fun i hi => ?_⟩
        have hne : bb ≠ br := fun e3 => by
          injection e with e4 e5 e6
          rw [e2] at e4
          have e7 := Option.some.inj e4
          injection e7 with e8
          exact HB3.out.ne (by rw [← e3, ← e8]; rfl)
        exact (cell_setx _ _ _ _ hne).trans (hcell i hi))⟩
    · have hDD : D1 = D ∧ nx1 = nx ∧ D = [] ∧ off = 0 ∧ D' = s.look nx ∧ n ≤ s.size ∧ nx' = nx + 1 ∧ nx < en ∧ nx < s.dur.length ∧ a1 = none ∧ c1 = 0 := by
        rcases hcase with ⟨h1, h2, h3⟩ | ⟨h1, h2, h3⟩
        · rcases HH.out with ⟨h4, h5, h6⟩ | ⟨h4, h5, h6, h7, h8, h9, h10, h11⟩
          · rw [h1] at hx; omega
          · rw [h11] at h3
            injection h3 with h12 h13 h14
            exact ⟨h1, h2, h4, h5, h6, h7, h8, h9, h10, h12, h14⟩
        · rw [h1] at hx; omega
      obtain ⟨rfl, rfl, hD0, ho0, hD', hns, hnx, hne, hnd, rfl, rfl⟩ := hDD
      have hl0 : D1.length = 0 := by rw [hD0]; rfl
      have ix : (D1.length : Int) - (off : Int) < (n : Int) := by omega
      have HD0 := Lib.hid (And.intro hD0 (And.intro ho0 (And.intro hl0 hnx)))
      clear hD0 ho0 hl0 hnx
      clear hcase
      go_wp2_with fail
      have VR := read_any (HD1.out.same ((HS3x.out).same HD1.out.inn (fun q hq e => HBR.out (e ▸ hq))) HS3x.out.size |>.below (Below.refl _ _).drew) (nx1 : Int)
      rw [HC.out.read hnd] at VR
      have HVR := Lib.hid VR
      clear VR
      have HSr : Hid (w3.drew.cell? ⟨br, 0, none⟩ = some (.pointer (some ⟨bd, 0, none⟩)) ∧ w3.drew.cell? ⟨br, 1, none⟩ = some (.int .i64 (nx1 : Int))) := Lib.hid ⟨g0, g1⟩
      refine wp_region_held_drew (S := (fun w' => w'.cell? ⟨br, 0, none⟩ = some (.pointer (some ⟨bd, 0, none⟩)) ∧ w'.cell? ⟨br, 1, none⟩ = some (.int .i64 (nx1 : Int)))) (by kernel_rfl) HSr.out (fun hS => ?_)
      refine wpAnyH_take (i := 0) (oi := ⟨some 50, _, _, _, _, _⟩) (v := .pointer (some ⟨br, 0, none⟩)) rfl (by kernel_rfl) (by kernel_rfl) (by kernel_rfl) (fun _ _ _ h => h) (Or.inl ⟨by rfl, fun w hSw => by obtain ⟨s1, s2⟩ := hSw; go_simp⟩) hS ?_
      try simp only [Act.put, List.setIfInBounds_toArray, List.set_cons_zero, List.set_cons_succ]
      refine wpAnyH_take (i := 1) (oi := ⟨some 51, _, _, _, _, _⟩) (v := .pointer (some ⟨br, 0, none⟩)) rfl (by kernel_rfl) (by kernel_rfl) (by kernel_rfl) (fun _ _ _ h => h) (Or.inl ⟨by rfl, fun w hSw => by obtain ⟨s1, s2⟩ := hSw; go_simp⟩) hS ?_
      try simp only [Act.put, List.setIfInBounds_toArray, List.set_cons_zero, List.set_cons_succ]
      refine wpAnyH_take (i := 2) (oi := ⟨some 52, _, _, _, _, _⟩) (v := .pointer (some ⟨br, 0, none⟩)) rfl (by kernel_rfl) (by kernel_rfl) (by kernel_rfl) (fun _ _ _ h => h) (Or.inl ⟨by rfl, fun w hSw => by obtain ⟨s1, s2⟩ := hSw; go_simp⟩) hS ?_
      try simp only [Act.put, List.setIfInBounds_toArray, List.set_cons_zero, List.set_cons_succ]
      refine wpAnyH_take (i := 3) (oi := ⟨some 53, _, _, _, _, _⟩) (v := .pointer (some ⟨bd, 0, none⟩)) rfl (by kernel_rfl) (by kernel_rfl) (by kernel_rfl) (fun _ _ _ h => h) (Or.inl ⟨by rfl, fun w hSw => by obtain ⟨s1, s2⟩ := hSw; go_simp⟩) hS ?_
      try simp only [Act.put, List.setIfInBounds_toArray, List.set_cons_zero, List.set_cons_succ]
      refine wpAnyH_take (i := 4) (oi := ⟨some 54, _, _, _, _, _⟩) (v := .pointer (some ⟨br, 0, none⟩)) rfl (by kernel_rfl) (by kernel_rfl) (by kernel_rfl) (fun _ _ _ h => h) (Or.inl ⟨by rfl, fun w hSw => by obtain ⟨s1, s2⟩ := hSw; go_simp⟩) hS ?_
      try simp only [Act.put, List.setIfInBounds_toArray, List.set_cons_zero, List.set_cons_succ]
      refine wpAnyH_take (i := 5) (oi := ⟨some 55, _, _, _, _, _⟩) (v := .pointer (some ⟨br, 0, none⟩)) rfl (by kernel_rfl) (by kernel_rfl) (by kernel_rfl) (fun _ _ _ h => h) (Or.inl ⟨by rfl, fun w hSw => by obtain ⟨s1, s2⟩ := hSw; go_simp⟩) hS ?_
      try simp only [Act.put, List.setIfInBounds_toArray, List.set_cons_zero, List.set_cons_succ]
      refine wpAnyH_take (i := 6) (oi := ⟨some 56, _, _, _, _, _⟩) (v := .pointer (some ⟨br, 1, none⟩)) rfl (by kernel_rfl) (by kernel_rfl) (by kernel_rfl) (fun _ _ _ h => h) (Or.inl ⟨by rfl, fun w hSw => by obtain ⟨s1, s2⟩ := hSw; go_simp⟩) hS ?_
      try simp only [Act.put, List.setIfInBounds_toArray, List.set_cons_zero, List.set_cons_succ]
      refine wpAnyH_take (i := 7) (oi := ⟨some 57, _, _, _, _, _⟩) (v := .int .i64 (nx1 : Int)) rfl (by kernel_rfl) (by kernel_rfl) (by kernel_rfl) (fun _ _ _ h => h) (Or.inl ⟨by rfl, fun w hSw => by obtain ⟨s1, s2⟩ := hSw; go_simp⟩) hS ?_
      try simp only [Act.put, List.setIfInBounds_toArray, List.set_cons_zero, List.set_cons_succ]
      refine wpAnyH_ready (rs := [8]) (by kernel_rfl) (by simp) ?_
      refine AllReadyH.cons (o := ⟨some 58, _, _, _, _, _⟩) rfl (fun K hK => ?_) AllReadyH.nil
      go_simp
      refine (HVR.out).mono ?_
      rintro e w4 ⟨rv, rfl, hb4, hv4⟩
      have hb34 : Below w3.heap.size w3 w4 := (Below.refl _ _).drew.trans hb4
      have HB4 := Lib.hid (HB3.out.below hb34)
      have t0 := HB4.out.1.cell (i := 0) rfl
      have t1 := HB4.out.1.cell (i := 1) rfl
      have t3 := HB4.out.1.cell (i := 3) rfl
      have tf := fun i => HB4.out.1.free i
      have hbv := hv4.bv
      obtain ⟨ra, rc, rfl, _, _, -⟩ := hbv.get
      have HBV := Lib.hid hbv
      have HB34 := Lib.hid hb34
      clear hb4 hv4 hbv hb34 g0 g1 g3 g4 gf HVR
      refine hK.out _ _ (And.intro t0 t1) (fun _ => ?_)
      clear hK K
      try simp only [Act.put, List.setIfInBounds_toArray, List.set_cons_zero, List.set_cons_succ]
      refine wpAnyH_take (i := 9) (oi := ⟨some 49, _, _, _, _, _⟩) (v := .tuple #[.slice ra (s.look nx1).length rc, .int .i64 0]) rfl (by kernel_rfl) (by kernel_rfl) (by kernel_rfl) (fun _ _ _ h => h) (Or.inl ⟨by rfl, fun w hSw => by obtain ⟨s1, s2⟩ := hSw; go_simp⟩) (And.intro t0 t1) ?_
      try simp only [Act.put, List.setIfInBounds_toArray, List.set_cons_zero, List.set_cons_succ]
      refine wpAnyH_take (i := 10) (oi := ⟨some 59, _, _, _, _, _⟩) (v := .slice ra (s.look nx1).length rc) rfl (by kernel_rfl) (by kernel_rfl) (by kernel_rfl) (fun _ _ _ h => h) (Or.inl ⟨by rfl, fun w hSw => by obtain ⟨s1, s2⟩ := hSw; go_simp⟩) (And.intro t0 t1) ?_
      try simp only [Act.put, List.setIfInBounds_toArray, List.set_cons_zero, List.set_cons_succ]
      refine wpAnyH_take (i := 11) (oi := ⟨some 60, _, _, _, _, _⟩) (v := .int .i64 0) rfl (by kernel_rfl) (by kernel_rfl) (by kernel_rfl) (fun _ _ _ h => h) (Or.inl ⟨by rfl, fun w hSw => by obtain ⟨s1, s2⟩ := hSw; go_simp⟩) (And.intro t0 t1) ?_
      try simp only [Act.put, List.setIfInBounds_toArray, List.set_cons_zero, List.set_cons_succ]
      refine wpAnyH_take (i := 12) (oi := ⟨some 6, _, _, _, _, _⟩) (v := .slice ra (s.look nx1).length rc) rfl (by kernel_rfl) (by kernel_rfl) (by kernel_rfl) (fun _ _ _ h => h) (Or.inl ⟨by rfl, fun w hSw => by obtain ⟨s1, s2⟩ := hSw; go_simp⟩) (And.intro t0 t1) ?_
      try simp only [Act.put, List.setIfInBounds_toArray, List.set_cons_zero, List.set_cons_succ]
      refine wpAnyH_take (i := 13) (oi := ⟨some 7, _, _, _, _, _⟩) (v := .int .i64 0) rfl (by kernel_rfl) (by kernel_rfl) (by kernel_rfl) (fun _ _ _ h => h) (Or.inl ⟨by rfl, fun w hSw => by obtain ⟨s1, s2⟩ := hSw; go_simp⟩) (And.intro t0 t1) ?_
      try simp only [Act.put, List.setIfInBounds_toArray, List.set_cons_zero, List.set_cons_succ]
      refine wpAnyH_done (by kernel_rfl) ?_ _
      clear hS HSr
      go_wp2_with (at_builtin; refine wpList_append_bytes rfl (.tmp 71) (.tmp 72) rfl (.slice none D1.length 0) (.slice ra (s.look nx1).length rc) (s.look nx1) (by rfl) (by rfl) HB4.out.2 HBV.out (by rw [HD0.out.2.2.1, HLK.out hnd]; omega) ?_)
      intro oa oc w5 hO hg hat
      have hbr5 := HB4.out.1.of_same (hg.block br HB4.out.1.lt (Ne.symm HB4.out.ne))
      have y1 := hbr5.cell (i := 1) rfl
      have y3 := hbr5.cell (i := 3) rfl
      have yf := fun i => hbr5.free i
      have hst5 : Stp (fun k => k = br) w3 w5 := by
        have h1 := (Stp.of_below (fun k => k = br) HB34.out)
        refine ⟨hg.os.trans h1.os, hg.tape.trans h1.tape, hg.output.trans h1.output, Nat.le_trans h1.size hg.size, fun k hk hkn => (hg.block k (Nat.lt_of_lt_of_le hk h1.size) (fun e => ?_)).trans (h1.keep k hk hkn)⟩
        cases e
      have HX5 := Lib.hid (And.intro hbr5 (And.intro hO hst5))
      clear hbr5 hO hg hat hst5 t1 t3 tf
      go_wp2_with fail
      have hO5 := HX5.out.2.1
      rw [show D1 ++ s.look nx1 = s.look nx1 from by rw [HD0.out.1]; rfl] at hO5
      generalize hNV : (Value.slice oa (D1.length + (s.look nx1).length) oc) = NV at *
      have Z := (HX5.out.1.set 3 NV).set 1 (.int .i64 ((nx1 : Int) + 1))
      simp only [List.set_cons_succ, List.set_cons_zero] at Z
      have hne5 : NV.ownBlock ≠ some br := fun e => by
        obtain ⟨cur, hb'⟩ := ownsRow_blk hO5 e
        exact absurd (hb'.inj HX5.out.1).2 (by decide)
      have ZO : OwnB ((w5.setCell ⟨br, 3, none⟩ NV).setCell ⟨br, 1, none⟩ (.int .i64 ((nx1 : Int) + 1))) NV (s.look nx1) :=
        hO5.same (F := fun g => NV.ownBlock = some g) (fun g hg => by
          have hgb : g ≠ br := fun e => hne5 (by rw [hg, e])
          exact (heap_setCell_other _ ⟨br, 1, none⟩ g _ hgb).trans (heap_setCell_other _ ⟨br, 3, none⟩ g _ hgb)) (fun g hg => hg)
      have ZS := ((HS3.out.trans' HX5.out.2.2).set (a := ⟨br, 3, none⟩) (.inl (.inl rfl)) NV).set (a := ⟨br, 1, none⟩) (.inl (.inl rfl)) (.int .i64 ((nx1 : Int) + 1))
      have q1' := Z.cell (i := 1) rfl
      have wlen := HLK.out hnd
      rw [show (nx1 : Int) + 1 = (nx' : Int) from by rw [HD0.out.2.2.2]; omega] at Z ZO ZS q1' ⊢
      refine ⟨⟨D', nx', NV, .inr ⟨rfl, rfl, by rw [hD', wlen, HD0.out.2.1]; omega⟩, ZS, Z, by rw [hD']; exact ZO⟩, ?_⟩
      rw [q1', hq1.out]
      have := HD0.out.2.2.2
      simp [intOf]; omega
end
end Go.Proofs.YtcpcnfedbffecaaDoor
