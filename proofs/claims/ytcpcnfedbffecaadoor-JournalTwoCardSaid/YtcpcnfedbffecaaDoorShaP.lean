/- Contract of process. -/
import Derived.Test.YtcpcnfedbffecaaDoorShaA
import Derived.StillTailTactics
import Derived.Deep.RegionHeld3
import Derived.Deep.RegionLaw
import Derived.Deep.DrawnRows
import Derived.BigQuiet
import Derived.Deep.QuietTactic
namespace Go.Proofs.YtcpcnfedbffecaaDoor
open Go.RowKit
def wrow (blk : List UInt8) (t : Nat) : List Value := Ws (Sha.sched blk t) ++ List.replicate (64 - t) (.int .u32 0)
theorem wrow_zero (blk : List UInt8) : wrow blk 0 = List.replicate 64 (.int .u32 0) := rfl
theorem wrow_get {blk : List UInt8} {t i : Nat} (h : i < t) : (wrow blk t)[i]? = some (.int .u32 (((Sha.sched blk t).getD i 0).toNat : Int)) := by
  unfold wrow
  rw [List.getElem?_append_left (by rw [Ws_length, Sha.sched_length]; exact h)]
  exact Ws_get _ _ (by rw [Sha.sched_length]; exact h)
theorem wrow_zeroAt {blk : List UInt8} {t : Nat} (h : t < 64) : (wrow blk t)[t]? = some (.int .u32 0) := by
  unfold wrow
  rw [List.getElem?_append_right (by rw [Ws_length, Sha.sched_length]; omega), Ws_length, Sha.sched_length, Nat.sub_self]
  rw [List.getElem?_replicate, if_pos (by omega)]
theorem wrow_set {blk : List UInt8} {t : Nat} (h : t < 64) {x : UInt32} (hx : x = Sha.more blk (Sha.sched blk t)) : (wrow blk t).set t (.int .u32 (x.toNat : Int)) = wrow blk (t + 1) := by
  subst hx
  unfold wrow
  rw [List.set_append, if_neg (by rw [Ws_length, Sha.sched_length]; omega), Ws_length, Sha.sched_length, Nat.sub_self]
  obtain ⟨m, hm⟩ : ∃ m, 64 - t = m + 1 := ⟨63 - t, by omega⟩
  rw [hm, show 64 - (t + 1) = m from by omega, List.replicate_succ]
  simp [Sha.sched, Ws, U32]
def mixw (v u : Sha.V) (t : Nat) : List Value := Ws ((v.add u).list.take t ++ v.list.drop t)
section
variable {w : World} {b : Nat} {v : Sha.V} {buf blk : List UInt8} {len : Nat} {rest : List Value} {T : TypeId} {F : Nat → Prop} {dv : Value}
set_option maxRecDepth 100000 in
set_option maxHeartbeats 4000000 in
theorem process_any (h : Blk w b (shaCells v buf len ++ rest) T) (hd : BV w F dv blk) (hl : blk.length = 64) (hg : Glob w) :
    Calls Tryd.prog 51 #[.pointer (some ⟨b, 0, none⟩), dv] w fun e w' => e = .returned (.tuple #[]) ∧ Stp (· = b) w w' ∧ Blk w' b (shaCells (Sha.block v blk) buf len ++ rest) T := by
  obtain ⟨da, dc, rfl, dc1, dc2, _⟩ := hd.get
  unfold maxLen at dc2
  have HB := Lib.hid h; clear h
  have HD := Lib.hid hd; clear hd
  have HG := Lib.hid hg; clear hg
  rw [hl] at dc1 HD ⊢
  have W1 := Lib.hid ((Below.refl w.heap.size w).alloc (Nat.le_refl _) (.cells #[.int .u32 0, .int .u32 0, .int .u32 0, .int .u32 0, .int .u32 0, .int .u32 0, .int .u32 0, .int .u32 0, .int .u32 0, .int .u32 0, .int .u32 0, .int .u32 0, .int .u32 0, .int .u32 0, .int .u32 0, .int .u32 0, .int .u32 0, .int .u32 0, .int .u32 0, .int .u32 0, .int .u32 0, .int .u32 0, .int .u32 0, .int .u32 0, .int .u32 0, .int .u32 0, .int .u32 0, .int .u32 0, .int .u32 0, .int .u32 0, .int .u32 0, .int .u32 0, .int .u32 0, .int .u32 0, .int .u32 0, .int .u32 0, .int .u32 0, .int .u32 0, .int .u32 0, .int .u32 0, .int .u32 0, .int .u32 0, .int .u32 0, .int .u32 0, .int .u32 0, .int .u32 0, .int .u32 0, .int .u32 0, .int .u32 0, .int .u32 0, .int .u32 0, .int .u32 0, .int .u32 0, .int .u32 0, .int .u32 0, .int .u32 0, .int .u32 0, .int .u32 0, .int .u32 0, .int .u32 0, .int .u32 0, .int .u32 0, .int .u32 0, .int .u32 0] 99))
  have R1 : Hid (Blk (w.alloc (.cells #[.int .u32 0, .int .u32 0, .int .u32 0, .int .u32 0, .int .u32 0, .int .u32 0, .int .u32 0, .int .u32 0, .int .u32 0, .int .u32 0, .int .u32 0, .int .u32 0, .int .u32 0, .int .u32 0, .int .u32 0, .int .u32 0, .int .u32 0, .int .u32 0, .int .u32 0, .int .u32 0, .int .u32 0, .int .u32 0, .int .u32 0, .int .u32 0, .int .u32 0, .int .u32 0, .int .u32 0, .int .u32 0, .int .u32 0, .int .u32 0, .int .u32 0, .int .u32 0, .int .u32 0, .int .u32 0, .int .u32 0, .int .u32 0, .int .u32 0, .int .u32 0, .int .u32 0, .int .u32 0, .int .u32 0, .int .u32 0, .int .u32 0, .int .u32 0, .int .u32 0, .int .u32 0, .int .u32 0, .int .u32 0, .int .u32 0, .int .u32 0, .int .u32 0, .int .u32 0, .int .u32 0, .int .u32 0, .int .u32 0, .int .u32 0, .int .u32 0, .int .u32 0, .int .u32 0, .int .u32 0, .int .u32 0, .int .u32 0, .int .u32 0, .int .u32 0] 99)) w.heap.size (wrow blk 0) 99) := Blk.new w (wrow blk 0) _
  go_enter Tryd.func51, Tryd.ntmps51
  go_wp2_with fail
  generalize w.alloc (.cells #[.int .u32 0, .int .u32 0, .int .u32 0, .int .u32 0, .int .u32 0, .int .u32 0, .int .u32 0, .int .u32 0, .int .u32 0, .int .u32 0, .int .u32 0, .int .u32 0, .int .u32 0, .int .u32 0, .int .u32 0, .int .u32 0, .int .u32 0, .int .u32 0, .int .u32 0, .int .u32 0, .int .u32 0, .int .u32 0, .int .u32 0, .int .u32 0, .int .u32 0, .int .u32 0, .int .u32 0, .int .u32 0, .int .u32 0, .int .u32 0, .int .u32 0, .int .u32 0, .int .u32 0, .int .u32 0, .int .u32 0, .int .u32 0, .int .u32 0, .int .u32 0, .int .u32 0, .int .u32 0, .int .u32 0, .int .u32 0, .int .u32 0, .int .u32 0, .int .u32 0, .int .u32 0, .int .u32 0, .int .u32 0, .int .u32 0, .int .u32 0, .int .u32 0, .int .u32 0, .int .u32 0, .int .u32 0, .int .u32 0, .int .u32 0, .int .u32 0, .int .u32 0, .int .u32 0, .int .u32 0, .int .u32 0, .int .u32 0, .int .u32 0, .int .u32 0] 99) = w1 at *
  generalize ha : w.heap.size = a at *
  go_loopw [27] (fun i wr => ∃ t : Nat, t ≤ 64 ∧ i = .int .i64 (t : Int) ∧ Below a w wr ∧ Blk wr a (wrow blk t) 99) (fun i _ => 64 - (intOf i).toNat)
  case atStart => exact ⟨0, by omega, rfl, W1.out, R1.out⟩
  case round =>
    obtain ⟨t, ht, rfl, hbel, hrow⟩ := hrel
    clear W1 R1
    by_cases hlt : t < 64
    · have it : (t : Int) < 64 := by omega
      have Hbel := Lib.hid hbel
      have Hrow := Lib.hid hrow
      have hza := hrow.cell (wrow_zeroAt (blk := blk) hlt)
      have hfr := hrow.free t
      have hal := hrow.lt
      clear hbel hrow
      by_cases h16 : t < 16
      · have i16 : (t : Int) < 16 := by omega
        have hD := HD.out.grow (by rw [ha]; exact Hbel.out)
        obtain ⟨bb, bo, rfl⟩ := hD.some_of (by omega)
        have c0 := hD.cell1 (r := 4 * t) (by omega)
        have c1 := hD.cell1 (r := 4 * t + 1) (by omega)
        have c2 := hD.cell1 (r := 4 * t + 2) (by omega)
        have c3 := hD.cell1 (r := 4 * t + 3) (by omega)
        rw [← Nat.add_assoc] at c1 c2 c3
        have hmore : Sha.more blk (Sha.sched blk t) = Sha.word blk t := by unfold Sha.more; rw [Sha.sched_length, if_pos h16]
        unfold Sha.word at hmore
        have Hmore := Lib.hid hmore
        clear hD hmore
        obtain ⟨y0, hy0⟩ : ∃ z, blk.getD (4 * t) 0 = z := ⟨_, rfl⟩
        obtain ⟨y1, hy1⟩ : ∃ z, blk.getD (4 * t + 1) 0 = z := ⟨_, rfl⟩
        obtain ⟨y2, hy2⟩ : ∃ z, blk.getD (4 * t + 2) 0 = z := ⟨_, rfl⟩
        obtain ⟨y3, hy3⟩ : ∃ z, blk.getD (4 * t + 3) 0 = z := ⟨_, rfl⟩
        rw [hy0, hy1, hy2, hy3] at Hmore
        rw [hy0] at c0
        rw [hy1] at c1
        rw [hy2] at c2
        rw [hy3] at c3
        clear hy0 hy1 hy2 hy3
        go_wp2_with fail
        go_still_tail 24, (by kernel_rfl)
        rw [w_word y0 y1 y2 y3, ← Hmore.out]
        change wpList _ _ _ _ _ wr.drew
        have hza2 : wr.drew.cell? ⟨a, t, none⟩ = some (.int .u32 0) := hza
        have hfr2 : wr.drew.frozen? ⟨a, t, none⟩ = false := hfr
        have hal2 : a < wr.drew.heap.size := hal
        have NB := Lib.hid (Hbel.out.drew.setCell (p := ⟨a, t, none⟩) (Nat.le_refl _) (.int .u32 ((Sha.more blk (Sha.sched blk t)).toNat : Int)))
        have NR : Hid (Blk (wr.drew.setCell ⟨a, t, none⟩ (.int .u32 ((Sha.more blk (Sha.sched blk t)).toNat : Int))) a (wrow blk (t + 1)) 99) := by
          have h1 := (show Blk wr.drew a (wrow blk t) 99 from Hrow.out).set t (.int .u32 ((Sha.more blk (Sha.sched blk t)).toNat : Int))
          rw [wrow_set hlt rfl] at h1
          exact h1
        clear c0 c1 c2 c3 hza hfr hal Hrow Hbel
        generalize (Sha.more blk (Sha.sched blk t)) = xw at *
        generalize wr.drew = w2 at *
        go_wp2_with fail
        go_roundw
        case rel => exact ⟨t + 1, by omega, by go_num, NB.out, NR.out⟩
        case measure => simp [intOf]; omega
      · have j16 : (16 : Int) ≤ (t : Int) := by omega
        obtain ⟨x2, hx2⟩ : ∃ x, (Sha.sched blk t).getD (t - 2) 0 = x := ⟨_, rfl⟩
        obtain ⟨x7, hx7⟩ : ∃ x, (Sha.sched blk t).getD (t - 7) 0 = x := ⟨_, rfl⟩
        obtain ⟨x15, hx15⟩ : ∃ x, (Sha.sched blk t).getD (t - 15) 0 = x := ⟨_, rfl⟩
        obtain ⟨x16, hx16⟩ : ∃ x, (Sha.sched blk t).getD (t - 16) 0 = x := ⟨_, rfl⟩
        have c2 := Hrow.out.cell (wrow_get (blk := blk) (show t - 2 < t by omega))
        have c7 := Hrow.out.cell (wrow_get (blk := blk) (show t - 7 < t by omega))
        have c15 := Hrow.out.cell (wrow_get (blk := blk) (show t - 15 < t by omega))
        have c16 := Hrow.out.cell (wrow_get (blk := blk) (show t - 16 < t by omega))
        have hmore : Sha.more blk (Sha.sched blk t) = Sha.sig1 x2 + x7 + Sha.sig0 x15 + x16 := by
          unfold Sha.more; rw [Sha.sched_length, if_neg h16, hx2, hx7, hx15, hx16]
        rw [hx2] at c2
        rw [hx7] at c7
        rw [hx15] at c15
        rw [hx16] at c16
        have Hmore := Lib.hid hmore
        have Hx7 := Lib.hid hx7
        have Hx16 := Lib.hid hx16
        clear hx2 hx7 hx15 hx16 hmore
        go_wp2_with fail
        go_region
        have NB0 := Lib.hid Hbel.out.drew
        have NR0 : Hid (Blk wr.drew a (wrow blk t) 99) := Hrow.out
        clear c2 c7 c15 c16 hza hfr hal Hrow Hbel
        generalize wr.drew = w2 at *
        go_wp2_with fail
        refine (rotl_17 _ x2).mono ?_
        rintro e w' ⟨rfl, rfl⟩
        go_wp2_with fail
        refine (rotl_19 _ x2).mono ?_
        rintro e w' ⟨rfl, rfl⟩
        go_wp2_with fail
        refine (rotl_7 _ x15).mono ?_
        rintro e w' ⟨rfl, rfl⟩
        go_wp2_with fail
        refine (rotl_18 _ x15).mono ?_
        rintro e w' ⟨rfl, rfl⟩
        go_wp2_with fail
        rw [w_sig1 x2, w_sig0 x15]
        have c7 := NR0.out.cell (wrow_get (blk := blk) (show t - 7 < t by omega))
        have c16 := NR0.out.cell (wrow_get (blk := blk) (show t - 16 < t by omega))
        rw [Hx7.out] at c7
        rw [Hx16.out] at c16
        have hza2 := NR0.out.cell (wrow_zeroAt (blk := blk) hlt)
        have hfr2 := NR0.out.free t
        have hal2 := NR0.out.lt
        go_region
        rw [w_add4, ← Hmore.out]
        have NB := Lib.hid (NB0.out.setCell (p := ⟨a, t, none⟩) (Nat.le_refl _) (.int .u32 ((Sha.more blk (Sha.sched blk t)).toNat : Int))).drew
        have NR : Hid (Blk (w2.setCell ⟨a, t, none⟩ (.int .u32 ((Sha.more blk (Sha.sched blk t)).toNat : Int))).drew a (wrow blk (t + 1)) 99) := by
          have h1 := (show Blk w2 a (wrow blk t) 99 from NR0.out).set t (.int .u32 ((Sha.more blk (Sha.sched blk t)).toNat : Int))
          rw [wrow_set hlt rfl] at h1
          exact h1
        clear c7 c16 NR0 NB0 hza2 hfr2 hal2
        generalize (Sha.more blk (Sha.sched blk t)) = xw at *
        generalize (w2.setCell ⟨a, t, none⟩ (.int .u32 (xw.toNat : Int))).drew = w3 at *
        go_wp2_with fail
        go_roundw
        case rel => exact ⟨t + 1, by omega, by go_num, NB.out, NR.out⟩
        case measure => simp [intOf]; omega
    · have e64 : t = 64 := by omega
      rw [e64] at hrow
      rw [show (t : Int) = 64 from by omega]
      clear e64 hlt ht
      have hbw : b < a := by rw [← ha]; exact HB.out.lt
      have d0 := (hbel.cell (p := ⟨b, 0, none⟩) hbw).trans (HB.out.cell (i := 0) rfl)
      have d1 := (hbel.cell (p := ⟨b, 1, none⟩) hbw).trans (HB.out.cell (i := 1) rfl)
      have d2 := (hbel.cell (p := ⟨b, 2, none⟩) hbw).trans (HB.out.cell (i := 2) rfl)
      have d3 := (hbel.cell (p := ⟨b, 3, none⟩) hbw).trans (HB.out.cell (i := 3) rfl)
      have d4 := (hbel.cell (p := ⟨b, 4, none⟩) hbw).trans (HB.out.cell (i := 4) rfl)
      have d5 := (hbel.cell (p := ⟨b, 5, none⟩) hbw).trans (HB.out.cell (i := 5) rfl)
      have d6 := (hbel.cell (p := ⟨b, 6, none⟩) hbw).trans (HB.out.cell (i := 6) rfl)
      have d7 := (hbel.cell (p := ⟨b, 7, none⟩) hbw).trans (HB.out.cell (i := 7) rfl)
      unfold U32 at d0 d1 d2 d3 d4 d5 d6 d7
      have Hbel := Lib.hid hbel
      have Hrow := Lib.hid hrow
      clear hbel hrow
      go_wp2_with fail
      have NB0 := Lib.hid (Hbel.out.alloc (by rw [← ha] at *; exact Hbel.out.size) (.cells #[.int .u32 (v.a.toNat : Int), .int .u32 (v.b.toNat : Int), .int .u32 (v.c.toNat : Int), .int .u32 (v.d.toNat : Int), .int .u32 (v.e.toNat : Int), .int .u32 (v.f.toNat : Int), .int .u32 (v.g.toNat : Int), .int .u32 (v.h.toNat : Int)] 94))
      have NR0 : Hid (Blk (wr.alloc (.cells #[.int .u32 (v.a.toNat : Int), .int .u32 (v.b.toNat : Int), .int .u32 (v.c.toNat : Int), .int .u32 (v.d.toNat : Int), .int .u32 (v.e.toNat : Int), .int .u32 (v.f.toNat : Int), .int .u32 (v.g.toNat : Int), .int .u32 (v.h.toNat : Int)] 94)) a (wrow blk 64) 99) := Hrow.out.alloc _
      have NV0 : Hid (Blk (wr.alloc (.cells #[.int .u32 (v.a.toNat : Int), .int .u32 (v.b.toNat : Int), .int .u32 (v.c.toNat : Int), .int .u32 (v.d.toNat : Int), .int .u32 (v.e.toNat : Int), .int .u32 (v.f.toNat : Int), .int .u32 (v.g.toNat : Int), .int .u32 (v.h.toNat : Int)] 94)) wr.heap.size (Ws v.list) 94) := Blk.new wr (Ws v.list) _
      have Hca : Hid (a < wr.heap.size) := Hrow.out.lt
      clear d0 d1 d2 d3 d4 d5 d6 d7 Hbel Hrow
      generalize wr.alloc (.cells #[.int .u32 (v.a.toNat : Int), .int .u32 (v.b.toNat : Int), .int .u32 (v.c.toNat : Int), .int .u32 (v.d.toNat : Int), .int .u32 (v.e.toNat : Int), .int .u32 (v.f.toNat : Int), .int .u32 (v.g.toNat : Int), .int .u32 (v.h.toNat : Int)] 94) = w4 at *
      generalize wr.heap.size = c at *
      have d0 := NV0.out.cell (i := 0) rfl
      have d1 := NV0.out.cell (i := 1) rfl
      have d2 := NV0.out.cell (i := 2) rfl
      have d3 := NV0.out.cell (i := 3) rfl
      have d4 := NV0.out.cell (i := 4) rfl
      have d5 := NV0.out.cell (i := 5) rfl
      have d6 := NV0.out.cell (i := 6) rfl
      have d7 := NV0.out.cell (i := 7) rfl
      unfold U32 at d0 d1 d2 d3 d4 d5 d6 d7
      go_quiet (fail)
      clear d0 d1 d2 d3 d4 d5 d6 d7
      have NB1 : Hid (Below a w (w4.drewN nq)) := ⟨NB0.out.1, NB0.out.2, NB0.out.3, NB0.out.4, NB0.out.5⟩
      have NR1 : Hid (Blk (w4.drewN nq) a (wrow blk 64) 99) := NR0.out
      have NV1 : Hid (Blk (w4.drewN nq) c (Ws v.list) 94) := NV0.out
      clear NB0 NR0 NV0
      generalize w4.drewN nq = w5 at *
      go_wp2_with fail
      go_loopw [123, 12, 13, 14, 15, 16, 17, 18, 19] (fun i p0 p1 p2 p3 p4 p5 p6 p7 wr => ∃ (t : Nat) (u : Sha.V), t ≤ 64 ∧ i = .int .i64 (t : Int) ∧ u = Sha.rounds (Sha.sched blk 64) t v ∧ p0 = .int .u32 (u.a.toNat : Int) ∧ p1 = .int .u32 (u.b.toNat : Int) ∧ p2 = .int .u32 (u.c.toNat : Int) ∧ p3 = .int .u32 (u.d.toNat : Int) ∧ p4 = .int .u32 (u.e.toNat : Int) ∧ p5 = .int .u32 (u.f.toNat : Int) ∧ p6 = .int .u32 (u.g.toNat : Int) ∧ p7 = .int .u32 (u.h.toNat : Int) ∧ Below a w wr ∧ Blk wr a (wrow blk 64) 99 ∧ Blk wr c (Ws v.list) 94) (fun i _ _ _ _ _ _ _ _ _ => 64 - (intOf i).toNat)
      case atStart => exact ⟨0, v, by omega, rfl, rfl, rfl, rfl, rfl, rfl, rfl, rfl, rfl, rfl, NB1.out, NR1.out, NV1.out⟩
      case round =>
        obtain ⟨t, u, ht, rfl, hu, rfl, rfl, rfl, rfl, rfl, rfl, rfl, rfl, hbel, hrow, hv⟩ := hrel
        clear NB1 NR1 NV1
        by_cases hlt : t < 64
        · have it : (t : Int) < 64 := by omega
          obtain ⟨ea, eb, ec, ed, ee, ef, eg, eh⟩ := u
          have Hu := Lib.hid hu
          have cw := hrow.cell (wrow_get (blk := blk) hlt)
          have hg1 := HG.out.below hbel (by have := HG.out.lt; omega)
          have ck := hg1.k t hlt
          obtain ⟨xk, hxk⟩ : ∃ x, Sha.K.getD t 0 = x := ⟨_, rfl⟩
          obtain ⟨xw, hxw⟩ : ∃ x, (Sha.sched blk 64).getD t 0 = x := ⟨_, rfl⟩
          rw [hxk] at ck
          rw [hxw] at cw
          have Hxk := Lib.hid hxk
          have Hxw := Lib.hid hxw
          have Hbel := Lib.hid hbel
          have Hrow := Lib.hid hrow
          have Hv := Lib.hid hv
          clear hbel hrow hv hg1 hu hxk hxw
          dsimp only
          go_wp2_with fail
          refine (rotl_6 _ ee).mono ?_
          rintro e w' ⟨rfl, rfl⟩
          go_wp2_with fail
          refine (rotl_11 _ ee).mono ?_
          rintro e w' ⟨rfl, rfl⟩
          go_wp2_with fail
          refine (rotl_25 _ ee).mono ?_
          rintro e w' ⟨rfl, rfl⟩
          go_wp2_with fail
          refine (rotl_2 _ ea).mono ?_
          rintro e w' ⟨rfl, rfl⟩
          go_wp2_with fail
          refine (rotl_13 _ ea).mono ?_
          rintro e w' ⟨rfl, rfl⟩
          go_wp2_with fail
          refine (rotl_22 _ ea).mono ?_
          rintro e w' ⟨rfl, rfl⟩
          go_wp2_with fail
          rw [w_S1 ee, w_S0 ea]
          obtain ⟨s1, hs1⟩ : ∃ x, Sha.rot ee 6 ^^^ Sha.rot ee 11 ^^^ Sha.rot ee 25 = x := ⟨_, rfl⟩
          obtain ⟨s0, hs0⟩ : ∃ x, Sha.rot ea 2 ^^^ Sha.rot ea 13 ^^^ Sha.rot ea 22 = x := ⟨_, rfl⟩
          rw [hs1, hs0]
          have Hs1 := Lib.hid hs1
          have Hs0 := Lib.hid hs0
          clear hs1 hs0
          go_quiet (fail)
          rw [w_t1]
          obtain ⟨t1, ht1⟩ : ∃ x, eh + s1 + ((ee &&& ef) ^^^ (~~~ee &&& eg)) + xk + xw = x := ⟨_, rfl⟩
          rw [ht1]
          have Ht1 := Lib.hid ht1
          have NB1 : Hid (Below a w (wr.drewN nq)) := ⟨Hbel.out.1, Hbel.out.2, Hbel.out.3, Hbel.out.4, Hbel.out.5⟩
          have NR1 : Hid (Blk (wr.drewN nq) a (wrow blk 64) 99) := Hrow.out
          have NV1 : Hid (Blk (wr.drewN nq) c (Ws v.list) 94) := Hv.out
          clear ht1 cw ck Hbel Hrow Hv
          generalize wr.drewN nq = w6 at *
          iterate 42 go_step
          rw [w_t2]
          obtain ⟨t2, ht2⟩ : ∃ x, s0 + ((ea &&& eb) ^^^ (ea &&& ec) ^^^ (eb &&& ec)) = x := ⟨_, rfl⟩
          rw [ht2]
          have Ht2 := Lib.hid ht2
          clear ht2
          go_wp2_with fail
          go_roundw
          case rel =>
            refine ⟨t + 1, ⟨t1 + t2, ea, eb, ec, ed + t1, ee, ef, eg⟩, by omega, by go_num, ?_, by rw [w_add], rfl, rfl, rfl, by rw [w_add], rfl, rfl, rfl, NB1.out, NR1.out, NV1.out⟩
            show _ = Sha.round (Sha.rounds (Sha.sched blk 64) t v) (Sha.K.getD t 0) ((Sha.sched blk 64).getD t 0)
            rw [← Hu.out, Hxk.out, Hxw.out, ← Ht1.out, ← Ht2.out, ← Hs1.out, ← Hs0.out]
            rfl
          case measure => simp [intOf]; omega
        · have e64 : t = 64 := by omega
          rw [e64] at hu
          rw [show (t : Int) = 64 from by omega]
          clear e64 hlt ht
          obtain ⟨ua, ub, uc, ud, ue, uf, ug, uh⟩ := u
          have Hu := Lib.hid hu
          have hst : Stp (· = b) w wr := Stp.of_below _ (by rw [ha]; exact hbel)
          have hbb : Blk wr b (shaCells v buf len ++ rest) T := HB.out.of_same (hbel.block b (by rw [← ha]; exact HB.out.lt))
          have S1 : Hid (Stp (· = b) w wr ∧ Blk wr b (mixw v ⟨ua, ub, uc, ud, ue, uf, ug, uh⟩ 0 ++ (By buf ++ [.int .i64 (len : Int)] ++ rest)) T ∧ Blk wr c (Ws v.list) 94) := ⟨hst, by simpa [mixw, shaCells] using hbb, hv⟩
          have hcb : Hid (c ≠ b) := by have := Hca.out; have := HB.out.lt; show c ≠ b; omega
          clear hbel hrow hv hst hbb hu
          dsimp only
          go_wp2_with fail
          go_loopw [197] (fun i wy => ∃ t : Nat, t ≤ 8 ∧ i = .int .i64 (t : Int) ∧ Stp (· = b) w wy ∧ Blk wy b (mixw v ⟨ua, ub, uc, ud, ue, uf, ug, uh⟩ t ++ (By buf ++ [.int .i64 (len : Int)] ++ rest)) T ∧ Blk wy c (Ws v.list) 94) (fun i _ => 8 - (intOf i).toNat)
          case atStart => exact ⟨0, by omega, rfl, S1.out⟩
          case round =>
            obtain ⟨t, ht, rfl, hst, hbb, hvv⟩ := hrel
            clear S1
            by_cases hlt : t < 8
            · have hca := hvv.lt
              have hba := hbb.lt
              have Hst := Lib.hid hst
              have Hbb := Lib.hid hbb
              have Hvv := Lib.hid hvv
              clear hst hbb hvv ht
              have h8 : t = 0 ∨ t = 1 ∨ t = 2 ∨ t = 3 ∨ t = 4 ∨ t = 5 ∨ t = 6 ∨ t = 7 := by omega
              clear hlt
              rcases h8 with rfl | rfl | rfl | rfl | rfl | rfl | rfl | rfl
              · have cb : wr.cell? ⟨b, 0, none⟩ = some (.int .u32 (v.a.toNat : Int)) := Hbb.out.cell (i := 0) rfl
                have fb := Hbb.out.free 0
                have hidx : ∀ W : World, (Instr.index 94 (.agg #[.int .u32 (ua.toNat : Int), .int .u32 (ub.toNat : Int), .int .u32 (uc.toNat : Int), .int .u32 (ud.toNat : Int), .int .u32 (ue.toNat : Int), .int .u32 (uf.toNat : Int), .int .u32 (ug.toNat : Int), .int .u32 (uh.toNat : Int)]) (.int .i64 0)).run Tryd.prog W = .ok (.int .u32 (ua.toNat : Int)) W := fun W => rfl
                rw [show ((0 : Nat) : Int) = 0 from rfl]
                have cv : wr.cell? ⟨c, 0, none⟩ = some (.int .u32 (v.a.toNat : Int)) := Hvv.out.cell (i := 0) rfl
                go_wp2_with fail
                go_region
                rw [w_add]
                have N1 := Lib.hid (((Hst.out.set (a := ⟨b, 0, none⟩) (.inl (.inl rfl)) (.int .u32 ((v.a + ua).toNat : Int)))).drew)
                have N2 := Lib.hid (Hbb.out.set 0 (.int .u32 ((v.a + ua).toNat : Int)))
                have N3 := Lib.hid (Hvv.out.set_ne (a := ⟨b, 0, none⟩) hcb.out (.int .u32 ((v.a + ua).toNat : Int)))
                clear cb fb cv Hst Hbb Hvv
                generalize wr.setCell ⟨b, 0, none⟩ (.int .u32 ((v.a + ua).toNat : Int)) = w7 at *
                go_wp2_with fail
                go_roundw
                case rel => exact ⟨1, by omega, by go_num, N1.out, N2.out, N3.out⟩
                case measure => simp [intOf]
              · have cb : wr.cell? ⟨b, 1, none⟩ = some (.int .u32 (v.b.toNat : Int)) := Hbb.out.cell (i := 1) rfl
                have fb := Hbb.out.free 1
                have hidx : ∀ W : World, (Instr.index 94 (.agg #[.int .u32 (ua.toNat : Int), .int .u32 (ub.toNat : Int), .int .u32 (uc.toNat : Int), .int .u32 (ud.toNat : Int), .int .u32 (ue.toNat : Int), .int .u32 (uf.toNat : Int), .int .u32 (ug.toNat : Int), .int .u32 (uh.toNat : Int)]) (.int .i64 1)).run Tryd.prog W = .ok (.int .u32 (ub.toNat : Int)) W := fun W => rfl
                rw [show ((1 : Nat) : Int) = 1 from rfl]
                have cv : wr.cell? ⟨c, 1, none⟩ = some (.int .u32 (v.b.toNat : Int)) := Hvv.out.cell (i := 1) rfl
                go_wp2_with fail
                go_region
                rw [w_add]
                have N1 := Lib.hid (((Hst.out.set (a := ⟨b, 1, none⟩) (.inl (.inl rfl)) (.int .u32 ((v.b + ub).toNat : Int)))).drew)
                have N2 := Lib.hid (Hbb.out.set 1 (.int .u32 ((v.b + ub).toNat : Int)))
                have N3 := Lib.hid (Hvv.out.set_ne (a := ⟨b, 1, none⟩) hcb.out (.int .u32 ((v.b + ub).toNat : Int)))
                clear cb fb cv Hst Hbb Hvv
                generalize wr.setCell ⟨b, 1, none⟩ (.int .u32 ((v.b + ub).toNat : Int)) = w7 at *
                go_wp2_with fail
                go_roundw
                case rel => exact ⟨2, by omega, by go_num, N1.out, N2.out, N3.out⟩
                case measure => simp [intOf]
              · have cb : wr.cell? ⟨b, 2, none⟩ = some (.int .u32 (v.c.toNat : Int)) := Hbb.out.cell (i := 2) rfl
                have fb := Hbb.out.free 2
                have hidx : ∀ W : World, (Instr.index 94 (.agg #[.int .u32 (ua.toNat : Int), .int .u32 (ub.toNat : Int), .int .u32 (uc.toNat : Int), .int .u32 (ud.toNat : Int), .int .u32 (ue.toNat : Int), .int .u32 (uf.toNat : Int), .int .u32 (ug.toNat : Int), .int .u32 (uh.toNat : Int)]) (.int .i64 2)).run Tryd.prog W = .ok (.int .u32 (uc.toNat : Int)) W := fun W => rfl
                rw [show ((2 : Nat) : Int) = 2 from rfl]
                have cv : wr.cell? ⟨c, 2, none⟩ = some (.int .u32 (v.c.toNat : Int)) := Hvv.out.cell (i := 2) rfl
                go_wp2_with fail
                go_region
                rw [w_add]
                have N1 := Lib.hid (((Hst.out.set (a := ⟨b, 2, none⟩) (.inl (.inl rfl)) (.int .u32 ((v.c + uc).toNat : Int)))).drew)
                have N2 := Lib.hid (Hbb.out.set 2 (.int .u32 ((v.c + uc).toNat : Int)))
                have N3 := Lib.hid (Hvv.out.set_ne (a := ⟨b, 2, none⟩) hcb.out (.int .u32 ((v.c + uc).toNat : Int)))
                clear cb fb cv Hst Hbb Hvv
                generalize wr.setCell ⟨b, 2, none⟩ (.int .u32 ((v.c + uc).toNat : Int)) = w7 at *
                go_wp2_with fail
                go_roundw
                case rel => exact ⟨3, by omega, by go_num, N1.out, N2.out, N3.out⟩
                case measure => simp [intOf]
              · have cb : wr.cell? ⟨b, 3, none⟩ = some (.int .u32 (v.d.toNat : Int)) := Hbb.out.cell (i := 3) rfl
                have fb := Hbb.out.free 3
                have hidx : ∀ W : World, (Instr.index 94 (.agg #[.int .u32 (ua.toNat : Int), .int .u32 (ub.toNat : Int), .int .u32 (uc.toNat : Int), .int .u32 (ud.toNat : Int), .int .u32 (ue.toNat : Int), .int .u32 (uf.toNat : Int), .int .u32 (ug.toNat : Int), .int .u32 (uh.toNat : Int)]) (.int .i64 3)).run Tryd.prog W = .ok (.int .u32 (ud.toNat : Int)) W := fun W => rfl
                rw [show ((3 : Nat) : Int) = 3 from rfl]
                have cv : wr.cell? ⟨c, 3, none⟩ = some (.int .u32 (v.d.toNat : Int)) := Hvv.out.cell (i := 3) rfl
                go_wp2_with fail
                go_region
                rw [w_add]
                have N1 := Lib.hid (((Hst.out.set (a := ⟨b, 3, none⟩) (.inl (.inl rfl)) (.int .u32 ((v.d + ud).toNat : Int)))).drew)
                have N2 := Lib.hid (Hbb.out.set 3 (.int .u32 ((v.d + ud).toNat : Int)))
                have N3 := Lib.hid (Hvv.out.set_ne (a := ⟨b, 3, none⟩) hcb.out (.int .u32 ((v.d + ud).toNat : Int)))
                clear cb fb cv Hst Hbb Hvv
                generalize wr.setCell ⟨b, 3, none⟩ (.int .u32 ((v.d + ud).toNat : Int)) = w7 at *
                go_wp2_with fail
                go_roundw
                case rel => exact ⟨4, by omega, by go_num, N1.out, N2.out, N3.out⟩
                case measure => simp [intOf]
              · have cb : wr.cell? ⟨b, 4, none⟩ = some (.int .u32 (v.e.toNat : Int)) := Hbb.out.cell (i := 4) rfl
                have fb := Hbb.out.free 4
                have hidx : ∀ W : World, (Instr.index 94 (.agg #[.int .u32 (ua.toNat : Int), .int .u32 (ub.toNat : Int), .int .u32 (uc.toNat : Int), .int .u32 (ud.toNat : Int), .int .u32 (ue.toNat : Int), .int .u32 (uf.toNat : Int), .int .u32 (ug.toNat : Int), .int .u32 (uh.toNat : Int)]) (.int .i64 4)).run Tryd.prog W = .ok (.int .u32 (ue.toNat : Int)) W := fun W => rfl
                rw [show ((4 : Nat) : Int) = 4 from rfl]
                have cv : wr.cell? ⟨c, 4, none⟩ = some (.int .u32 (v.e.toNat : Int)) := Hvv.out.cell (i := 4) rfl
                go_wp2_with fail
                go_region
                rw [w_add]
                have N1 := Lib.hid (((Hst.out.set (a := ⟨b, 4, none⟩) (.inl (.inl rfl)) (.int .u32 ((v.e + ue).toNat : Int)))).drew)
                have N2 := Lib.hid (Hbb.out.set 4 (.int .u32 ((v.e + ue).toNat : Int)))
                have N3 := Lib.hid (Hvv.out.set_ne (a := ⟨b, 4, none⟩) hcb.out (.int .u32 ((v.e + ue).toNat : Int)))
                clear cb fb cv Hst Hbb Hvv
                generalize wr.setCell ⟨b, 4, none⟩ (.int .u32 ((v.e + ue).toNat : Int)) = w7 at *
                go_wp2_with fail
                go_roundw
                case rel => exact ⟨5, by omega, by go_num, N1.out, N2.out, N3.out⟩
                case measure => simp [intOf]
              · have cb : wr.cell? ⟨b, 5, none⟩ = some (.int .u32 (v.f.toNat : Int)) := Hbb.out.cell (i := 5) rfl
                have fb := Hbb.out.free 5
                have hidx : ∀ W : World, (Instr.index 94 (.agg #[.int .u32 (ua.toNat : Int), .int .u32 (ub.toNat : Int), .int .u32 (uc.toNat : Int), .int .u32 (ud.toNat : Int), .int .u32 (ue.toNat : Int), .int .u32 (uf.toNat : Int), .int .u32 (ug.toNat : Int), .int .u32 (uh.toNat : Int)]) (.int .i64 5)).run Tryd.prog W = .ok (.int .u32 (uf.toNat : Int)) W := fun W => rfl
                rw [show ((5 : Nat) : Int) = 5 from rfl]
                have cv : wr.cell? ⟨c, 5, none⟩ = some (.int .u32 (v.f.toNat : Int)) := Hvv.out.cell (i := 5) rfl
                go_wp2_with fail
                go_region
                rw [w_add]
                have N1 := Lib.hid (((Hst.out.set (a := ⟨b, 5, none⟩) (.inl (.inl rfl)) (.int .u32 ((v.f + uf).toNat : Int)))).drew)
                have N2 := Lib.hid (Hbb.out.set 5 (.int .u32 ((v.f + uf).toNat : Int)))
                have N3 := Lib.hid (Hvv.out.set_ne (a := ⟨b, 5, none⟩) hcb.out (.int .u32 ((v.f + uf).toNat : Int)))
                clear cb fb cv Hst Hbb Hvv
                generalize wr.setCell ⟨b, 5, none⟩ (.int .u32 ((v.f + uf).toNat : Int)) = w7 at *
                go_wp2_with fail
                go_roundw
                case rel => exact ⟨6, by omega, by go_num, N1.out, N2.out, N3.out⟩
                case measure => simp [intOf]
              · have cb : wr.cell? ⟨b, 6, none⟩ = some (.int .u32 (v.g.toNat : Int)) := Hbb.out.cell (i := 6) rfl
                have fb := Hbb.out.free 6
                have hidx : ∀ W : World, (Instr.index 94 (.agg #[.int .u32 (ua.toNat : Int), .int .u32 (ub.toNat : Int), .int .u32 (uc.toNat : Int), .int .u32 (ud.toNat : Int), .int .u32 (ue.toNat : Int), .int .u32 (uf.toNat : Int), .int .u32 (ug.toNat : Int), .int .u32 (uh.toNat : Int)]) (.int .i64 6)).run Tryd.prog W = .ok (.int .u32 (ug.toNat : Int)) W := fun W => rfl
                rw [show ((6 : Nat) : Int) = 6 from rfl]
                have cv : wr.cell? ⟨c, 6, none⟩ = some (.int .u32 (v.g.toNat : Int)) := Hvv.out.cell (i := 6) rfl
                go_wp2_with fail
                go_region
                rw [w_add]
                have N1 := Lib.hid (((Hst.out.set (a := ⟨b, 6, none⟩) (.inl (.inl rfl)) (.int .u32 ((v.g + ug).toNat : Int)))).drew)
                have N2 := Lib.hid (Hbb.out.set 6 (.int .u32 ((v.g + ug).toNat : Int)))
                have N3 := Lib.hid (Hvv.out.set_ne (a := ⟨b, 6, none⟩) hcb.out (.int .u32 ((v.g + ug).toNat : Int)))
                clear cb fb cv Hst Hbb Hvv
                generalize wr.setCell ⟨b, 6, none⟩ (.int .u32 ((v.g + ug).toNat : Int)) = w7 at *
                go_wp2_with fail
                go_roundw
                case rel => exact ⟨7, by omega, by go_num, N1.out, N2.out, N3.out⟩
                case measure => simp [intOf]
              · have cb : wr.cell? ⟨b, 7, none⟩ = some (.int .u32 (v.h.toNat : Int)) := Hbb.out.cell (i := 7) rfl
                have fb := Hbb.out.free 7
                have hidx : ∀ W : World, (Instr.index 94 (.agg #[.int .u32 (ua.toNat : Int), .int .u32 (ub.toNat : Int), .int .u32 (uc.toNat : Int), .int .u32 (ud.toNat : Int), .int .u32 (ue.toNat : Int), .int .u32 (uf.toNat : Int), .int .u32 (ug.toNat : Int), .int .u32 (uh.toNat : Int)]) (.int .i64 7)).run Tryd.prog W = .ok (.int .u32 (uh.toNat : Int)) W := fun W => rfl
                rw [show ((7 : Nat) : Int) = 7 from rfl]
                have cv : wr.cell? ⟨c, 7, none⟩ = some (.int .u32 (v.h.toNat : Int)) := Hvv.out.cell (i := 7) rfl
                go_wp2_with fail
                go_region
                rw [w_add]
                have N1 := Lib.hid (((Hst.out.set (a := ⟨b, 7, none⟩) (.inl (.inl rfl)) (.int .u32 ((v.h + uh).toNat : Int)))).drew)
                have N2 := Lib.hid (Hbb.out.set 7 (.int .u32 ((v.h + uh).toNat : Int)))
                have N3 := Lib.hid (Hvv.out.set_ne (a := ⟨b, 7, none⟩) hcb.out (.int .u32 ((v.h + uh).toNat : Int)))
                clear cb fb cv Hst Hbb Hvv
                generalize wr.setCell ⟨b, 7, none⟩ (.int .u32 ((v.h + uh).toNat : Int)) = w7 at *
                go_wp2_with fail
                go_roundw
                case rel => exact ⟨8, by omega, by go_num, N1.out, N2.out, N3.out⟩
                case measure => simp [intOf]
            · have e8 : t = 8 := by omega
              rw [e8] at hbb
              rw [show (t : Int) = 8 from by omega]
              clear e8 hlt ht
              go_wp2_with fail
              go_end0
              refine ⟨rfl, hst, ?_⟩
              have e9 : Sha.block v blk = v.add ⟨ua, ub, uc, ud, ue, uf, ug, uh⟩ := by unfold Sha.block; rw [← Hu.out]
              rw [e9]
              rw [show mixw v ⟨ua, ub, uc, ud, ue, uf, ug, uh⟩ 8 = Ws (v.add ⟨ua, ub, uc, ud, ue, uf, ug, uh⟩).list from rfl] at hbb
              simpa [shaCells] using hbb
end
end Go.Proofs.YtcpcnfedbffecaaDoor
