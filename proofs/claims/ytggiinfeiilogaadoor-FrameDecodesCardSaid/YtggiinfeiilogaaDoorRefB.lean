/- Contract of the reference's Block. -/
import Derived.Test.YtggiinfeiilogaaDoorRefC
import Derived.Deep.MidRow
import Derived.StillTailTactics
namespace Go.Proofs.YtggiinfeiilogaaDoor
open Go.RowKit
def zw8 : Array Value := (List.replicate 8 (Value.int .u32 0)).toArray
theorem zw8_len : zw8.toList.length = 8 := by kernel_rfl
theorem Tryd.zeroW8 (w : World) : (zeroValue 92).run Tryd.prog w = .ok (.agg zw8) w := by kernel_rfl
theorem Tryd.sizeW8 : (Tryd.prog.info? 92).map (·.size) = some 8 := by kernel_rfl
/-- The four blocks of Block: h, the result's variable, k, w. -/
structure BlkR (w : World) (v : Sha.V) (kb wb : Nat) (ws : List Value) (wr : World) : Prop where
  below : Below w.heap.size w wr
  bh : Blk wr w.heap.size (Ws v.list) 92
  br : Blk wr (w.heap.size + 1) zw8.toList 92
  bk : Blk wr kb (Ws Sha.K) 105
  bw : Blk wr wb ws 105
  o1 : w.heap.size + 1 < kb
  o2 : kb < wb
section
variable {w wr : World} {v : Sha.V} {ws : List Value} {kb wb : Nat}
theorem BlkR.drew (h : BlkR w v kb wb ws wr) : BlkR w v kb wb ws wr.drew := ⟨h.below.drew, h.bh, h.br, h.bk, h.bw, h.o1, h.o2⟩
theorem BlkR.drewN (h : BlkR w v kb wb ws wr) (n : Nat) : BlkR w v kb wb ws (wr.drewN n) := ⟨below_drewN2 h.below n, h.bh, h.br, h.bk, h.bw, h.o1, h.o2⟩
theorem BlkR.setW (h : BlkR w v kb wb ws wr) (t : Nat) (x : Value) : BlkR w v kb wb (ws.set t x) (wr.setCell ⟨wb, t, none⟩ x) := by
  have h1 := h.o1
  have h2 := h.o2
  exact ⟨h.below.setCell (p := ⟨wb, t, none⟩) (by show w.heap.size ≤ wb; omega) x, h.bh.set_ne (a := ⟨wb, t, none⟩) (by show w.heap.size ≠ wb; omega) x, h.br.set_ne (a := ⟨wb, t, none⟩) (by show w.heap.size + 1 ≠ wb; omega) x, h.bk.set_ne (a := ⟨wb, t, none⟩) (by show kb ≠ wb; omega) x, h.bw.set t x, h1, h2⟩
theorem BlkR.other (h : BlkR w v kb wb ws wr) {vn : Nat} (hb : wb < vn) (o : Nat) (vs : List Value) : BlkR w v kb wb ws (wr.setCells vn o vs) := by
  have h1 := h.o1
  have h2 := h.o2
  have hs := (heap_setCells (b := vn) vs o wr).1
  have h0 := h.below.size
  exact ⟨below_setCells h.below (by omega) _ _, h.bh.of_same (hs _ (by omega)), h.br.of_same (hs _ (by omega)), h.bk.of_same (hs _ (by omega)), h.bw.of_same (hs _ (by omega)), h1, h2⟩
theorem blkR_start (w : World) (v : Sha.V) {wk : World} (hbk : Below ((w.alloc (.cells (Ws v.list).toArray 92)).alloc (.cells zw8 92)).heap.size ((w.alloc (.cells (Ws v.list).toArray 92)).alloc (.cells zw8 92)) wk) :
    Below w.heap.size w ((wk.alloc (.cells zw64 105)).setCells wk.heap.size 0 (Ws Sha.K)) ∧ Blk ((wk.alloc (.cells zw64 105)).setCells wk.heap.size 0 (Ws Sha.K)) w.heap.size (Ws v.list) 92 ∧
    Blk ((wk.alloc (.cells zw64 105)).setCells wk.heap.size 0 (Ws Sha.K)) (w.heap.size + 1) zw8.toList 92 ∧ Blk ((wk.alloc (.cells zw64 105)).setCells wk.heap.size 0 (Ws Sha.K)) wk.heap.size (Ws Sha.K) 105 ∧
    w.heap.size + 2 ≤ wk.heap.size ∧ ((wk.alloc (.cells zw64 105)).setCells wk.heap.size 0 (Ws Sha.K)).heap.size = wk.heap.size + 1 := by
  have hs : ((w.alloc (.cells (Ws v.list).toArray 92)).alloc (.cells zw8 92)).heap.size = w.heap.size + 2 := by simp
  have hs2 := hbk.size
  rw [hs] at hs2
  have b1 : Below w.heap.size w wk := (((Below.refl w.heap.size w).alloc (Nat.le_refl _) _).alloc (by simp) _).trans (hbk.mono (by rw [hs]; omega))
  have h1 : Blk wk w.heap.size (Ws v.list) 92 := ((Blk.new w (Ws v.list) 92).alloc (.cells zw8 92)).of_same (hbk.block _ (by rw [hs]; omega))
  have h2 : Blk wk (w.heap.size + 1) zw8.toList 92 := (Blk.newAt (w.alloc (.cells (Ws v.list).toArray 92)) zw8.toList 92 (by simp)).of_same (hbk.block _ (by rw [hs]; omega))
  have hst : ∀ x, x < wk.heap.size → ((wk.alloc (.cells zw64 105)).setCells wk.heap.size 0 (Ws Sha.K)).heap[x]? = wk.heap[x]? := fun x hx => ((heap_setCells _ _ _).1 x (by omega)).trans (Below.heap_alloc _ _ _ hx)
  refine ⟨b1.trans (below_setCells ((Below.refl _ _).alloc (Nat.le_refl _) _) (Nat.le_refl _) _ _ |>.mono (by omega)), h1.of_same (hst _ (by omega)), h2.of_same (hst _ (by omega)), ?_, by omega, ?_⟩
  · exact (show Blk (wk.alloc (.cells zw64 105)) wk.heap.size zw64.toList 105 from Blk.new wk zw64.toList _).fresh (by rw [K_len, zw64_len])
  · rw [(heap_setCells _ _ _).2.1]; simp
theorem blkR_two {w w2 : World} {v : Sha.V} {kb : Nat} (hb : Below w.heap.size w w2) (h1 : Blk w2 w.heap.size (Ws v.list) 92) (h2 : Blk w2 (w.heap.size + 1) zw8.toList 92) (h3 : Blk w2 kb (Ws Sha.K) 105) (h4 : w.heap.size + 2 ≤ kb) (h5 : w2.heap.size = kb + 1) :
    BlkR w v kb w2.heap.size zw64.toList ((w2.alloc (.cells zw64 105)).setCells w2.heap.size 0 zw64.toList) := by
  have hst : ∀ x, x < w2.heap.size → ((w2.alloc (.cells zw64 105)).setCells w2.heap.size 0 zw64.toList).heap[x]? = w2.heap[x]? := fun x hx => ((heap_setCells _ _ _).1 x (by omega)).trans (Below.heap_alloc _ _ _ hx)
  refine ⟨hb.trans (below_setCells ((Below.refl _ _).alloc (Nat.le_refl _) _) (Nat.le_refl _) _ _ |>.mono (by omega)), h1.of_same (hst _ (by omega)), h2.of_same (hst _ (by omega)), h3.of_same (hst _ (by omega)), ?_, by omega, by omega⟩
  exact (show Blk (w2.alloc (.cells zw64 105)) w2.heap.size zw64.toList 105 from Blk.new w2 zw64.toList _).fresh rfl
end
/-- The words in the course of the last loop. -/
def mix (u v : Sha.V) (j : Nat) : List UInt32 := (v.add u).list.take j ++ u.list.drop j
theorem mix_get (u v : Sha.V) {j : Nat} (hj : j < 8) : (Ws (mix u v j))[j]? = some (.int .u32 ((u.list.getD j 0).toNat : Int)) := by
  rcases (by omega : j = 0 ∨ j = 1 ∨ j = 2 ∨ j = 3 ∨ j = 4 ∨ j = 5 ∨ j = 6 ∨ j = 7) with e | e | e | e | e | e | e | e <;> (subst e; rfl)
theorem mix_set (u v : Sha.V) {j : Nat} (hj : j < 8) : (Ws (mix u v j)).set j (.int .u32 ((u.list.getD j 0 + v.list.getD j 0).toNat : Int)) = Ws (mix u v (j + 1)) := by
  rw [UInt32.add_comm]
  rcases (by omega : j = 0 ∨ j = 1 ∨ j = 2 ∨ j = 3 ∨ j = 4 ∨ j = 5 ∨ j = 6 ∨ j = 7) with e | e | e | e | e | e | e | e <;> (subst e; rfl)
section
variable {w : World} {blk : List UInt8} {F : Nat → Prop} {dv : Value}
set_option maxRecDepth 100000 in
set_option maxHeartbeats 4000000 in
theorem refblock_any (v : Sha.V) (hd : BV w F dv blk) (hl : blk.length = 64) :
    Calls Tryd.prog 61 #[.agg (Ws v.list).toArray, dv] w fun e w' => e = .returned (.agg (Ws (Sha.block v blk).list).toArray) ∧ Below w.heap.size w w' := by
  obtain ⟨da, dc, rfl, dc1, dc2, _⟩ := hd.get
  unfold maxLen at dc2
  obtain ⟨va, vb, vc, vd, ve, vf, vg, vh⟩ := v
  have HD := Lib.hid hd; clear hd
  rw [hl] at dc1 HD ⊢
  have hz := Tryd.zeroW64
  have hz8 := Tryd.zeroW8
  show Calls Tryd.prog 61 #[.agg #[.int .u32 (va.toNat : Int), .int .u32 (vb.toNat : Int), .int .u32 (vc.toNat : Int), .int .u32 (vd.toNat : Int), .int .u32 (ve.toNat : Int), .int .u32 (vf.toNat : Int), .int .u32 (vg.toNat : Int), .int .u32 (vh.toNat : Int)], .slice da 64 dc] w _
  go_enter Tryd.func61, Tryd.ntmps61
  go_wp2_with fail
  refine (constants_any _).mono ?_
  rintro e wk ⟨rfl, hbk⟩
  have S0 := Lib.hid (blkR_start w ⟨va, vb, vc, vd, ve, vf, vg, vh⟩ hbk)
  have Z1 : Hid (Blk (wk.alloc (.cells zw64 105)) wk.heap.size zw64.toList 105) := Blk.new wk zw64.toList _
  clear hbk
  go_wp2_with (first
    | (refine wpList_store_mid rfl 105 (.tmp 5) (.tmp 22) rfl wk.heap.size 0 (Ws Sha.K).toArray (by rfl) (by rfl) (Z1.out.there (by simp only [List.size_toArray, K_len, zw64_len]; omega)) (by simp only [List.size_toArray, K_len]; exact Tryd.sizeW64) (all_oneCell_toArray (Ws_one _)) ?_; change wpList _ _ _ _ _ ((wk.alloc (.cells zw64 105)).setCells wk.heap.size 0 (Ws Sha.K)); generalize (wk.alloc (.cells zw64 105)).setCells wk.heap.size 0 (Ws Sha.K) = w2 at *; generalize wk.heap.size = kb at *)
    | (refine wpList_build_at rfl 105 #[] rfl (.agg zw64) (by kernel_rfl) ?_)
    | (refine wpList_store_mid rfl 105 (.tmp 6) (.tmp 23) rfl _ 0 zw64 (by rfl) (by rfl) ((show Blk (World.alloc _ (.cells zw64 105)) _ zw64.toList 105 from Blk.new _ zw64.toList _).there (by rw [Array.length_toList]; exact Nat.le_refl _)) (by rw [← Array.length_toList, zw64_len]; exact Tryd.sizeW64) (by decide +kernel) ?_))
  obtain ⟨q1, q2, q3, q4, q5, q6⟩ := S0.out
  have R0 : Hid (BlkR w ⟨va, vb, vc, vd, ve, vf, vg, vh⟩ kb w2.heap.size (wrow blk 0) ((w2.alloc (.cells zw64 105)).setCells w2.heap.size 0 zw64.toList)) := blkR_two q1 q2 q3 q4 q5 q6
  clear q1 q2 q3 q4 q5 q6 S0 Z1 hz hz8
  generalize (w2.alloc (.cells zw64 105)).setCells w2.heap.size 0 zw64.toList = w3 at *
  generalize w2.heap.size = wb at *
  go_loopw [7] (fun i wr => ∃ t : Nat, t ≤ 16 ∧ i = .int .i64 (t : Int) ∧ BlkR w ⟨va, vb, vc, vd, ve, vf, vg, vh⟩ kb wb (wrow blk t) wr) (fun i _ => 16 - (intOf i).toNat)
  case atStart => exact ⟨0, by omega, rfl, R0.out⟩
  case round =>
    obtain ⟨t, ht, rfl, hR⟩ := hrel
    clear R0
    by_cases hlt : t < 16
    · have it : (t : Int) < 16 := by omega
      have it64 : (t : Int) < 64 := by omega
      have hza := hR.bw.cell (wrow_zeroAt (blk := blk) (show t < 64 by omega))
      have hfr := hR.bw.free t
      have hal := hR.bw.lt
      have hD := HD.out.grow hR.below
      have HR := Lib.hid hR
      clear hR
      obtain ⟨bb, bo, rfl⟩ := hD.some_of (by omega)
      have c0 := hD.cell1 (r := 4 * t) (by omega)
      have c1 := hD.cell1 (r := 4 * t + 1) (by omega)
      have c2 := hD.cell1 (r := 4 * t + 2) (by omega)
      have c3 := hD.cell1 (r := 4 * t + 3) (by omega)
      have hmore : Sha.more blk (Sha.sched blk t) = Sha.word blk t := by unfold Sha.more; rw [Sha.sched_length, if_pos hlt]
      unfold Sha.word at hmore
      have Hmore := Lib.hid hmore
      clear hD hmore
      obtain ⟨y0, hy0⟩ : ∃ z, blk.getD (4 * t) 0 = z := ⟨_, rfl⟩
      obtain ⟨y1, hy1⟩ : ∃ z, blk.getD (4 * t + 1) 0 = z := ⟨_, rfl⟩
      obtain ⟨y2, hy2⟩ : ∃ z, blk.getD (4 * t + 2) 0 = z := ⟨_, rfl⟩
      obtain ⟨y3, hy3⟩ : ∃ z, blk.getD (4 * t + 3) 0 = z := ⟨_, rfl⟩
      rw [hy0, hy1, hy2, hy3] at Hmore
      rw [hy0] at c0
      rw [hy1] at c1
      rw [hy2] at c2
      rw [hy3] at c3
      clear hy0 hy1 hy2 hy3
      have wr64 : ∀ n : Nat, n < 1000 → IntKind.i64.wrap (n : Int) = (n : Int) := fun n hn => by simp [IntKind.wrap, IntKind.bits, IntKind.signed]; omega
      obtain ⟨i0, hi0⟩ : ∃ i, 4 * t = i := ⟨_, rfl⟩
      obtain ⟨i1, hi1⟩ : ∃ i, 4 * t + 1 = i := ⟨_, rfl⟩
      obtain ⟨i2, hi2⟩ : ∃ i, 4 * t + 2 = i := ⟨_, rfl⟩
      obtain ⟨i3, hi3⟩ : ∃ i, 4 * t + 3 = i := ⟨_, rfl⟩
      rw [hi0] at c0
      rw [hi1] at c1
      rw [hi2] at c2
      rw [hi3] at c3
      have e0 : IntKind.i64.wrap (4 * (t : Int)) = (i0 : Int) := by rw [← hi0, ← wr64 (4 * t) (by omega)]; rfl
      have e1 : IntKind.i64.wrap ((i0 : Int) + 1) = (i1 : Int) := by rw [← hi1, ← hi0, ← wr64 (4 * t + 1) (by omega)]; rfl
      have e2 : IntKind.i64.wrap ((i0 : Int) + 2) = (i2 : Int) := by rw [← hi2, ← hi0, ← wr64 (4 * t + 2) (by omega)]; rfl
      have e3 : IntKind.i64.wrap ((i0 : Int) + 3) = (i3 : Int) := by rw [← hi3, ← hi0, ← wr64 (4 * t + 3) (by omega)]; rfl
      have b0 : (i0 : Int) < 64 := by omega
      have b1 : (i1 : Int) < 64 := by omega
      have b2 : (i2 : Int) < 64 := by omega
      have b3 : (i3 : Int) < 64 := by omega
      clear hi0 hi1 hi2 hi3 wr64
      go_wp2_with fail
      go_still_tail 35, (by kernel_rfl)
      rw [w_word y0 y1 y2 y3, ← Hmore.out]
      change wpList _ _ _ _ _ wr.drew
      have hza2 : wr.drew.cell? ⟨wb, t, none⟩ = some (.int .u32 0) := hza
      have hfr2 : wr.drew.frozen? ⟨wb, t, none⟩ = false := hfr
      have hal2 : wb < wr.drew.heap.size := hal
      have NR := HR.out.drew.setW t (.int .u32 ((Sha.more blk (Sha.sched blk t)).toNat : Int))
      rw [wrow_set (show t < 64 by omega) rfl] at NR
      have HNR := Lib.hid NR
      clear c0 c1 c2 c3 hza hfr hal HR NR
      generalize (Sha.more blk (Sha.sched blk t)) = xw at *
      generalize wr.drew = w4 at *
      go_wp2_with fail
      go_roundw
      case rel => exact ⟨t + 1, by omega, by go_num, HNR.out⟩
      case measure => simp [intOf]; omega
    · have e16 : t = 16 := by omega
      rw [e16] at hR
      rw [show (t : Int) = 16 from by omega]
      have HR := Lib.hid hR
      clear e16 hlt ht hR
      go_wp2_with fail
      go_loopw [8] (fun i wy => ∃ t : Nat, 16 ≤ t ∧ t ≤ 64 ∧ i = .int .i64 (t : Int) ∧ BlkR w ⟨va, vb, vc, vd, ve, vf, vg, vh⟩ kb wb (wrow blk t) wy) (fun i _ => 64 - (intOf i).toNat)
      case atStart => exact ⟨16, by omega, by omega, rfl, HR.out⟩
      case round =>
        obtain ⟨t, ht1, ht2, rfl, hR⟩ := hrel
        clear HR
        by_cases hlt : t < 64
        · have it : (t : Int) < 64 := by omega
          have jt : (16 : Int) ≤ (t : Int) := by omega
          obtain ⟨x2, hx2⟩ : ∃ x, (Sha.sched blk t).getD (t - 2) 0 = x := ⟨_, rfl⟩
          obtain ⟨x7, hx7⟩ : ∃ x, (Sha.sched blk t).getD (t - 7) 0 = x := ⟨_, rfl⟩
          obtain ⟨x15, hx15⟩ : ∃ x, (Sha.sched blk t).getD (t - 15) 0 = x := ⟨_, rfl⟩
          obtain ⟨x16, hx16⟩ : ∃ x, (Sha.sched blk t).getD (t - 16) 0 = x := ⟨_, rfl⟩
          have hmore : Sha.more blk (Sha.sched blk t) = Sha.sig1 x2 + x7 + Sha.sig0 x15 + x16 := by
            unfold Sha.more; rw [Sha.sched_length, if_neg (by omega), hx2, hx7, hx15, hx16]
          have c15 := hR.bw.cell (wrow_get (blk := blk) (show t - 15 < t by omega))
          have c2 := hR.bw.cell (wrow_get (blk := blk) (show t - 2 < t by omega))
          rw [hx15] at c15
          rw [hx2] at c2
          have HR := Lib.hid hR
          have Hx7 := Lib.hid hx7
          have Hx16 := Lib.hid hx16
          have Hx2 := Lib.hid hx2
          have Hmore := Lib.hid hmore
          clear hR hx2 hx7 hx15 hx16 hmore
          go_wp2_with fail
          go_quiet (first | (go_at_call 66; with_reducible refine rotr_7 wr x15 _) | (go_at_call 66; with_reducible refine rotr_18 wr x15 _))
          rw [w_sig0 x15]
          have HR2 := Lib.hid (HR.out.drewN nq)
          clear HR c15 c2
          generalize wr.drewN nq = w5 at *
          have c2 := HR2.out.bw.cell (wrow_get (blk := blk) (show t - 2 < t by omega))
          rw [Hx2.out] at c2
          go_wp2_with fail
          go_quiet (first | (go_at_call 66; with_reducible refine rotr_17 w5 x2 _) | (go_at_call 66; with_reducible refine rotr_19 w5 x2 _))
          rw [w_sig1 x2]
          have HR3 := Lib.hid (HR2.out.drewN nq)
          clear HR2 c2
          generalize w5.drewN nq = w6 at *
          have c7 := HR3.out.bw.cell (wrow_get (blk := blk) (show t - 7 < t by omega))
          have c16 := HR3.out.bw.cell (wrow_get (blk := blk) (show t - 16 < t by omega))
          rw [Hx7.out] at c7
          rw [Hx16.out] at c16
          have hza := HR3.out.bw.cell (wrow_zeroAt (blk := blk) hlt)
          have hfr := HR3.out.bw.free t
          have hal := HR3.out.bw.lt
          go_wp2_with fail
          go_region
          rw [w_add4, ← Hmore.out]
          have NR := (HR3.out.setW t (.int .u32 ((Sha.more blk (Sha.sched blk t)).toNat : Int))).drew
          rw [wrow_set hlt rfl] at NR
          have HNR := Lib.hid NR
          clear c7 c16 hza hfr hal HR3 NR
          generalize (Sha.more blk (Sha.sched blk t)) = xw at *
          generalize (w6.setCell ⟨wb, t, none⟩ (.int .u32 (xw.toNat : Int))).drew = w7 at *
          go_wp2_with fail
          go_roundw
          case rel => exact ⟨t + 1, by omega, by omega, by go_num, HNR.out⟩
          case measure => simp [intOf]; omega
        · have e64 : t = 64 := by omega
          rw [e64] at hR
          rw [show (t : Int) = 64 from by omega]
          clear e64 hlt ht1 ht2
          have d0 : wr.cell? ⟨w.heap.size, 0, none⟩ = some (.int .u32 (va.toNat : Int)) := hR.bh.cell (i := 0) rfl
          have d1 : wr.cell? ⟨w.heap.size, 1, none⟩ = some (.int .u32 (vb.toNat : Int)) := hR.bh.cell (i := 1) rfl
          have d2 : wr.cell? ⟨w.heap.size, 2, none⟩ = some (.int .u32 (vc.toNat : Int)) := hR.bh.cell (i := 2) rfl
          have d3 : wr.cell? ⟨w.heap.size, 3, none⟩ = some (.int .u32 (vd.toNat : Int)) := hR.bh.cell (i := 3) rfl
          have d4 : wr.cell? ⟨w.heap.size, 4, none⟩ = some (.int .u32 (ve.toNat : Int)) := hR.bh.cell (i := 4) rfl
          have d5 : wr.cell? ⟨w.heap.size, 5, none⟩ = some (.int .u32 (vf.toNat : Int)) := hR.bh.cell (i := 5) rfl
          have d6 : wr.cell? ⟨w.heap.size, 6, none⟩ = some (.int .u32 (vg.toNat : Int)) := hR.bh.cell (i := 6) rfl
          have d7 : wr.cell? ⟨w.heap.size, 7, none⟩ = some (.int .u32 (vh.toNat : Int)) := hR.bh.cell (i := 7) rfl
          have hwl := hR.bw.lt
          have HR := Lib.hid hR
          clear hR
          go_wp2_with fail
          have V0 : Hid (Blk (wr.alloc (.cells #[.int .u32 (va.toNat : Int), .int .u32 (vb.toNat : Int), .int .u32 (vc.toNat : Int), .int .u32 (vd.toNat : Int), .int .u32 (ve.toNat : Int), .int .u32 (vf.toNat : Int), .int .u32 (vg.toNat : Int), .int .u32 (vh.toNat : Int)] 92)) wr.heap.size (Ws (⟨va, vb, vc, vd, ve, vf, vg, vh⟩ : Sha.V).list) 92) := Blk.new wr (Ws (⟨va, vb, vc, vd, ve, vf, vg, vh⟩ : Sha.V).list) _
          have R1 : Hid (BlkR w ⟨va, vb, vc, vd, ve, vf, vg, vh⟩ kb wb (wrow blk 64) (wr.alloc (.cells #[.int .u32 (va.toNat : Int), .int .u32 (vb.toNat : Int), .int .u32 (vc.toNat : Int), .int .u32 (vd.toNat : Int), .int .u32 (ve.toNat : Int), .int .u32 (vf.toNat : Int), .int .u32 (vg.toNat : Int), .int .u32 (vh.toNat : Int)] 92))) :=
            ⟨HR.out.below.alloc HR.out.below.size _, HR.out.bh.alloc _, HR.out.br.alloc _, HR.out.bk.alloc _, HR.out.bw.alloc _, HR.out.o1, HR.out.o2⟩
          have Hwv : Hid (wb < wr.heap.size) := hwl
          clear d0 d1 d2 d3 d4 d5 d6 d7 HR hwl
          generalize wr.alloc (.cells #[.int .u32 (va.toNat : Int), .int .u32 (vb.toNat : Int), .int .u32 (vc.toNat : Int), .int .u32 (vd.toNat : Int), .int .u32 (ve.toNat : Int), .int .u32 (vf.toNat : Int), .int .u32 (vg.toNat : Int), .int .u32 (vh.toNat : Int)] 92) = w8 at *
          generalize wr.heap.size = vn at *
          go_loopw [12] (fun i wy => ∃ (t : Nat) (u : Sha.V), t ≤ 64 ∧ i = .int .i64 (t : Int) ∧ u = Sha.rounds (Sha.sched blk 64) t ⟨va, vb, vc, vd, ve, vf, vg, vh⟩ ∧ BlkR w ⟨va, vb, vc, vd, ve, vf, vg, vh⟩ kb wb (wrow blk 64) wy ∧ Blk wy vn (Ws u.list) 92) (fun i _ => 64 - (intOf i).toNat)
          case atStart => exact ⟨0, _, by omega, rfl, rfl, R1.out, V0.out⟩
          case round =>
            obtain ⟨t, u, ht, rfl, hu, hR, hV⟩ := hrel
            clear R1 V0
            by_cases hlt : t < 64
            · have it : (t : Int) < 64 := by omega
              obtain ⟨ea, eb, ec, ed, ee, ef, eg, eh⟩ := u
              have d0 : wr.cell? ⟨vn, 0, none⟩ = some (.int .u32 (ea.toNat : Int)) := hV.cell (i := 0) rfl
              have d1 : wr.cell? ⟨vn, 1, none⟩ = some (.int .u32 (eb.toNat : Int)) := hV.cell (i := 1) rfl
              have d2 : wr.cell? ⟨vn, 2, none⟩ = some (.int .u32 (ec.toNat : Int)) := hV.cell (i := 2) rfl
              have d4 : wr.cell? ⟨vn, 4, none⟩ = some (.int .u32 (ee.toNat : Int)) := hV.cell (i := 4) rfl
              have d5 : wr.cell? ⟨vn, 5, none⟩ = some (.int .u32 (ef.toNat : Int)) := hV.cell (i := 5) rfl
              have d6 : wr.cell? ⟨vn, 6, none⟩ = some (.int .u32 (eg.toNat : Int)) := hV.cell (i := 6) rfl
              obtain ⟨xk, hxk⟩ : ∃ x, Sha.K.getD t 0 = x := ⟨_, rfl⟩
              obtain ⟨xw, hxw⟩ : ∃ x, (Sha.sched blk 64).getD t 0 = x := ⟨_, rfl⟩
              have Hxk := Lib.hid hxk
              have Hxw := Lib.hid hxw
              have Hu := Lib.hid hu
              have HR := Lib.hid hR
              have HV := Lib.hid hV
              clear hu hR hV hxk hxw ht
              go_wp2_with fail
              go_quiet (fail)
              have HR2 := Lib.hid (HR.out.drewN nq)
              have HV2 : Hid (Blk (wr.drewN nq) vn (Ws (⟨ea, eb, ec, ed, ee, ef, eg, eh⟩ : Sha.V).list) 92) := HV.out
              clear HR HV d0 d1 d2 d4 d5 d6
              generalize wr.drewN nq = w9 at *
              have d7 : w9.cell? ⟨vn, 7, none⟩ = some (.int .u32 (eh.toNat : Int)) := HV2.out.cell (i := 7) rfl
              have cw := HR2.out.bw.cell (wrow_get (blk := blk) hlt)
              have ck := HR2.out.bk.cell (Ws_get Sha.K t hlt)
              rw [Hxk.out] at ck
              rw [Hxw.out] at cw
              go_wp2_with fail
              go_quiet (first | (go_at_call 66; with_reducible refine rotr_6 w9 ee _) | (go_at_call 66; with_reducible refine rotr_11 w9 ee _) | (go_at_call 66; with_reducible refine rotr_25 w9 ee _))
              rw [w_S1 ee]
              obtain ⟨s1, hs1⟩ : ∃ x, Sha.rot ee 6 ^^^ Sha.rot ee 11 ^^^ Sha.rot ee 25 = x := ⟨_, rfl⟩
              rw [hs1, w_t1, w_not ee]
              have Hs1 := Lib.hid hs1
              obtain ⟨t1, ht1⟩ : ∃ x, eh + s1 + ((ee &&& ef) ^^^ (~~~ee &&& eg)) + xk + xw = x := ⟨_, rfl⟩
              rw [ht1]
              have Ht1 := Lib.hid ht1
              have HR3 := Lib.hid (HR2.out.drewN nq)
              have HV3 : Hid (Blk (w9.drewN nq) vn (Ws (⟨ea, eb, ec, ed, ee, ef, eg, eh⟩ : Sha.V).list) 92) := HV2.out
              clear HR2 HV2 d7 cw ck hs1 ht1
              generalize w9.drewN nq = w10 at *
              repeat go_step
              refine (rotr0_2 w10 ea).mono ?_
              rintro e w' ⟨rfl, m2, rfl⟩
              have HR4 := Lib.hid (HR3.out.drewN m2)
              have HV4 : Hid (Blk (w10.drewN m2) vn (Ws (⟨ea, eb, ec, ed, ee, ef, eg, eh⟩ : Sha.V).list) 92) := HV3.out
              clear HR3 HV3
              dsimp only
              generalize w10.drewN m2 = w11 at *
              repeat go_step
              refine (rotr0_13 w11 ea).mono ?_
              rintro e w' ⟨rfl, m13, rfl⟩
              have HR5 := Lib.hid (HR4.out.drewN m13)
              have HV5 : Hid (Blk (w11.drewN m13) vn (Ws (⟨ea, eb, ec, ed, ee, ef, eg, eh⟩ : Sha.V).list) 92) := HV4.out
              clear HR4 HV4
              dsimp only
              generalize w11.drewN m13 = w12 at *
              repeat go_step
              refine (rotr0_22 w12 ea).mono ?_
              rintro e w' ⟨rfl, m22, rfl⟩
              have HR6 := Lib.hid (HR5.out.drewN m22)
              have HV6 : Hid (Blk (w12.drewN m22) vn (Ws (⟨ea, eb, ec, ed, ee, ef, eg, eh⟩ : Sha.V).list) 92) := HV5.out
              clear HR5 HV5
              dsimp only
              generalize w12.drewN m22 = w13 at *
              have d3 : w13.cell? ⟨vn, 3, none⟩ = some (.int .u32 (ed.toNat : Int)) := HV6.out.cell (i := 3) rfl
              iterate 86 go_step
              rw [w_S0 ea]
              rw [w_t2, w_add, w_add]
              have HV7 : Hid (Blk (w13.setCells vn 0 (Ws (⟨t1 + ((Sha.rot ea 2 ^^^ Sha.rot ea 13 ^^^ Sha.rot ea 22) + ((ea &&& eb) ^^^ (ea &&& ec) ^^^ (eb &&& ec))), ea, eb, ec, ed + t1, ee, ef, eg⟩ : Sha.V).list)) vn (Ws (⟨t1 + ((Sha.rot ea 2 ^^^ Sha.rot ea 13 ^^^ Sha.rot ea 22) + ((ea &&& eb) ^^^ (ea &&& ec) ^^^ (eb &&& ec))), ea, eb, ec, ed + t1, ee, ef, eg⟩ : Sha.V).list) 92) := HV6.out.fresh rfl
              have HR7 := Lib.hid (HR6.out.other Hwv.out 0 (Ws (⟨t1 + ((Sha.rot ea 2 ^^^ Sha.rot ea 13 ^^^ Sha.rot ea 22) + ((ea &&& eb) ^^^ (ea &&& ec) ^^^ (eb &&& ec))), ea, eb, ec, ed + t1, ee, ef, eg⟩ : Sha.V).list))
              have HU : Hid ((⟨t1 + ((Sha.rot ea 2 ^^^ Sha.rot ea 13 ^^^ Sha.rot ea 22) + ((ea &&& eb) ^^^ (ea &&& ec) ^^^ (eb &&& ec))), ea, eb, ec, ed + t1, ee, ef, eg⟩ : Sha.V) = Sha.rounds (Sha.sched blk 64) (t + 1) ⟨va, vb, vc, vd, ve, vf, vg, vh⟩) := by
                show _ = Sha.round (Sha.rounds (Sha.sched blk 64) t ⟨va, vb, vc, vd, ve, vf, vg, vh⟩) (Sha.K.getD t 0) ((Sha.sched blk 64).getD t 0)
                rw [← Hu.out, Hxk.out, Hxw.out, ← Ht1.out, ← Hs1.out]
                rfl
              generalize hun : (⟨t1 + ((Sha.rot ea 2 ^^^ Sha.rot ea 13 ^^^ Sha.rot ea 22) + ((ea &&& eb) ^^^ (ea &&& ec) ^^^ (eb &&& ec))), ea, eb, ec, ed + t1, ee, ef, eg⟩ : Sha.V) = un at *
              refine wpList_build_at rfl 92 _ rfl (.agg (Ws un.list).toArray) (by subst hun; kernel_rfl) ?_
              clear hun
              refine wpList_store_mid rfl 92 (.tmp 11) (.tmp 194) rfl vn 0 (Ws un.list).toArray (by rfl) (by rfl) (HV6.out.there (by exact Nat.le_refl 8)) (by exact Tryd.sizeW8) (all_oneCell_toArray (Ws_one _)) ?_
              change wpList _ _ _ _ _ (w13.setCells vn 0 (Ws un.list))
              generalize w13.setCells vn 0 (Ws un.list) = w14 at *
              repeat go_step
              refine ⟨⟨t + 1, un, by omega, by go_num, HU.out, HR7.out, HV7.out⟩, ?_⟩
              simp [intOf]; omega
            · have e64 : t = 64 := by omega
              rw [e64] at hu
              rw [show (t : Int) = 64 from by omega]
              have Hu := Lib.hid hu
              have HR := Lib.hid hR
              have HV : Hid (Blk wr vn (Ws (mix u ⟨va, vb, vc, vd, ve, vf, vg, vh⟩ 0)) 92) := hV
              clear hu hR hV e64 hlt ht
              go_wp2_with fail
              go_loopw [21] (fun i wy => ∃ j : Nat, j ≤ 8 ∧ i = .int .i64 (j : Int) ∧ BlkR w ⟨va, vb, vc, vd, ve, vf, vg, vh⟩ kb wb (wrow blk 64) wy ∧ Blk wy vn (Ws (mix u ⟨va, vb, vc, vd, ve, vf, vg, vh⟩ j)) 92) (fun i _ => 8 - (intOf i).toNat)
              case atStart => exact ⟨0, by omega, rfl, HR.out, HV.out⟩
              case round =>
                obtain ⟨j, hj, rfl, hR, hV⟩ := hrel
                clear HR HV
                by_cases hlt : j < 8
                · have it : (j : Int) < 8 := by omega
                  have cu := hV.cell (mix_get u ⟨va, vb, vc, vd, ve, vf, vg, vh⟩ hlt)
                  have cv := hR.bh.cell (Ws_get (⟨va, vb, vc, vd, ve, vf, vg, vh⟩ : Sha.V).list j (by exact hlt))
                  have fu := hV.free j
                  have lu := hV.lt
                  have hms := mix_set u ⟨va, vb, vc, vd, ve, vf, vg, vh⟩ hlt
                  obtain ⟨xu, hxu⟩ : ∃ x, u.list.getD j 0 = x := ⟨_, rfl⟩
                  obtain ⟨xv, hxv⟩ : ∃ x, (⟨va, vb, vc, vd, ve, vf, vg, vh⟩ : Sha.V).list.getD j 0 = x := ⟨_, rfl⟩
                  rw [hxu] at cu hms
                  rw [hxv] at cv hms
                  have HR := Lib.hid hR
                  have HV := Lib.hid hV
                  have Hms := Lib.hid hms
                  clear hR hV hms hxu hxv hj
                  go_wp2_with fail
                  go_region
                  rw [w_add]
                  have HR2 := Lib.hid ((HR.out.other Hwv.out j [.int .u32 ((xu + xv).toNat : Int)]).drew)
                  have HV2 : Hid (Blk (wr.setCell ⟨vn, j, none⟩ (.int .u32 ((xu + xv).toNat : Int))).drew vn (Ws (mix u ⟨va, vb, vc, vd, ve, vf, vg, vh⟩ (j + 1))) 92) := by rw [← Hms.out]; exact HV.out.set j _
                  change Hid (BlkR w ⟨va, vb, vc, vd, ve, vf, vg, vh⟩ kb wb (wrow blk 64) (wr.setCell ⟨vn, j, none⟩ (.int .u32 ((xu + xv).toNat : Int))).drew) at HR2
                  clear HR HV Hms cu cv fu lu
                  generalize (wr.setCell ⟨vn, j, none⟩ (.int .u32 ((xu + xv).toNat : Int))).drew = w15 at *
                  go_wp2_with fail
                  go_roundw
                  case rel => exact ⟨j + 1, by omega, by go_num, HR2.out, HV2.out⟩
                  case measure => simp [intOf]; omega
                · have e8 : j = 8 := by omega
                  rw [e8] at hV
                  rw [show (j : Int) = 8 from by omega]
                  have HV : Hid (Blk wr vn (Ws (Sha.block ⟨va, vb, vc, vd, ve, vf, vg, vh⟩ blk).list) 92) := by
                    unfold Sha.block; rw [← Hu.out]; exact hV
                  have HR := Lib.hid hR
                  clear hR hV e8 hlt hj
                  obtain ⟨un, hun⟩ : ∃ x, Sha.block ⟨va, vb, vc, vd, ve, vf, vg, vh⟩ blk = x := ⟨_, rfl⟩
                  rw [hun] at HV
                  have Hun := Lib.hid hun
                  clear hun
                  go_wp2_with (first
                    | (refine wpList_load_mid rfl 92 (.tmp 11) rfl vn 0 (by rfl) (Ws un.list) _ HV.out.rangeAt Tryd.underlying92 rfl (by exact Tryd.sizeW8) ?_)
                    | (refine wpList_store_mid rfl 92 (.tmp 4) (.tmp 207) rfl (w.heap.size + 1) 0 (Ws un.list).toArray (by rfl) (by rfl) (HR.out.br.there (by exact Nat.le_refl 8)) (by exact Tryd.sizeW8) (all_oneCell_toArray (Ws_one _)) ?_; change wpList _ _ _ _ _ (wr.setCells (w.heap.size + 1) 0 (Ws un.list))))
                  have R := HR.out.br.fresh (cs := Ws un.list) rfl
                  refine bodyPost_ret (results_cell_row rfl _ _ (w.heap.size + 1) 92 (Ws un.list).toArray (0, 0) _ rfl R Tryd.underlying92 rfl (by exact Tryd.sizeW8)) rfl ?_
                  exact ⟨by rw [Hun.out], below_setCells HR.out.below (by omega) _ _⟩
end
end Go.Proofs.YtggiinfeiilogaaDoor
