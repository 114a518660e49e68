/- Contract of (*Disk).Write. -/
import Derived.Test.YtcpcnfedbffecaaDoorDiskL
import Derived.StillTailTactics
import Derived.Deep.RegionHeld3
import Derived.Deep.RegionLaw
import Derived.Deep.DrawnRows
namespace Go.Proofs.YtcpcnfedbffecaaDoor
open Go.RowKit Go.Maps
attribute [local go_sem ↓] Go.wp_at_zero Go.wp_at_succ
theorem Tryd.law3 : Keyed Tryd.prog 3 := int_keyed Tryd.underlying3
theorem Tryd.infoWrite : (Tryd.prog.info? 65).map (fun i => (i.zero, i.size, i.bytes)) = some (some (.agg #[.int .i64 0, .slice none 0 0]), 2, 32) := by kernel_rfl

section
variable {w : World} {s : DSt} {b : Nat} {F G : Nat → Prop}
set_option maxRecDepth 100000 in
set_option maxHeartbeats 1000000 in
theorem write_yes (h : DiskAt w s b F) (k : Nat) (dv : Value) (l : List UInt8) (hv : BV w G dv l) (hd : s.down = false) (hk : k < s.dur.length) (hl : l.length = s.size) (hp : s.pend.length < 1000000) :
    Calls Tryd.prog 41 #[.pointer (some ⟨b, 0, none⟩), .int .i64 (k : Int), dv] w (DiskP w b F (s.write k l).2 (.int .i64 (s.write k l).1)) := by
  obtain ⟨bd, bm, dvs, pv, pvs, D, h⟩ := h
  obtain ⟨a, c, rfl⟩ := h.pvForm
  have c0 := h.cells.cell (i := 0) rfl
  have c1 := h.cells.cell (i := 1) rfl
  have c2 := h.cells.cell (i := 2) rfl
  have c3 := h.cells.cell (i := 3) rfl
  have c5 := h.cells.cell (i := 5) rfl
  rw [hd] at c5
  have hlt := h.cells.lt
  have hsz := h.ok.size2
  have hn2 := h.ok.n2
  obtain ⟨da, dc, rfl⟩ : ∃ da dc, dv = .slice da l.length dc := by obtain ⟨a, c, e, _⟩ := hv; exact ⟨a, c, e⟩
  have V := Lib.hid (valid_any b (k : Int) (some ⟨bd, 0, none⟩) s.dur.length s.dur.length w c1)
  have M := Lib.hid h.map
  have hbm := h.bm_ne h.cells
  have H := Lib.hid h; clear h
  have Hd := Lib.hid hd; clear hd
  have Hv := Lib.hid hv; clear hv
  have Hl := Lib.hid hl; 
  rw [hl]
  clear hl
  go_enter Tryd.func41, Tryd.ntmps41
  go_wp2_with (go_at_call 48; refine (V.out).mono ?_; rintro e w' ⟨rfl, rfl⟩)
  go_still_tail 10, (by kernel_rfl)
  go_wp2_with (at_mapUpdate; refine wpList_mapUpdate_own _ rfl _ _ _ 49 rfl 3 3 Tryd.law3 Tryd.underlying49 _ bm s.pend.length D rfl M.out (by unfold maxLen; omega) _ _ (.int .i64 (k : Int)) rfl rfl (keyOf_int_mk Tryd.underlying3 (WalkArith.wf_i64 (by omega))) (.lit (.int .i64 (s.pend.length : Int))) [] (plainElem_int Tryd.underlying3 (WalkArith.wf_i64 (by omega))) ?_)
  intro w1 hm1 hg1
  have hsz1 := hg1.size
  have e1 : ∀ x, x ≠ bm → x < w.heap.size → w1.heap[x]? = w.heap[x]? := fun x hx hl => hg1.block x hl (fun e => hx (Option.some.inj e))
  have B1 := H.out.cells.of_same (e1 b (Ne.symm hbm) hlt)
  have c0' := B1.cell (i := 0) rfl
  have c1' := B1.cell (i := 1) rfl
  have c2' := B1.cell (i := 2) rfl
  have c4' := B1.cell (i := 4) rfl
  have c5' := B1.cell (i := 5) rfl
  have f2' := B1.free 2
  have hlt1 := B1.lt
  have hlt1' : b < w1.heap.size + 1 := Nat.lt_succ_of_lt hlt1
  have M1 := Lib.hid hm1; clear hm1
  have E1 := Lib.hid e1; clear e1
  have HB1 := Lib.hid B1; clear B1
  have HG1 := Lib.hid hg1; clear hg1
  clear c0 c1 c2 c3 c5 V M
  have mapNone : ∀ o, w.cell? ⟨bm, o, none⟩ = none := fun o => by
    obtain ⟨es, clock, hb, _⟩ := H.out.map
    simp [World.cell?, hb]
  have V1 : BV w1 G (.slice da s.size dc) l := by
    have := Hv.out.turn (m := bm) (w' := w1) mapNone (fun x hx hne => E1.out x hne hx)
    rwa [Hl.out] at this
  have C := Lib.hid (filled_any b s.size (.slice da s.size dc) l G w1.drew c0' hsz (by rw [Hl.out]; exact Nat.le_refl _) V1)
  clear V1 mapNone
  have hpv : w1.ownsRow 0 65 2 (.slice a s.pend.length c) s.pend.length (pcells pvs) :=
    Same.row (G := fun x => x ≠ bm ∧ x < w.heap.size) (fun x hx => E1.out x hx.1 hx.2) H.out.pend (fun g hg => by
      obtain ⟨cur, hb⟩ := ownsRow_blk H.out.pend hg
      exact ⟨(H.out.bm_ne hb).symm, hb.lt⟩)
  have hne : (Value.slice a s.pend.length c).ownBlock ≠ some b := fun hg => H.out.pv_ne_b hg rfl
  have Hpv := Lib.hid hpv; clear hpv
  have Hne := Lib.hid hne; clear hne
  obtain ⟨i0, hi0, hz0, hz1, hz2⟩ := info_parts Tryd.infoWrite
  go_wp2_with fail
  go_region_law (first | ((refine step_append_lies _ (by rfl) _ _ _ (by rfl) 0 65 i0 _ 2 32 Tryd.underlying50 hi0 hz0 hz1 hz2 rfl (by omega) (.slice a s.pend.length c) s.pend.length (pcells pvs) (by rfl) ((Hpv.out.alloc _).alloc _).drew ⟨w1.heap.size + 1, 0, none⟩ 1 1 [.int .i64 (k : Int), .slice (some ⟨w1.heap.size, 0, none⟩) s.size s.size] (by rfl) (by rfl) (World.news_of_block (cs := #[.int .i64 (k : Int), .slice (some ⟨w1.heap.size, 0, none⟩) s.size s.size]) (t := 65) (fr := (0, 0)) (heap_alloc2_new w1 _ _)) (by simp [Value.oneCell']) (by omega) (by unfold maxLen; omega) (by omega) (by omega) (w1.heap.size + 2) (by simp) ?_; intro gg cap w2 hown2 hgrow hat hlt2; have q2 : w2.cell? ⟨b, 2, none⟩ = some (.slice a s.pend.length c) := (hgrow.cell_far ⟨b, 2, none⟩ (by simp; omega) (Ne.symm Hne.out)).trans (((HB1.out.alloc _).alloc _).cell (i := 2) rfl); have q3 : w2.frozen? ⟨b, 2, none⟩ = false := (hgrow.frozen_far ⟨b, 2, none⟩ (by simp; omega) (Ne.symm Hne.out)).trans (((HB1.out.alloc _).alloc _).free 2))) | (go_simp; go_at_call 49; refine (C.out).mono ?_; rintro e w' ⟨rfl, rfl⟩))
  all_goals
    have R := Lib.hid (H.out.wrote hk Hl.out M1.out HG1.out hown2 hgrow hat hlt2)
    have B2 := (HB1.out.of_same ((hgrow.block b (by simp; omega) (Ne.symm Hne.out)).trans ((Below.heap_alloc _ _ _ (by simp; omega)).trans (Below.heap_alloc _ _ _ hlt1)))).set 2 (.slice (some ⟨gg, 0, none⟩) (s.pend.length + 1) cap)
    have d4 := B2.cell (i := 4) rfl
    have d5 := B2.cell (i := 5) rfl
    have g4 := B2.free 4
    have g5 := B2.free 5
    clear B2 q2 q3 c0' c1' c2' c4' c5' f2'
    have HO := H.out.ok
    have ha1 := HO.a1
    have ha2 := HO.a2
    clear HO
    have hg := Lib.hid hgrow; clear hgrow
    have ho := Lib.hid hown2; clear hown2
    have ht := Lib.hid hat; clear hat
    go_wp2_with fail
    refine (fails_any b s.after s.down _ ha1 ha2 d4 d5 g4 g5).mono ?_
    rintro e w' ⟨rfl, rfl⟩
    clear d4 d5 g4 g5 ht ho hg
    go_wp2_with fail
  all_goals go_ret
  all_goals refine ⟨?_, ?_⟩
  all_goals rw [DSt.write_eq Hd.out hk Hl.out]
  all_goals first
    | exact DiskRep.writeEnd R.out
    | (refine ret_int ?_; simp_all)
end
end Go.Proofs.YtcpcnfedbffecaaDoor
