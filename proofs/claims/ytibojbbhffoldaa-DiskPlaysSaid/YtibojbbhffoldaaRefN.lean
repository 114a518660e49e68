/- Contract of the reference's New. -/
import Derived.Test.YtibojbbhffoldaaRefM
import Derived.StillTailTactics
import Derived.Deep.RegionHeld3
import Derived.Deep.RegionLaw
import Derived.Deep.DrawnRows
namespace Go.Proofs.Ytibojbbhffoldaa
open Go.RowKit Go.Maps
def RefNewP (w : World) (n size : Nat) (e : Ending) (w' : World) : Prop :=
  ∃ b, e = .returned (.pointer (some ⟨b, 0, none⟩)) ∧ Below w.heap.size w w' ∧ (∃ dv dvs lv pvs left, RefRep w' (DSt.new n size) b (fun k => w.heap.size ≤ k ∧ k < w'.heap.size) dv dvs lv pvs left)
def RefGrow (w : World) (b k size : Nat) (wr : World) : Prop := Below w.heap.size w wr ∧ ∃ F dv dvs, From w.heap.size F ∧ RefRep wr (DSt.new k size) b F dv dvs (.slice none 0 0) [] (-1)
theorem DSt.new_succ (k size : Nat) : ({ DSt.new k size with dur := (DSt.new k size).dur ++ [List.replicate size 0] } : DSt) = DSt.new (k + 1) size := by
  simp [DSt.new, List.replicate_succ']
section
variable {w w' wr w2 : World} {b k size gg cap : Nat} {F : Nat → Prop} {dv : Value} {dvs : List Value}
theorem OwnB.zeros (w : World) (n : Nat) (h : n ≤ 4096) : OwnB (w.alloc (.cells (Array.replicate n (.int .u8 0)) 5)) (.slice (some ⟨w.heap.size, 0, none⟩) n n) (List.replicate n 0) := by
  unfold OwnB
  rw [By_zero, List.length_replicate]
  refine ⟨by simp, .inr ⟨w.heap.size, n, Array.replicate n (.int .u8 0), rfl, Nat.zero_le _, heap_alloc_new w _, Nat.le_refl _, by unfold maxLen; omega, by simp, by simp⟩⟩
theorem RefGrow.step (hbel : Below w.heap.size w wr) (hF : From w.heap.size F) (hR : RefRep wr (DSt.new k size) b F dv dvs (.slice none 0 0) [] (-1)) (hs : size ≤ 4096) {o : Obj}
    (hown : w2.ownsRow 0 22 1 (.slice (some ⟨gg, 0, none⟩) (k + 1) cap) (k + 1) (dvs ++ [.slice (some ⟨wr.heap.size, 0, none⟩) size size]))
    (hgrow : ((wr.alloc (.cells (Array.replicate size (.int .u8 0)) 5)).alloc o).drew.grownBy w2 dv.ownBlock) (hat : dv.ownBlock = some gg ∨ gg = wr.heap.size + 2) (hlt : gg < w2.heap.size) :
    RefGrow w b (k + 1) size (w2.setCell ⟨b, 1, none⟩ (.slice (some ⟨gg, 0, none⟩) (k + 1) cap)) := by
  have hB : Below wr.heap.size wr ((wr.alloc (.cells (Array.replicate size (.int .u8 0)) 5)).alloc o).drew := (((Below.refl _ _).alloc (Nat.le_refl _) _).alloc (by simp) _).drew
  have hv : OwnB ((wr.alloc (.cells (Array.replicate size (.int .u8 0)) 5)).alloc o).drew (.slice (some ⟨wr.heap.size, 0, none⟩) size size) (List.replicate size 0) :=
    (OwnB.zeros wr size hs).grow (((Below.refl _ _).alloc (Nat.le_refl _) _).drew)
  obtain ⟨st, R⟩ := hR.pushRow hB hv (fun g hg => by simp only [Value.ownBlock, Option.some.injEq] at hg; omega) (by simp [DSt.new]) hown hgrow (hat.imp id (fun e => by subst e; simp)) hlt
  rw [DSt.new_succ] at R
  exact ⟨hbel.trans (st.below hF hbel.size), _, _, _, Plus.froms hF hbel.size, R⟩
theorem refgrow_zero (w : World) (size : Nat) : RefGrow w w.heap.size 0 size (w.alloc (.cells #[.int .i64 (size : Int), .slice none 0 0, .slice none 0 0, .bool false, .int .i64 (-1)] 41)) := by
  refine ⟨(Below.refl _ _).alloc (Nat.le_refl _) _, (· = w.heap.size), .slice none 0 0, [], fun k hk => by omega, ?_⟩
  refine ⟨fun k hk => ?_, rfl, fun g hg => (by cases hg), fun g hg => (by cases hg), ?_, fun _ => rfl, World.ownsRow_nil _ _ _ _, All2.nil, World.ownsRow_nil _ _ _ _, All2.nil, fun i j a c g hi => by simp at hi, fun i j a p g hi => by simp at hi⟩
  · subst hk; simp
  · exact Blk.new w _ _
set_option maxRecDepth 100000 in
set_option maxHeartbeats 1000000 in
theorem refnew_any (n size : Nat) (w : World) (h1 : n ≤ 65536) (h2 : 1 ≤ size) (h3 : size ≤ 4096) :
    Calls Try.prog 24 #[.int .i64 (n : Int), .int .i64 (size : Int)] w (RefNewP w n size) := by
  obtain ⟨i0, hi0, hz0, hz1, hz2⟩ := info_parts Try.infoRow
  have G0 := Lib.hid (refgrow_zero w size)
  go_enter Try.func24, Try.ntmps24
  go_wp2_with fail
  generalize w.alloc (.cells #[.int .i64 (size : Int), .slice none 0 0, .slice none 0 0, .bool false, .int .i64 (-1)] 41) = w1 at *
  generalize hb : w.heap.size = b at *
  go_loopw [6] (fun i wr => ∃ k : Nat, k ≤ n ∧ i = .int .i64 (k : Int) ∧ RefGrow w b k size wr) (fun i _ => n - (intOf i).toNat)
  case atStart => exact ⟨0, Nat.zero_le _, rfl, G0.out⟩
  case round =>
    obtain ⟨k, hk, rfl, hbel, F, dv, dvs, hF, hR⟩ := hrel
    by_cases hlt : k < n
    · have ik : (k : Int) < (n : Int) := by omega
      obtain ⟨a, c, rfl⟩ := hR.dvForm
      have hkl : (DSt.new k size).dur.length = k := by simp [DSt.new]
      rw [hkl] at hR
      have c1 := hR.cells.cell (i := 1) rfl
      have f1 := hR.cells.free 1
      have hltb := hR.cells.lt
      have hdu := hR.durs
      rw [hkl] at hdu
      have hne := hR.dv_ne_b
      have Hdu := Lib.hid hdu
      have HR := Lib.hid hR
      have Hkl := Lib.hid hkl
      have HF := Lib.hid hF
      have Hbel := Lib.hid hbel
      have Hne := Lib.hid hne
      clear hdu hR hkl hF hbel hne G0
      have hmk : ∀ W : World, (Instr.makeSlice 22 (.int .i64 (size : Int)) (.int .i64 (size : Int))).run Try.prog W = .ok (.slice (some ⟨W.heap.size, 0, none⟩) size size) (W.alloc (.cells (List.replicate size (.int .u8 0)).toArray 5)) := fun W => run_make_n W 22 5 (.int .u8 0) 1 size size Try.underlying22 Try.infoByte rfl (Nat.le_refl _) (by omega) (by unfold maxLen; omega)
      go_wp2_with fail
      go_region_law (refine step_append_lies _ (by rfl) _ _ _ (by rfl) 0 22 i0 _ 1 24 Try.underlying33 hi0 hz0 hz1 hz2 rfl (by omega) (.slice a k c) k dvs (by rfl) ((Hdu.out.alloc _).alloc _).drew ⟨wr.heap.size + 1, 0, none⟩ 1 1 [.slice (some ⟨wr.heap.size, 0, none⟩) size size] (by rfl) (by rfl) (World.news_of_block (cs := #[.slice (some ⟨wr.heap.size, 0, none⟩) size size]) (t := 22) (fr := (0, 0)) (heap_alloc2_new wr _ _)) (by simp [Value.oneCell']) (by omega) (by unfold maxLen; omega) (by omega) (by omega) (wr.heap.size + 2) (by simp) ?_; intro gg cap w2 hown2 hgrow hat hlt2; have q2 : w2.cell? ⟨b, 1, none⟩ = some (.slice a k c) := (hgrow.cell_far ⟨b, 1, none⟩ (by simp; omega) (Ne.symm Hne.out)).trans (((HR.out.cells.alloc _).alloc _).cell (i := 1) rfl); have q3 : w2.frozen? ⟨b, 1, none⟩ = false := (hgrow.frozen_far ⟨b, 1, none⟩ (by simp; omega) (Ne.symm Hne.out)).trans (((HR.out.cells.alloc _).alloc _).free 1))
      all_goals
        have G2 := Lib.hid (RefGrow.step Hbel.out HF.out HR.out h3 hown2 hgrow hat hlt2)
        clear hown2 hgrow hat hlt2 q2 q3 c1 f1 hmk
        go_wp2_with fail
        go_roundw
        case rel => exact ⟨k + 1, by omega, by go_num, G2.out⟩
        case measure => simp [intOf]; omega
    · obtain rfl : k = n := by omega
      go_wp2_with fail
      go_ret
      subst hb
      exact ⟨_, rfl, hbel, _, _, _, _, _, hR.mono (fun x hx => ⟨hF x hx, hR.inn x hx⟩) (fun x hx => hx.2)⟩
end
end Go.Proofs.Ytibojbbhffoldaa
