/- Contract of Image. -/
import Derived.Test.YtibojbbhffoldaaDiskP
namespace Go.Proofs.Ytibojbbhffoldaa
open Go.RowKit Go.Maps
/-- v is a slice over a whole row, made since w, of slices over whole blocks of bytes, made since w. -/
def ImgV (w w' : World) (v : Value) (L : List (List UInt8)) : Prop :=
  ∃ k vs, v = .slice (some ⟨k, 0, none⟩) L.length L.length ∧ w.heap.size ≤ k ∧ Blk w' k vs 22 ∧ L.length ≤ 65536 ∧
    All2 (fun x l => ∃ j, x = .slice (some ⟨j, 0, none⟩) l.length l.length ∧ w.heap.size ≤ j ∧ Blk w' j (By l) 5 ∧ l.length ≤ 4096) vs L
section
variable {w w' : World} {s : DSt} {b : Nat} {F G : Nat → Prop} {bd bm : Nat} {dvs : List Value} {pv : Value} {pvs : List (Nat × Value)} {D : DataW Unit}
theorem ImgV.lv {v : Value} {L : List (List UInt8)} (h : ImgV w w' v L) : LV w' (fun k => w.heap.size ≤ k ∧ k < w'.heap.size) v L := by
  obtain ⟨k, vs, rfl, hk, hb, hl, ha⟩ := h
  refine ⟨_, _, rfl, Nat.le_refl _, by unfold maxLen; omega, (fun e => by cases e), fun _ => ⟨k, 0, rfl, ⟨hk, hb.lt⟩, fun i hi => ?_⟩⟩
  obtain ⟨x, hx, j, rfl, hj, hbj, hlj⟩ := ha.get (i := i) (b := L[i]) (by simp [hi])
  refine ⟨_, by rw [Nat.zero_add]; exact hb.cell hx, ?_⟩
  exact (BV.of_blk hbj (by rw [List.take_of_length_le (by simp)]) (Nat.le_refl _) (by unfold maxLen; omega)).mono (fun _ e => by subst e; exact ⟨hj, hbj.lt⟩)
def ImageP (w : World) (L : List (List UInt8)) (e : Ending) (w' : World) : Prop := ∃ v, e = .returned v ∧ Below w.heap.size w w' ∧ ImgV w w' v L
theorem row_at {vs : List Value} {j n : Nat} {z : Value} (hv : vs.length = j) (hj : j < n) : (vs ++ List.replicate (n - j) z)[j]? = some z := by
  rw [List.getElem?_append_right (by omega), hv, Nat.sub_self, List.getElem?_replicate, if_pos (by omega)]
theorem row_set {vs : List Value} {j n : Nat} {z v : Value} (hv : vs.length = j) (hj : j < n) : (vs ++ List.replicate (n - j) z).set j v = vs ++ [v] ++ List.replicate (n - (j + 1)) z := by
  rw [List.set_append_right _ _ (by omega), hv, Nat.sub_self, show n - j = (n - (j + 1)) + 1 from by omega, List.replicate_succ]
  simp
/-- Behind j rounds. -/
def ImageR (w : World) (L : List (List UInt8)) (j : Nat) (wr : World) : Prop :=
  Below w.heap.size w wr ∧ ∃ vs, vs.length = j ∧ Blk wr w.heap.size (vs ++ List.replicate (L.length - j) (.slice none 0 0)) 22 ∧
    All2 (fun x l => ∃ j, x = .slice (some ⟨j, 0, none⟩) l.length l.length ∧ w.heap.size ≤ j ∧ Blk wr j (By l) 5 ∧ l.length ≤ 4096) vs (L.take j)
set_option maxRecDepth 100000 in
set_option maxHeartbeats 1000000 in
theorem image_any (h : DiskAt w s b F) : Calls Try.prog 17 #[.pointer (some ⟨b, 0, none⟩)] w (ImageP w s.dur) := by
  obtain ⟨bd, bm, dvs, pv, pvs, D, h⟩ := h
  have c0 := h.cells.cell (i := 0) rfl
  have q1 := h.cells.cell (i := 1) rfl
  have lb := h.cells.lt
  have hn2 := h.ok.n2
  have hs2 := h.ok.size2
  have H := Lib.hid h
  clear h
  go_enter Try.func17, Try.ntmps17
  go_wp2_with (at_make; refine wpList_make_n rfl _ _ _ rfl 22 (.slice none 0 0) 24 s.dur.length s.dur.length Try.underlying33 Try.infoRow rfl rfl rfl (Nat.le_refl _) (by omega) (by unfold maxLen; omega) ?_)
  have A0 := (Below.refl w.heap.size w).alloc (Nat.le_refl _) (.cells (Array.replicate s.dur.length (.slice none 0 0)) 22)
  have y0 : Blk (w.alloc (.cells (Array.replicate s.dur.length (.slice none 0 0)) 22)) w.heap.size (List.replicate s.dur.length (.slice none 0 0)) 22 := by simpa using Blk.new w (List.replicate s.dur.length (.slice none 0 0)) 22
  generalize w.alloc (.cells (Array.replicate s.dur.length (.slice none 0 0)) 22) = w0 at *
  have A := Lib.hid A0; clear A0
  have Y := Lib.hid y0; clear y0
  go_loopw [17] (fun i wr => ∃ j : Nat, j ≤ s.dur.length ∧ i = .int .i64 (j : Int) ∧ ImageR w s.dur j wr) (fun i _ => s.dur.length - (intOf i).toNat)
  case atStart => exact ⟨0, Nat.zero_le _, rfl, A.out, [], rfl, by simpa using Y.out, by simpa using All2.nil⟩
  case round =>
    obtain ⟨j, hj, rfl, hbl, vs, hvl, hrow, hall⟩ := hrel
    by_cases hlt : j < s.dur.length
    · obtain ⟨old, hold, hro⟩ := H.out.dur.get (i := j) (b := s.dur[j]) (by simp [hlt])
      have d1 := H.out.durs.cell hold
      have lbd := H.out.durs.lt
      obtain ⟨l', hob, hl', hfo⟩ := hro.fills hs2
      have hsz := hbl.size
      have r0 := (hbl.cell (p := ⟨b, 0, none⟩) lb).trans c0
      have r1 := (hbl.cell (p := ⟨bd, j, none⟩) lbd).trans d1
      have C := Lib.hid (filled_any b s.size old l' _ wr r0 hs2 hl' (hob.grow hbl))
      have hcell := hrow.cell (i := j) (v := .slice none 0 0) (row_at hvl (by omega))
      have hfree := hrow.free j
      have lrow := hrow.lt
      have Hl : Hid ((s.dur[j]).length = s.size) := H.out.ok.dur _ (List.getElem_mem hlt)
      rw [hfo] at C
      have Hrow := Lib.hid hrow; clear hrow
      have Hall := Lib.hid hall; clear hall
      have Hbl := Lib.hid hbl; clear hbl
      have Hvl := Lib.hid hvl; clear hvl
      clear hob hfo hro d1 hold
      generalize hdj : s.dur[j] = dj at *
      have Hdj := Lib.hid hdj; clear hdj
      go_wp2_with (go_at_call 32; refine (C.out).mono ?_; rintro e w' ⟨rfl, rfl⟩)
      go_roundw
      case rel =>
        refine ⟨j + 1, by omega, by go_num, ?_, vs ++ [.slice (some ⟨wr.heap.size, 0, none⟩) s.size s.size], by simp; exact Hvl.out, ?_, ?_⟩
        · exact (Hbl.out.setCell (p := ⟨w.heap.size, j, none⟩) (Nat.le_refl _) _).alloc (by simpa using hsz) _
        · have := (Hrow.out.set j (.slice (some ⟨wr.heap.size, 0, none⟩) s.size s.size)).alloc (.cells (By dj).toArray 5)
          rwa [row_set Hvl.out (by omega)] at this
        · have e : s.dur.take (j + 1) = s.dur.take j ++ [dj] := by rw [← Hdj.out, List.take_succ_eq_append_getElem hlt]
          rw [e]
          refine (Hall.out.mono (fun x l r => ?_)).snoc ⟨wr.heap.size, by rw [Hl.out], hsz, Blk.newAt (wr.setCell _ _) _ _ (by simp), by rw [Hl.out]; exact hs2⟩
          obtain ⟨i, e, hi, hb, hl⟩ := r
          exact ⟨i, e, hi, (hb.set_ne (fun e => by subst e; exact absurd (hb.inj Hrow.out).2 (by decide)) _).alloc _, hl⟩
      case measure => simp [intOf]; omega
    · obtain rfl : j = s.dur.length := by omega
      have Hbl := Lib.hid hbl; clear hbl
      have Hrow := Lib.hid hrow; clear hrow
      have Hall := Lib.hid hall; clear hall
      clear hvl
      go_wp2
      go_ret
      exact ⟨_, rfl, Hbl.out, w.heap.size, vs, rfl, Nat.le_refl _, by simpa using Hrow.out, hn2, by simpa using Hall.out⟩
end
end Go.Proofs.Ytibojbbhffoldaa
