/- Contract of the reference's Write. -/
import Derived.Test.YtibojbbhffoldaaDrS
import Derived.Deep.AppendLies
namespace Go.Proofs.Ytibojbbhffoldaa
open Go.RowKit Go.Maps
set_option linter.unusedSimpArgs false
theorem Try.infoPending : (Try.prog.info? 70).map (fun i => (i.zero, i.size, i.bytes)) = some (some (.agg #[.int .i64 0, .slice none 0 0]), 2, 32) := by kernel_rfl
section
variable {w w' : World} {s : DSt} {b : Nat} {F G : Nat → Prop} {dv lv v : Value} {dvs : List Value} {pvs : List (Nat × Value)} {left : Int} {l : List UInt8}
set_option maxRecDepth 100000 in
set_option maxHeartbeats 2000000 in
theorem rwrite_yes (h : RefRep w s b F dv dvs lv pvs left) (ok : s.Ok) (hd : s.down = false) (k : Nat) (hk : k < s.dur.length) (xv : Value) (hv : BV w G xv l) (hl : l.length = s.size) (hp : s.pend.length < 1000000) (r : Int) (hr : r = if s.after = 0 then 8 else 0) :
    Calls Try.prog 35 #[.pointer (some ⟨b, 0, none⟩), .int .i64 (k : Int), xv] w (RefP w b F (s.push k l).step (.int .i64 r)) := by
  obtain ⟨da, dc, rfl, dc1, dc2, -⟩ := hv.get
  unfold maxLen at dc2
  rw [hl] at hv dc1 ⊢
  have hs2 := ok.size2
  have hn2 := ok.n2
  have hle := h.lft hd
  obtain ⟨a, c, rfl⟩ := h.lvForm
  have c0 := h.cells.cell (i := 0) rfl
  have c2 := h.cells.cell (i := 2) rfl
  have c3 := h.cells.cell (i := 3) rfl
  have f2 := h.cells.free 2
  rw [hd] at c3
  obtain ⟨gd, dd, rfl⟩ := h.dvAt (by omega)
  have c1 := h.cells.cell (i := 1) rfl
  have V := Lib.hid (rsector_any b (k : Int) (some ⟨gd, 0, none⟩) s.dur.length dd w c1)
  have hv' : decide (0 ≤ (k : Int) ∧ (k : Int) < (s.dur.length : Int)) = true := decide_eq_true (by omega)
  rw [hv'] at V
  have HLT : Hid (b < w.drew.heap.size) := Lib.hid h.cells.lt
  have HV := Lib.hid (show BV w.drew G (.slice da s.size dc) l from hv)
  have HL := Lib.hid hl
  have HNE := Lib.hid h.lv_ne_b
  have HPD : Hid (∀ W : World, Below w.drew.heap.size w.drew W → W.ownsRow 0 70 2 (.slice a s.pend.length c) s.pend.length (pcells pvs)) := Lib.hid (fun W hB => Same.row (G := fun x => x < w.heap.size) (fun x hx => hB.block x hx) h.pend (fun g hg => h.inn g (h.Flv g hg)))
  have H := Lib.hid h
  have OK := Lib.hid ok
  have HD := Lib.hid hd
  have HK := Lib.hid hk
  have HLE := Lib.hid hle
  have HR := Lib.hid hr
  have hlt := h.cells.lt
  have HS : Hid (w.drew.cell? ⟨b, 2, none⟩ = some (.slice a s.pend.length c)) := Lib.hid c2
  obtain ⟨i0, hi0, hz0, hz1, hz2⟩ := info_parts Try.infoPending
  clear h ok hd hv hv' hk hle hr
  go_enter Try.func35, Try.ntmps35
  go_wp2_with (go_at_call 41; refine (V.out).mono ?_; rintro e w' ⟨rfl, rfl⟩)
  refine wp_region_any (by kernel_rfl) ?_
  change wpAny _ _ _ _ _ _ _ (World.drew _)
  refine wpAny_take (i := 0) (oi := ⟨some 24, _, _, _, _, _⟩) (v := .pointer (some ⟨b, 0, none⟩)) rfl (by kernel_rfl) (by kernel_rfl) (by kernel_rfl) (fun _ _ _ h => h) (Or.inl ⟨by rfl, fun w => by go_simp⟩) ?_
  try simp only [Act.put, List.setIfInBounds_toArray, List.set_cons_zero, List.set_cons_succ]
  refine wpAny_take (i := 1) (oi := ⟨some 25, _, _, _, _, _⟩) (v := .pointer (some ⟨b, 0, none⟩)) rfl (by kernel_rfl) (by kernel_rfl) (by kernel_rfl) (fun _ _ _ h => h) (Or.inl ⟨by rfl, fun w => by go_simp⟩) ?_
  try simp only [Act.put, List.setIfInBounds_toArray, List.set_cons_zero, List.set_cons_succ]
  refine wpAny_take (i := 2) (oi := ⟨some 26, _, _, _, _, _⟩) (v := .pointer (some ⟨b, 0, none⟩)) rfl (by kernel_rfl) (by kernel_rfl) (by kernel_rfl) (fun _ _ _ h => h) (Or.inl ⟨by rfl, fun w => by go_simp⟩) ?_
  try simp only [Act.put, List.setIfInBounds_toArray, List.set_cons_zero, List.set_cons_succ]
  refine wpAny_take (i := 3) (oi := ⟨some 27, _, _, _, _, _⟩) (v := .pointer (some ⟨b, 2, none⟩)) rfl (by kernel_rfl) (by kernel_rfl) (by kernel_rfl) (fun _ _ _ h => h) (Or.inl ⟨by rfl, fun w => by go_simp⟩) ?_
  try simp only [Act.put, List.setIfInBounds_toArray, List.set_cons_zero, List.set_cons_succ]
  refine wpAny_take (i := 5) (oi := ⟨some 29, _, _, _, _, _⟩) (v := .int .i64 (k : Int)) rfl (by kernel_rfl) (by kernel_rfl) (by kernel_rfl) (fun _ _ _ h => h) (Or.inl ⟨by rfl, fun w => by go_simp⟩) ?_
  try simp only [Act.put, List.setIfInBounds_toArray, List.set_cons_zero, List.set_cons_succ]
  refine wpAny_take (i := 7) (oi := ⟨some 31, _, _, _, _, _⟩) (v := .slice da s.size dc) rfl (by kernel_rfl) (by kernel_rfl) (by kernel_rfl) (fun _ _ _ h => h) (Or.inl ⟨by rfl, fun w => by go_simp⟩) ?_
  try simp only [Act.put, List.setIfInBounds_toArray, List.set_cons_zero, List.set_cons_succ]
  refine wpAny_ready (rs := [4, 6]) (by kernel_rfl) (by simp) ?_
  refine AllReady.cons (o := ⟨some 28, _, _, _, _, _⟩) rfl (fun K hK => ?_) (AllReady.cons (o := ⟨some 30, _, _, _, _, _⟩) rfl (fun K hK => ?_) AllReady.nil)
  · go_simp
    refine hK _ _ ?_
    clear hK K
    try simp only [Act.put, List.setIfInBounds_toArray, List.set_cons_zero, List.set_cons_succ]
    refine wpAny_ready (rs := [6]) (by kernel_rfl) (by simp) ?_
    refine AllReady.cons (o := ⟨some 30, _, _, _, _, _⟩) rfl (fun K hK => ?_) AllReady.nil
    go_simp
    have N0 := Lib.hid (NewB.empty w.drew)
    have hS1 : (w.drew.alloc (.cells #[] 5)).cell? ⟨b, 2, none⟩ = some (.slice a s.pend.length c) := (N0.out.1.cell (p := ⟨b, 2, none⟩) HLT.out).trans c2
    refine hK _ _ ?_
    clear hK K
    try simp only [Act.put, List.setIfInBounds_toArray, List.set_cons_zero, List.set_cons_succ]
    refine wpAny_ready (rs := [8]) (by kernel_rfl) (by simp) ?_
    refine AllReady.cons (o := ⟨some 32, _, _, _, _, _⟩) rfl (fun K hK => ?_) AllReady.nil
    refine step_append_bytes rfl (.tmp 30) (.tmp 31) rfl (.slice (some ⟨w.drew.heap.size, 0, none⟩) 0 0) (.slice da s.size dc) l (by rfl) (by rfl) N0.out.2.1 (HV.out.alloc _) (by rw [List.length_nil, HL.out]; omega) ?_
    intro a5 c5 w5 hO5 hg5 ho5
    rw [show ([] : List UInt8).length + l.length = s.size from by rw [List.length_nil, HL.out]; omega] at hO5 ho5 ⊢
    have N1 := Lib.hid (N0.out.push hO5 hg5 ho5)
    have hS2 : w5.cell? ⟨b, 2, none⟩ = some (.slice a s.pend.length c) := (N1.out.1.cell (p := ⟨b, 2, none⟩) HLT.out).trans c2
    have hlt5 := Nat.lt_of_lt_of_le HLT.out N1.out.1.size
    clear hO5 hg5 ho5 hS1
    refine hK _ _ ?_
    clear hK K
    try simp only [Act.put, List.setIfInBounds_toArray, List.set_cons_zero, List.set_cons_succ]
    refine wpAny_take (i := 9) (oi := ⟨some 33, _, _, _, _, _⟩) (v := .agg #[.int .i64 (k : Int), .slice a5 s.size c5]) rfl (by kernel_rfl) (by kernel_rfl) (by kernel_rfl) (fun _ _ _ h => h) (Or.inl ⟨by rfl, fun w => by go_simp⟩) ?_
    try simp only [Act.put, List.setIfInBounds_toArray, List.set_cons_zero, List.set_cons_succ]
    refine wpAny_ready (rs := [10]) (by kernel_rfl) (by simp) ?_
    refine AllReady.cons (o := ⟨some 34, _, _, _, _, _⟩) rfl (fun K hK => ?_) AllReady.nil
    go_simp
    have N2 := Lib.hid (N1.out.alloc (.cells #[.int .i64 (k : Int), .slice a5 s.size c5] 70))
    refine hK _ _ ?_
    clear hK K
    try simp only [Act.put, List.setIfInBounds_toArray, List.set_cons_zero, List.set_cons_succ]
    refine wpAny_ready (rs := [11]) (by kernel_rfl) (by simp) ?_
    refine AllReady.cons (o := ⟨some 35, _, _, _, _, _⟩) rfl (fun K hK => ?_) AllReady.nil
    refine step_append_lies _ (by rfl) _ _ _ (by rfl) 0 70 i0 _ 2 32 Try.underlying39 hi0 hz0 hz1 hz2 rfl (by omega) (.slice a s.pend.length c) s.pend.length (pcells pvs) (by rfl) (HPD.out _ N2.out.1) ⟨w5.heap.size, 0, none⟩ 1 1 [.int .i64 (k : Int), .slice a5 s.size c5] (by rfl) (by rfl) (World.news_of_block (cs := #[.int .i64 (k : Int), .slice a5 s.size c5]) (t := 70) (fr := (0, 0)) (heap_alloc_new w5 _)) (by simp [Value.oneCell']) (by omega) (by unfold maxLen; omega) (by omega) (by omega) _ rfl ?_
    intro gg cap w6 hown2 hgrow hat hlt2
    have c6 : w6.cell? ⟨b, 2, none⟩ = some (.slice a s.pend.length c) := (hgrow.cell_far ⟨b, 2, none⟩ (Nat.lt_of_lt_of_le HLT.out N2.out.1.size) (Ne.symm HNE.out)).trans ((N2.out.1.cell (p := ⟨b, 2, none⟩) HLT.out).trans c2)
    have f6 : w6.frozen? ⟨b, 2, none⟩ = false := (hgrow.frozen_far ⟨b, 2, none⟩ (Nat.lt_of_lt_of_le HLT.out N2.out.1.size) (Ne.symm HNE.out)).trans ((N2.out.1.frozen (p := ⟨b, 2, none⟩) HLT.out).trans f2)
    have HX := Lib.hid (H.out.pushPend (k := k) ((Below.refl _ _).drew.trans N2.out.1) N2.out.2.1 N2.out.2.2.2 rfl hown2 hgrow (hat.imp id Eq.symm) hlt2)
    clear hown2 hgrow hat hlt2
    refine hK _ _ ?_
    clear hK K
    try simp only [Act.put, List.setIfInBounds_toArray, List.set_cons_zero, List.set_cons_succ]
    refine wpAny_take (i := 12) (oi := ⟨some 36, _, _, _, _, _⟩) (v := .pointer (some ⟨b, 0, none⟩)) rfl (by kernel_rfl) (by kernel_rfl) (by kernel_rfl) (fun _ _ _ h => h) (Or.inl ⟨by rfl, fun w => by go_simp⟩) ?_
    try simp only [Act.put, List.setIfInBounds_toArray, List.set_cons_zero, List.set_cons_succ]
    refine wpAny_take (i := 13) (oi := ⟨some 37, _, _, _, _, _⟩) (v := .pointer (some ⟨b, 2, none⟩)) rfl (by kernel_rfl) (by kernel_rfl) (by kernel_rfl) (fun _ _ _ h => h) (Or.inl ⟨by rfl, fun w => by go_simp⟩) ?_
    try simp only [Act.put, List.setIfInBounds_toArray, List.set_cons_zero, List.set_cons_succ]
    refine wpAny_ready (rs := [14]) (by kernel_rfl) (by simp) ?_
    refine AllReady.cons (o := ⟨none, _, _, _, _, _⟩) rfl (fun K hK => ?_) AllReady.nil
    go_simp
    refine hK _ _ ?_
    clear hK K
    try simp only [Act.put, List.setIfInBounds_toArray, List.set_cons_zero, List.set_cons_succ]
    refine wpAny_done (by kernel_rfl) ?_ _
    clear c6 f6
    rw [List.nil_append] at HX
    generalize w6.setCell ⟨b, 2, none⟩ (.slice (some ⟨gg, 0, none⟩) (s.pend.length + 1) cap) = w7 at *
    have c4' := HX.out.2.cells.cell (i := 4) rfl
    have c3' := HX.out.2.cells.cell (i := 3) rfl
    have f4' := HX.out.2.cells.free 4
    have f3' := HX.out.2.cells.free 3
    have VF := Lib.hid (rfails_any b left (s.push k l).down w7 (by rw [HLE.out]; exact OK.out.a1) (by rw [HLE.out]; exact OK.out.a2) c4' c3' f4' f3')
    obtain ⟨st8, left8, R8⟩ := HX.out.2.failed HD.out
    have R := Lib.hid (RefRep.onward HX.out.1 ⟨st8, R8.mono (fun _ hk => .inl hk) (Plus.inn HX.out.2.inn st8.size)⟩ H.out.inn)
    have OK3 := Lib.hid (DSt.step_ok (DSt.push_ok OK.out HK.out HL.out))
    clear st8 R8 c4' c3' f4' f3' c0 c1 c2 c3 f2 N0 N1 N2 HX
    by_cases ha : s.after = 0
    · have hl0 : decide (left = 0) = true := decide_eq_true (by rw [HLE.out]; exact ha)
      rw [hl0] at VF
      obtain rfl : r = 8 := by rw [HR.out, if_pos ha]
      clear ha hl0
      go_wp2_with (go_at_call 42; refine (VF.out).mono ?_; rintro e w' ⟨rfl, rfl⟩)
      go_ret
      exact ⟨rfl, R.out.1, OK3.out, _, _, _, _, _, R.out.2⟩
    · have hl0 : decide (left = 0) = false := decide_eq_false (by rw [HLE.out]; exact ha)
      rw [hl0] at VF
      obtain rfl : r = 0 := by rw [HR.out, if_neg ha]
      clear ha hl0
      go_wp2_with (go_at_call 42; refine (VF.out).mono ?_; rintro e w' ⟨rfl, rfl⟩)
      go_ret
      exact ⟨rfl, R.out.1, OK3.out, _, _, _, _, _, R.out.2⟩
  · go_simp
    have N0 := Lib.hid (NewB.empty w.drew)
    have hS1 : (w.drew.alloc (.cells #[] 5)).cell? ⟨b, 2, none⟩ = some (.slice a s.pend.length c) := (N0.out.1.cell (p := ⟨b, 2, none⟩) HLT.out).trans c2
    refine hK _ _ ?_
    clear hK K
    try simp only [Act.put, List.setIfInBounds_toArray, List.set_cons_zero, List.set_cons_succ]
    refine wpAny_ready (rs := [4, 8]) (by kernel_rfl) (by simp) ?_
    refine AllReady.cons (o := ⟨some 28, _, _, _, _, _⟩) rfl (fun K hK => ?_) (AllReady.cons (o := ⟨some 32, _, _, _, _, _⟩) rfl (fun K hK => ?_) AllReady.nil)
    · go_simp
      refine hK _ _ ?_
      clear hK K
      try simp only [Act.put, List.setIfInBounds_toArray, List.set_cons_zero, List.set_cons_succ]
      refine wpAny_ready (rs := [8]) (by kernel_rfl) (by simp) ?_
      refine AllReady.cons (o := ⟨some 32, _, _, _, _, _⟩) rfl (fun K hK => ?_) AllReady.nil
      refine step_append_bytes rfl (.tmp 30) (.tmp 31) rfl (.slice (some ⟨w.drew.heap.size, 0, none⟩) 0 0) (.slice da s.size dc) l (by rfl) (by rfl) N0.out.2.1 (HV.out.alloc _) (by rw [List.length_nil, HL.out]; omega) ?_
      intro a5 c5 w5 hO5 hg5 ho5
      rw [show ([] : List UInt8).length + l.length = s.size from by rw [List.length_nil, HL.out]; omega] at hO5 ho5 ⊢
      have N1 := Lib.hid (N0.out.push hO5 hg5 ho5)
      have hS2 : w5.cell? ⟨b, 2, none⟩ = some (.slice a s.pend.length c) := (N1.out.1.cell (p := ⟨b, 2, none⟩) HLT.out).trans c2
      have hlt5 := Nat.lt_of_lt_of_le HLT.out N1.out.1.size
      clear hO5 hg5 ho5 hS1
      refine hK _ _ ?_
      clear hK K
      try simp only [Act.put, List.setIfInBounds_toArray, List.set_cons_zero, List.set_cons_succ]
      refine wpAny_take (i := 9) (oi := ⟨some 33, _, _, _, _, _⟩) (v := .agg #[.int .i64 (k : Int), .slice a5 s.size c5]) rfl (by kernel_rfl) (by kernel_rfl) (by kernel_rfl) (fun _ _ _ h => h) (Or.inl ⟨by rfl, fun w => by go_simp⟩) ?_
      try simp only [Act.put, List.setIfInBounds_toArray, List.set_cons_zero, List.set_cons_succ]
      refine wpAny_ready (rs := [10]) (by kernel_rfl) (by simp) ?_
      refine AllReady.cons (o := ⟨some 34, _, _, _, _, _⟩) rfl (fun K hK => ?_) AllReady.nil
      go_simp
      have N2 := Lib.hid (N1.out.alloc (.cells #[.int .i64 (k : Int), .slice a5 s.size c5] 70))
      refine hK _ _ ?_
      clear hK K
      try simp only [Act.put, List.setIfInBounds_toArray, List.set_cons_zero, List.set_cons_succ]
      refine wpAny_ready (rs := [11]) (by kernel_rfl) (by simp) ?_
      refine AllReady.cons (o := ⟨some 35, _, _, _, _, _⟩) rfl (fun K hK => ?_) AllReady.nil
      refine step_append_lies _ (by rfl) _ _ _ (by rfl) 0 70 i0 _ 2 32 Try.underlying39 hi0 hz0 hz1 hz2 rfl (by omega) (.slice a s.pend.length c) s.pend.length (pcells pvs) (by rfl) (HPD.out _ N2.out.1) ⟨w5.heap.size, 0, none⟩ 1 1 [.int .i64 (k : Int), .slice a5 s.size c5] (by rfl) (by rfl) (World.news_of_block (cs := #[.int .i64 (k : Int), .slice a5 s.size c5]) (t := 70) (fr := (0, 0)) (heap_alloc_new w5 _)) (by simp [Value.oneCell']) (by omega) (by unfold maxLen; omega) (by omega) (by omega) _ rfl ?_
      intro gg cap w6 hown2 hgrow hat hlt2
      have c6 : w6.cell? ⟨b, 2, none⟩ = some (.slice a s.pend.length c) := (hgrow.cell_far ⟨b, 2, none⟩ (Nat.lt_of_lt_of_le HLT.out N2.out.1.size) (Ne.symm HNE.out)).trans ((N2.out.1.cell (p := ⟨b, 2, none⟩) HLT.out).trans c2)
      have f6 : w6.frozen? ⟨b, 2, none⟩ = false := (hgrow.frozen_far ⟨b, 2, none⟩ (Nat.lt_of_lt_of_le HLT.out N2.out.1.size) (Ne.symm HNE.out)).trans ((N2.out.1.frozen (p := ⟨b, 2, none⟩) HLT.out).trans f2)
      have HX := Lib.hid (H.out.pushPend (k := k) ((Below.refl _ _).drew.trans N2.out.1) N2.out.2.1 N2.out.2.2.2 rfl hown2 hgrow (hat.imp id Eq.symm) hlt2)
      clear hown2 hgrow hat hlt2
      refine hK _ _ ?_
      clear hK K
      try simp only [Act.put, List.setIfInBounds_toArray, List.set_cons_zero, List.set_cons_succ]
      refine wpAny_take (i := 12) (oi := ⟨some 36, _, _, _, _, _⟩) (v := .pointer (some ⟨b, 0, none⟩)) rfl (by kernel_rfl) (by kernel_rfl) (by kernel_rfl) (fun _ _ _ h => h) (Or.inl ⟨by rfl, fun w => by go_simp⟩) ?_
      try simp only [Act.put, List.setIfInBounds_toArray, List.set_cons_zero, List.set_cons_succ]
      refine wpAny_take (i := 13) (oi := ⟨some 37, _, _, _, _, _⟩) (v := .pointer (some ⟨b, 2, none⟩)) rfl (by kernel_rfl) (by kernel_rfl) (by kernel_rfl) (fun _ _ _ h => h) (Or.inl ⟨by rfl, fun w => by go_simp⟩) ?_
      try simp only [Act.put, List.setIfInBounds_toArray, List.set_cons_zero, List.set_cons_succ]
      refine wpAny_ready (rs := [14]) (by kernel_rfl) (by simp) ?_
      refine AllReady.cons (o := ⟨none, _, _, _, _, _⟩) rfl (fun K hK => ?_) AllReady.nil
      go_simp
      refine hK _ _ ?_
      clear hK K
      try simp only [Act.put, List.setIfInBounds_toArray, List.set_cons_zero, List.set_cons_succ]
      refine wpAny_done (by kernel_rfl) ?_ _
      clear c6 f6
      rw [List.nil_append] at HX
      generalize w6.setCell ⟨b, 2, none⟩ (.slice (some ⟨gg, 0, none⟩) (s.pend.length + 1) cap) = w7 at *
      have c4' := HX.out.2.cells.cell (i := 4) rfl
      have c3' := HX.out.2.cells.cell (i := 3) rfl
      have f4' := HX.out.2.cells.free 4
      have f3' := HX.out.2.cells.free 3
      have VF := Lib.hid (rfails_any b left (s.push k l).down w7 (by rw [HLE.out]; exact OK.out.a1) (by rw [HLE.out]; exact OK.out.a2) c4' c3' f4' f3')
      obtain ⟨st8, left8, R8⟩ := HX.out.2.failed HD.out
      have R := Lib.hid (RefRep.onward HX.out.1 ⟨st8, R8.mono (fun _ hk => .inl hk) (Plus.inn HX.out.2.inn st8.size)⟩ H.out.inn)
      have OK3 := Lib.hid (DSt.step_ok (DSt.push_ok OK.out HK.out HL.out))
      clear st8 R8 c4' c3' f4' f3' c0 c1 c2 c3 f2 N0 N1 N2 HX
      by_cases ha : s.after = 0
      · have hl0 : decide (left = 0) = true := decide_eq_true (by rw [HLE.out]; exact ha)
        rw [hl0] at VF
        obtain rfl : r = 8 := by rw [HR.out, if_pos ha]
        clear ha hl0
        go_wp2_with (go_at_call 42; refine (VF.out).mono ?_; rintro e w' ⟨rfl, rfl⟩)
        go_ret
        exact ⟨rfl, R.out.1, OK3.out, _, _, _, _, _, R.out.2⟩
      · have hl0 : decide (left = 0) = false := decide_eq_false (by rw [HLE.out]; exact ha)
        rw [hl0] at VF
        obtain rfl : r = 0 := by rw [HR.out, if_neg ha]
        clear ha hl0
        go_wp2_with (go_at_call 42; refine (VF.out).mono ?_; rintro e w' ⟨rfl, rfl⟩)
        go_ret
        exact ⟨rfl, R.out.1, OK3.out, _, _, _, _, _, R.out.2⟩
    · refine step_append_bytes rfl (.tmp 30) (.tmp 31) rfl (.slice (some ⟨w.drew.heap.size, 0, none⟩) 0 0) (.slice da s.size dc) l (by rfl) (by rfl) N0.out.2.1 (HV.out.alloc _) (by rw [List.length_nil, HL.out]; omega) ?_
      intro a5 c5 w5 hO5 hg5 ho5
      rw [show ([] : List UInt8).length + l.length = s.size from by rw [List.length_nil, HL.out]; omega] at hO5 ho5 ⊢
      have N1 := Lib.hid (N0.out.push hO5 hg5 ho5)
      have hS2 : w5.cell? ⟨b, 2, none⟩ = some (.slice a s.pend.length c) := (N1.out.1.cell (p := ⟨b, 2, none⟩) HLT.out).trans c2
      have hlt5 := Nat.lt_of_lt_of_le HLT.out N1.out.1.size
      clear hO5 hg5 ho5 hS1
      refine hK _ _ ?_
      clear hK K
      try simp only [Act.put, List.setIfInBounds_toArray, List.set_cons_zero, List.set_cons_succ]
      refine wpAny_take (i := 9) (oi := ⟨some 33, _, _, _, _, _⟩) (v := .agg #[.int .i64 (k : Int), .slice a5 s.size c5]) rfl (by kernel_rfl) (by kernel_rfl) (by kernel_rfl) (fun _ _ _ h => h) (Or.inl ⟨by rfl, fun w => by go_simp⟩) ?_
      try simp only [Act.put, List.setIfInBounds_toArray, List.set_cons_zero, List.set_cons_succ]
      refine wpAny_ready (rs := [4, 10]) (by kernel_rfl) (by simp) ?_
      refine AllReady.cons (o := ⟨some 28, _, _, _, _, _⟩) rfl (fun K hK => ?_) (AllReady.cons (o := ⟨some 34, _, _, _, _, _⟩) rfl (fun K hK => ?_) AllReady.nil)
      · go_simp
        refine hK _ _ ?_
        clear hK K
        try simp only [Act.put, List.setIfInBounds_toArray, List.set_cons_zero, List.set_cons_succ]
        refine wpAny_ready (rs := [10]) (by kernel_rfl) (by simp) ?_
        refine AllReady.cons (o := ⟨some 34, _, _, _, _, _⟩) rfl (fun K hK => ?_) AllReady.nil
        go_simp
        have N2 := Lib.hid (N1.out.alloc (.cells #[.int .i64 (k : Int), .slice a5 s.size c5] 70))
        refine hK _ _ ?_
        clear hK K
        try simp only [Act.put, List.setIfInBounds_toArray, List.set_cons_zero, List.set_cons_succ]
        refine wpAny_ready (rs := [11]) (by kernel_rfl) (by simp) ?_
        refine AllReady.cons (o := ⟨some 35, _, _, _, _, _⟩) rfl (fun K hK => ?_) AllReady.nil
        refine step_append_lies _ (by rfl) _ _ _ (by rfl) 0 70 i0 _ 2 32 Try.underlying39 hi0 hz0 hz1 hz2 rfl (by omega) (.slice a s.pend.length c) s.pend.length (pcells pvs) (by rfl) (HPD.out _ N2.out.1) ⟨w5.heap.size, 0, none⟩ 1 1 [.int .i64 (k : Int), .slice a5 s.size c5] (by rfl) (by rfl) (World.news_of_block (cs := #[.int .i64 (k : Int), .slice a5 s.size c5]) (t := 70) (fr := (0, 0)) (heap_alloc_new w5 _)) (by simp [Value.oneCell']) (by omega) (by unfold maxLen; omega) (by omega) (by omega) _ rfl ?_
        intro gg cap w6 hown2 hgrow hat hlt2
        have c6 : w6.cell? ⟨b, 2, none⟩ = some (.slice a s.pend.length c) := (hgrow.cell_far ⟨b, 2, none⟩ (Nat.lt_of_lt_of_le HLT.out N2.out.1.size) (Ne.symm HNE.out)).trans ((N2.out.1.cell (p := ⟨b, 2, none⟩) HLT.out).trans c2)
        have f6 : w6.frozen? ⟨b, 2, none⟩ = false := (hgrow.frozen_far ⟨b, 2, none⟩ (Nat.lt_of_lt_of_le HLT.out N2.out.1.size) (Ne.symm HNE.out)).trans ((N2.out.1.frozen (p := ⟨b, 2, none⟩) HLT.out).trans f2)
        have HX := Lib.hid (H.out.pushPend (k := k) ((Below.refl _ _).drew.trans N2.out.1) N2.out.2.1 N2.out.2.2.2 rfl hown2 hgrow (hat.imp id Eq.symm) hlt2)
        clear hown2 hgrow hat hlt2
        refine hK _ _ ?_
        clear hK K
        try simp only [Act.put, List.setIfInBounds_toArray, List.set_cons_zero, List.set_cons_succ]
        refine wpAny_take (i := 12) (oi := ⟨some 36, _, _, _, _, _⟩) (v := .pointer (some ⟨b, 0, none⟩)) rfl (by kernel_rfl) (by kernel_rfl) (by kernel_rfl) (fun _ _ _ h => h) (Or.inl ⟨by rfl, fun w => by go_simp⟩) ?_
        try simp only [Act.put, List.setIfInBounds_toArray, List.set_cons_zero, List.set_cons_succ]
        refine wpAny_take (i := 13) (oi := ⟨some 37, _, _, _, _, _⟩) (v := .pointer (some ⟨b, 2, none⟩)) rfl (by kernel_rfl) (by kernel_rfl) (by kernel_rfl) (fun _ _ _ h => h) (Or.inl ⟨by rfl, fun w => by go_simp⟩) ?_
        try simp only [Act.put, List.setIfInBounds_toArray, List.set_cons_zero, List.set_cons_succ]
        refine wpAny_ready (rs := [14]) (by kernel_rfl) (by simp) ?_
        refine AllReady.cons (o := ⟨none, _, _, _, _, _⟩) rfl (fun K hK => ?_) AllReady.nil
        go_simp
        refine hK _ _ ?_
        clear hK K
        try simp only [Act.put, List.setIfInBounds_toArray, List.set_cons_zero, List.set_cons_succ]
        refine wpAny_done (by kernel_rfl) ?_ _
        clear c6 f6
        rw [List.nil_append] at HX
        generalize w6.setCell ⟨b, 2, none⟩ (.slice (some ⟨gg, 0, none⟩) (s.pend.length + 1) cap) = w7 at *
        have c4' := HX.out.2.cells.cell (i := 4) rfl
        have c3' := HX.out.2.cells.cell (i := 3) rfl
        have f4' := HX.out.2.cells.free 4
        have f3' := HX.out.2.cells.free 3
        have VF := Lib.hid (rfails_any b left (s.push k l).down w7 (by rw [HLE.out]; exact OK.out.a1) (by rw [HLE.out]; exact OK.out.a2) c4' c3' f4' f3')
        obtain ⟨st8, left8, R8⟩ := HX.out.2.failed HD.out
        have R := Lib.hid (RefRep.onward HX.out.1 ⟨st8, R8.mono (fun _ hk => .inl hk) (Plus.inn HX.out.2.inn st8.size)⟩ H.out.inn)
        have OK3 := Lib.hid (DSt.step_ok (DSt.push_ok OK.out HK.out HL.out))
        clear st8 R8 c4' c3' f4' f3' c0 c1 c2 c3 f2 N0 N1 N2 HX
        by_cases ha : s.after = 0
        · have hl0 : decide (left = 0) = true := decide_eq_true (by rw [HLE.out]; exact ha)
          rw [hl0] at VF
          obtain rfl : r = 8 := by rw [HR.out, if_pos ha]
          clear ha hl0
          go_wp2_with (go_at_call 42; refine (VF.out).mono ?_; rintro e w' ⟨rfl, rfl⟩)
          go_ret
          exact ⟨rfl, R.out.1, OK3.out, _, _, _, _, _, R.out.2⟩
        · have hl0 : decide (left = 0) = false := decide_eq_false (by rw [HLE.out]; exact ha)
          rw [hl0] at VF
          obtain rfl : r = 0 := by rw [HR.out, if_neg ha]
          clear ha hl0
          go_wp2_with (go_at_call 42; refine (VF.out).mono ?_; rintro e w' ⟨rfl, rfl⟩)
          go_ret
          exact ⟨rfl, R.out.1, OK3.out, _, _, _, _, _, R.out.2⟩
      · go_simp
        have N2 := Lib.hid (N1.out.alloc (.cells #[.int .i64 (k : Int), .slice a5 s.size c5] 70))
        refine hK _ _ ?_
        clear hK K
        try simp only [Act.put, List.setIfInBounds_toArray, List.set_cons_zero, List.set_cons_succ]
        refine wpAny_ready (rs := [4]) (by kernel_rfl) (by simp) ?_
        refine AllReady.cons (o := ⟨some 28, _, _, _, _, _⟩) rfl (fun K hK => ?_) AllReady.nil
        go_simp
        refine hK _ _ ?_
        clear hK K
        try simp only [Act.put, List.setIfInBounds_toArray, List.set_cons_zero, List.set_cons_succ]
        refine wpAny_ready (rs := [11]) (by kernel_rfl) (by simp) ?_
        refine AllReady.cons (o := ⟨some 35, _, _, _, _, _⟩) rfl (fun K hK => ?_) AllReady.nil
        refine step_append_lies _ (by rfl) _ _ _ (by rfl) 0 70 i0 _ 2 32 Try.underlying39 hi0 hz0 hz1 hz2 rfl (by omega) (.slice a s.pend.length c) s.pend.length (pcells pvs) (by rfl) (HPD.out _ N2.out.1) ⟨w5.heap.size, 0, none⟩ 1 1 [.int .i64 (k : Int), .slice a5 s.size c5] (by rfl) (by rfl) (World.news_of_block (cs := #[.int .i64 (k : Int), .slice a5 s.size c5]) (t := 70) (fr := (0, 0)) (heap_alloc_new w5 _)) (by simp [Value.oneCell']) (by omega) (by unfold maxLen; omega) (by omega) (by omega) _ rfl ?_
        intro gg cap w6 hown2 hgrow hat hlt2
        have c6 : w6.cell? ⟨b, 2, none⟩ = some (.slice a s.pend.length c) := (hgrow.cell_far ⟨b, 2, none⟩ (Nat.lt_of_lt_of_le HLT.out N2.out.1.size) (Ne.symm HNE.out)).trans ((N2.out.1.cell (p := ⟨b, 2, none⟩) HLT.out).trans c2)
        have f6 : w6.frozen? ⟨b, 2, none⟩ = false := (hgrow.frozen_far ⟨b, 2, none⟩ (Nat.lt_of_lt_of_le HLT.out N2.out.1.size) (Ne.symm HNE.out)).trans ((N2.out.1.frozen (p := ⟨b, 2, none⟩) HLT.out).trans f2)
        have HX := Lib.hid (H.out.pushPend (k := k) ((Below.refl _ _).drew.trans N2.out.1) N2.out.2.1 N2.out.2.2.2 rfl hown2 hgrow (hat.imp id Eq.symm) hlt2)
        clear hown2 hgrow hat hlt2
        refine hK _ _ ?_
        clear hK K
        try simp only [Act.put, List.setIfInBounds_toArray, List.set_cons_zero, List.set_cons_succ]
        refine wpAny_take (i := 12) (oi := ⟨some 36, _, _, _, _, _⟩) (v := .pointer (some ⟨b, 0, none⟩)) rfl (by kernel_rfl) (by kernel_rfl) (by kernel_rfl) (fun _ _ _ h => h) (Or.inl ⟨by rfl, fun w => by go_simp⟩) ?_
        try simp only [Act.put, List.setIfInBounds_toArray, List.set_cons_zero, List.set_cons_succ]
        refine wpAny_take (i := 13) (oi := ⟨some 37, _, _, _, _, _⟩) (v := .pointer (some ⟨b, 2, none⟩)) rfl (by kernel_rfl) (by kernel_rfl) (by kernel_rfl) (fun _ _ _ h => h) (Or.inl ⟨by rfl, fun w => by go_simp⟩) ?_
        try simp only [Act.put, List.setIfInBounds_toArray, List.set_cons_zero, List.set_cons_succ]
        refine wpAny_ready (rs := [14]) (by kernel_rfl) (by simp) ?_
        refine AllReady.cons (o := ⟨none, _, _, _, _, _⟩) rfl (fun K hK => ?_) AllReady.nil
        go_simp
        refine hK _ _ ?_
        clear hK K
        try simp only [Act.put, List.setIfInBounds_toArray, List.set_cons_zero, List.set_cons_succ]
        refine wpAny_done (by kernel_rfl) ?_ _
        clear c6 f6
        rw [List.nil_append] at HX
        generalize w6.setCell ⟨b, 2, none⟩ (.slice (some ⟨gg, 0, none⟩) (s.pend.length + 1) cap) = w7 at *
        have c4' := HX.out.2.cells.cell (i := 4) rfl
        have c3' := HX.out.2.cells.cell (i := 3) rfl
        have f4' := HX.out.2.cells.free 4
        have f3' := HX.out.2.cells.free 3
        have VF := Lib.hid (rfails_any b left (s.push k l).down w7 (by rw [HLE.out]; exact OK.out.a1) (by rw [HLE.out]; exact OK.out.a2) c4' c3' f4' f3')
        obtain ⟨st8, left8, R8⟩ := HX.out.2.failed HD.out
        have R := Lib.hid (RefRep.onward HX.out.1 ⟨st8, R8.mono (fun _ hk => .inl hk) (Plus.inn HX.out.2.inn st8.size)⟩ H.out.inn)
        have OK3 := Lib.hid (DSt.step_ok (DSt.push_ok OK.out HK.out HL.out))
        clear st8 R8 c4' c3' f4' f3' c0 c1 c2 c3 f2 N0 N1 N2 HX
        by_cases ha : s.after = 0
        · have hl0 : decide (left = 0) = true := decide_eq_true (by rw [HLE.out]; exact ha)
          rw [hl0] at VF
          obtain rfl : r = 8 := by rw [HR.out, if_pos ha]
          clear ha hl0
          go_wp2_with (go_at_call 42; refine (VF.out).mono ?_; rintro e w' ⟨rfl, rfl⟩)
          go_ret
          exact ⟨rfl, R.out.1, OK3.out, _, _, _, _, _, R.out.2⟩
        · have hl0 : decide (left = 0) = false := decide_eq_false (by rw [HLE.out]; exact ha)
          rw [hl0] at VF
          obtain rfl : r = 0 := by rw [HR.out, if_neg ha]
          clear ha hl0
          go_wp2_with (go_at_call 42; refine (VF.out).mono ?_; rintro e w' ⟨rfl, rfl⟩)
          go_ret
          exact ⟨rfl, R.out.1, OK3.out, _, _, _, _, _, R.out.2⟩
end
end Go.Proofs.Ytibojbbhffoldaa
