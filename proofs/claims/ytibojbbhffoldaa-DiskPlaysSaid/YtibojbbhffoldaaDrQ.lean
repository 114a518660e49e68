/- Contract of the reference's 'put'. -/
import Derived.Test.YtibojbbhffoldaaDrP
import Derived.StillTailTactics
import Derived.Laws.Slices
import Derived.Deep.RegionHeld3
import Derived.Deep.RegionLaw
import Derived.Deep.DrawnRows
namespace Go.Proofs.Ytibojbbhffoldaa
open Go.RowKit Go.Maps
set_option linter.unusedSimpArgs false
theorem BV.take {w : World} {F : Nat → Prop} {a : Option Addr} {c n k : Nat} {l : List UInt8} (h : BV w F (.slice a n c) l) (hk : k ≤ n) : BV w F (.slice a k c) (l.take k) := by
  obtain ⟨a', c', e, h1, h2, h3, h4⟩ := h
  injection e with e1 e2 e3
  subst e1; subst e3
  have hl : (l.take k).length = k := by simp; omega
  refine ⟨a, c, by rw [hl], by omega, by omega, h3, fun hp => ?_⟩
  obtain ⟨b, o, e, hb, hc⟩ := h4 (by omega)
  exact ⟨b, o, e, hb, fun i hi => by rw [hc i (by omega)]; simp⟩
theorem BV.drop {w : World} {F : Nat → Prop} {b o c k : Nat} {l : List UInt8} {n : Nat} (h : BV w F (.slice (some ⟨b, o, none⟩) n c) l) (hn : l.length = n) (hk : k ≤ n) : BV w F (.slice (if c = k then some ⟨b, o, none⟩ else some ⟨b, o + k, none⟩) (n - k) (c - k)) (l.drop k) := by
  subst hn
  obtain ⟨a, c', e, h1, h2, h3, h4⟩ := h
  injection e with e1 e2 e3
  subst e1; subst e3
  refine ⟨(if c = k then some ⟨b, o, none⟩ else some ⟨b, o + k, none⟩), c - k, by simp, by simp; omega, by omega, (fun e => by split at e <;> cases e), fun hp => ?_⟩
  simp at hp
  rw [if_neg (by omega)]
  obtain ⟨b', o', e, hb, hc⟩ := h4 (by omega)
  injection e with e
  injection e with e1 e2 e3
  subst e1; subst e2
  refine ⟨b, o + k, rfl, hb, fun i hi => ?_⟩
  simp at hi
  have := hc (k + i) (by omega)
  rw [show o + k + i = o + (k + i) from by omega, this]
  simp
theorem BV.some_of {w : World} {F : Nat → Prop} {a : Option Addr} {c n : Nat} {l : List UInt8} (h : BV w F (.slice a n c) l) (hl : 0 < l.length) : ∃ b o, a = some ⟨b, o, none⟩ := by
  obtain ⟨a', c', e, _, _, _, h4⟩ := h
  injection e with e1 e2 e3
  obtain ⟨b, o, e4, _⟩ := h4 hl
  exact ⟨b, o, e1.trans e4⟩
abbrev PutS (b B : Nat) (dv kv pv : Value) (w' : World) : Prop := w'.cell? ⟨b, 1, none⟩ = some dv ∧ w'.cell? ⟨B, 0, none⟩ = some kv ∧ w'.cell? ⟨B, 1, none⟩ = some pv
theorem PutS.next {w w2 : World} {b B g : Nat} {dv kv pv : Value} (hl : b < w.heap.size ∧ B < w.heap.size ∧ g < w.heap.size) (h : PutS b B dv kv pv w) (h2 : Below w.heap.size w w2) : PutS b B dv kv pv w2 :=
  ⟨(h2.cell (p := ⟨b, 1, none⟩) hl.1).trans h.1, (h2.cell (p := ⟨B, 0, none⟩) hl.2.1).trans h.2.1, (h2.cell (p := ⟨B, 1, none⟩) hl.2.1).trans h.2.2⟩
theorem cell_set_other (w : World) (a c : Addr) (v : Value) (h : c.block ≠ a.block) : (w.setCell a v).cell? c = w.cell? c := World.cell?_of_block (w := w) (heap_setCell_other w a c.block v h)
theorem PutS.store {w : World} {b B g k : Nat} {dv kv pv v : Value} (hl : b ≠ g ∧ B ≠ g) (h : PutS b B dv kv pv w) : PutS b B dv kv pv (w.setCell ⟨g, k, none⟩ v) :=
  ⟨(cell_set_other _ _ _ _ hl.1).trans h.1, (cell_set_other _ _ _ _ hl.2).trans h.2.1, (cell_set_other _ _ _ _ hl.2).trans h.2.2⟩
section
variable {w w' : World} {s : DSt} {b : Nat} {F G : Nat → Prop} {dv lv v : Value} {dvs : List Value} {pvs : List (Nat × Value)} {left : Int} {l : List UInt8}
set_option maxRecDepth 100000 in
set_option maxHeartbeats 2000000 in
theorem rput_any (h : RefRep w s b F dv dvs lv pvs left) (ok : s.Ok) (k : Nat) (hk : k < s.dur.length) (pv : Value) (hv : BV w G pv l) (hl : l.length = s.size) (n : Nat) (hn : n ≤ s.size) :
    Calls Try.prog 43 #[.pointer (some ⟨b, 0, none⟩), .agg #[.int .i64 (k : Int), pv], .int .i64 (n : Int)] w fun e w' => e = .returned (.tuple #[]) ∧ Stp F w w' ∧ ∃ dvs', RefRep w' { s with dur := s.dur.set k (DSt.torn n l (s.dur.getD k [])) } b (Plus F w w') dv dvs' lv pvs left := by
  obtain ⟨pa, pc, rfl, pc1, pc2, -⟩ := id hv.get
  unfold maxLen at pc2
  rw [hl] at hv pc1 ⊢
  have hs1 := ok.size1
  have hs2 := ok.size2
  have hn2 := ok.n2
  obtain ⟨pb, po, rfl⟩ := hv.some_of (by omega)
  obtain ⟨gd, dc, rfl⟩ := h.dvAt (by omega)
  have hx : k < dvs.length := by rw [h.dur.1]; exact hk
  obtain ⟨old, hold⟩ : ∃ v, dvs[k]? = some v := ⟨_, List.getElem?_eq_getElem hx⟩
  obtain ⟨ol, hol, hro⟩ := h.dur.get' hold
  have hoL := ok.dur ol (List.mem_of_getElem? hol)
  have hgD : s.dur.getD k [] = ol := by simp [List.getD, hol]
  rw [hgD]
  obtain ⟨og, oc, rfl, oc1, oc2, -⟩ := hro.1.cells (by omega)
  rw [hoL] at hold hro oc1
  unfold maxLen at oc2
  have hb1 := (Below.refl w.heap.size w).alloc (Nat.le_refl _) (.cells #[.int .i64 (k : Int), .slice (some ⟨pb, po, none⟩) s.size pc] 70)
  have hbk := Blk.new w [.int .i64 (k : Int), .slice (some ⟨pb, po, none⟩) s.size pc] 70
  have H := Lib.hid (h.plus.later hb1)
  have hl1 := H.out.cells.lt
  have HV := Lib.hid (hv.grow hb1)
  have HRO := Lib.hid (hro.same (fun x hx => hb1.block x (h.inn x hx)))
  have HB1 := Lib.hid hb1
  have HI := Lib.hid h.inn
  have HHD := Lib.hid hold
  have HBK := Lib.hid hbk
  have HBN := Lib.hid (show w.heap.size ≠ gd by have := h.inn gd (h.Fdv gd rfl); omega)
  have HNB := Lib.hid (show b ≠ gd from fun e => h.dv_ne_b (e ▸ rfl))
  clear h hbk hb1 hv hro ok hold hx
  go_enter Try.func43, Try.ntmps43
  go_wp2_with fail
  generalize w.alloc (.cells #[.int .i64 (k : Int), .slice (some ⟨pb, po, none⟩) s.size pc] 70) = w3 at *
  obtain ⟨B, hB⟩ : ∃ B, w.heap.size = B := ⟨_, rfl⟩
  rw [hB] at HBK HBN ⊢
  have HBeq := Lib.hid hB
  have c1 := H.out.cells.cell (i := 1) rfl
  have p0 := HBK.out.cell (i := 0) rfl
  have p1 := HBK.out.cell (i := 1) rfl
  have d3 : w3.cell? ⟨gd, k, none⟩ = some (.slice (some ⟨og, 0, none⟩) s.size oc) := (H.out.durs.cellAt k (by omega)).trans HHD.out
  clear hB
  go_still_tail 8, (by kernel_rfl)
  go_wp2_with fail
  have H4 := Lib.hid (H.out.later (Below.refl _ _).drew)
  have HBK4 : Hid (Blk w3.drew B [.int .i64 (k : Int), .slice (some ⟨pb, po, none⟩) s.size pc] 70) := HBK
  have HB4 : Hid (Below w.heap.size w w3.drew) := Lib.hid HB1.out.drew
  have HV4 : Hid (BV w3.drew G (.slice (some ⟨pb, po, none⟩) s.size pc) l) := HV
  have HRO4 : Hid (OwnF w3.drew F (.slice (some ⟨og, 0, none⟩) s.size oc) ol) := HRO
  have d4 : w3.drew.cell? ⟨gd, k, none⟩ = some (.slice (some ⟨og, 0, none⟩) s.size oc) := d3
  clear H HBK HB1 HV HRO c1 p0 p1 d3 hl1
  change Code.wp _ _ _ _ (World.drew w3)
  generalize w3.drew = w3 at *
  have H := H4
  have HBK := HBK4
  have HB1 := HB4
  have HV := HV4
  have HRO := HRO4
  have d3 := d4
  have c1 := H.out.cells.cell (i := 1) rfl
  have p0 := HBK.out.cell (i := 0) rfl
  have p1 := HBK.out.cell (i := 1) rfl
  clear H4 HBK4 HB4 HV4 HRO4 d4
  have hnp : ¬ pc < n := by omega
  have f3 := H.out.durs.frozenAt k
  have HS : Hid (PutS b B (.slice (some ⟨gd, 0, none⟩) s.dur.length dc) (.int .i64 (k : Int)) (.slice (some ⟨pb, po, none⟩) s.size pc) w3.drew) := Lib.hid ⟨c1, p0, p1⟩
  have HLT : Hid (b < w3.drew.heap.size ∧ B < w3.drew.heap.size ∧ gd < w3.drew.heap.size) := Lib.hid ⟨H.out.cells.lt, HBK.out.lt, H.out.inn gd (H.out.Fdv gd rfl)⟩
  have HNE : Hid (b ≠ gd ∧ B ≠ gd) := Lib.hid ⟨HNB.out, HBN.out⟩
  have HT : Hid (BV w3.drew G (.slice (some ⟨pb, po, none⟩) n pc) (l.take n)) := Lib.hid (HV.out.take (by omega))
  have HTL : Hid ((l.take n).length = n) := Lib.hid (by rw [List.length_take, hl]; omega)
  have HDL : Hid ((ol.drop n).length = s.size - n) := Lib.hid (by rw [List.length_drop, hoL])
  have HTO : Hid (([] ++ l.take n) ++ ol.drop n = DSt.torn n l ol) := Lib.hid (by simp [DSt.torn])
  by_cases hc : n = oc
  · subst hc
    have HD : Hid (BV w3.drew F (.slice (some ⟨og, 0, none⟩) 0 0) (ol.drop n)) := Lib.hid (by have := HRO.out.bv.drop hoL hn; rw [if_pos rfl, Nat.sub_self, show s.size - n = 0 from by omega] at this; exact this.mono (fun _ h => h))
    refine wp_region_held_drew (S := (PutS b B (.slice (some ⟨gd, 0, none⟩) s.dur.length dc) (.int .i64 (k : Int)) (.slice (some ⟨pb, po, none⟩) s.size pc))) (by kernel_rfl) HS.out (fun hS => ?_)
    refine wpAnyH_take (i := 0) (oi := ⟨some 15, _, _, _, _, _⟩) (v := .pointer (some ⟨b, 0, none⟩)) rfl (by kernel_rfl) (by kernel_rfl) (by kernel_rfl) (fun _ _ _ h => h) (Or.inl ⟨by rfl, fun w hSw => by obtain ⟨s1, s2, s3⟩ := hSw; go_simp⟩) hS ?_
    try simp only [Act.put, List.setIfInBounds_toArray, List.set_cons_zero, List.set_cons_succ]
    refine wpAnyH_take (i := 1) (oi := ⟨some 16, _, _, _, _, _⟩) (v := .pointer (some ⟨b, 0, none⟩)) rfl (by kernel_rfl) (by kernel_rfl) (by kernel_rfl) (fun _ _ _ h => h) (Or.inl ⟨by rfl, fun w hSw => by obtain ⟨s1, s2, s3⟩ := hSw; go_simp⟩) hS ?_
    try simp only [Act.put, List.setIfInBounds_toArray, List.set_cons_zero, List.set_cons_succ]
    refine wpAnyH_take (i := 2) (oi := ⟨some 17, _, _, _, _, _⟩) (v := .pointer (some ⟨b, 1, none⟩)) rfl (by kernel_rfl) (by kernel_rfl) (by kernel_rfl) (fun _ _ _ h => h) (Or.inl ⟨by rfl, fun w hSw => by obtain ⟨s1, s2, s3⟩ := hSw; go_simp⟩) hS ?_
    try simp only [Act.put, List.setIfInBounds_toArray, List.set_cons_zero, List.set_cons_succ]
    refine wpAnyH_take (i := 3) (oi := ⟨some 18, _, _, _, _, _⟩) (v := .slice (some ⟨gd, 0, none⟩) s.dur.length dc) rfl (by kernel_rfl) (by kernel_rfl) (by kernel_rfl) (fun _ _ _ h => h) (Or.inl ⟨by rfl, fun w hSw => by obtain ⟨s1, s2, s3⟩ := hSw; go_simp⟩) hS ?_
    try simp only [Act.put, List.setIfInBounds_toArray, List.set_cons_zero, List.set_cons_succ]
    refine wpAnyH_take (i := 4) (oi := ⟨some 19, _, _, _, _, _⟩) (v := .pointer (some ⟨B, 0, none⟩)) rfl (by kernel_rfl) (by kernel_rfl) (by kernel_rfl) (fun _ _ _ h => h) (Or.inl ⟨by rfl, fun w hSw => by obtain ⟨s1, s2, s3⟩ := hSw; go_simp⟩) hS ?_
    try simp only [Act.put, List.setIfInBounds_toArray, List.set_cons_zero, List.set_cons_succ]
    refine wpAnyH_take (i := 5) (oi := ⟨some 20, _, _, _, _, _⟩) (v := .int .i64 (k : Int)) rfl (by kernel_rfl) (by kernel_rfl) (by kernel_rfl) (fun _ _ _ h => h) (Or.inl ⟨by rfl, fun w hSw => by obtain ⟨s1, s2, s3⟩ := hSw; go_simp⟩) hS ?_
    try simp only [Act.put, List.setIfInBounds_toArray, List.set_cons_zero, List.set_cons_succ]
    refine wpAnyH_take (i := 7) (oi := ⟨some 22, _, _, _, _, _⟩) (v := .pointer (some ⟨B, 1, none⟩)) rfl (by kernel_rfl) (by kernel_rfl) (by kernel_rfl) (fun _ _ _ h => h) (Or.inl ⟨by rfl, fun w hSw => by obtain ⟨s1, s2, s3⟩ := hSw; go_simp⟩) hS ?_
    try simp only [Act.put, List.setIfInBounds_toArray, List.set_cons_zero, List.set_cons_succ]
    refine wpAnyH_take (i := 8) (oi := ⟨some 23, _, _, _, _, _⟩) (v := .slice (some ⟨pb, po, none⟩) s.size pc) rfl (by kernel_rfl) (by kernel_rfl) (by kernel_rfl) (fun _ _ _ h => h) (Or.inl ⟨by rfl, fun w hSw => by obtain ⟨s1, s2, s3⟩ := hSw; go_simp⟩) hS ?_
    try simp only [Act.put, List.setIfInBounds_toArray, List.set_cons_zero, List.set_cons_succ]
    refine wpAnyH_take (i := 9) (oi := ⟨some 24, _, _, _, _, _⟩) (v := .int .i64 (n : Int)) rfl (by kernel_rfl) (by kernel_rfl) (by kernel_rfl) (fun _ _ _ h => h) (Or.inl ⟨by rfl, fun w hSw => by obtain ⟨s1, s2, s3⟩ := hSw; go_simp⟩) hS ?_
    try simp only [Act.put, List.setIfInBounds_toArray, List.set_cons_zero, List.set_cons_succ]
    refine wpAnyH_take (i := 10) (oi := ⟨some 25, _, _, _, _, _⟩) (v := .slice (some ⟨pb, po, none⟩) n pc) rfl (by kernel_rfl) (by kernel_rfl) (by kernel_rfl) (fun _ _ _ h => h) (Or.inl ⟨by rfl, fun w hSw => by obtain ⟨s1, s2, s3⟩ := hSw; go_simp⟩) hS ?_
    try simp only [Act.put, List.setIfInBounds_toArray, List.set_cons_zero, List.set_cons_succ]
    refine wpAnyH_take (i := 12) (oi := ⟨some 27, _, _, _, _, _⟩) (v := .slice (some ⟨og, 0, none⟩) s.size n) rfl (by kernel_rfl) (by kernel_rfl) (by kernel_rfl) (fun _ _ _ h => h) (Or.inl ⟨by rfl, fun w hSw => by obtain ⟨s1, s2, s3⟩ := hSw; go_simp⟩) hS ?_
    try simp only [Act.put, List.setIfInBounds_toArray, List.set_cons_zero, List.set_cons_succ]
    refine wpAnyH_take (i := 13) (oi := ⟨some 28, _, _, _, _, _⟩) (v := .int .i64 (n : Int)) rfl (by kernel_rfl) (by kernel_rfl) (by kernel_rfl) (fun _ _ _ h => h) (Or.inl ⟨by rfl, fun w hSw => by obtain ⟨s1, s2, s3⟩ := hSw; go_simp⟩) hS ?_
    try simp only [Act.put, List.setIfInBounds_toArray, List.set_cons_zero, List.set_cons_succ]
    refine wpAnyH_take (i := 14) (oi := ⟨some 29, _, _, _, _, _⟩) (v := .slice (some ⟨og, 0, none⟩) 0 0) rfl (by kernel_rfl) (by kernel_rfl) (by kernel_rfl) (fun _ _ _ h => h) (Or.inl ⟨by rfl, fun w hSw => by obtain ⟨s1, s2, s3⟩ := hSw; go_simp⟩) hS ?_
    try simp only [Act.put, List.setIfInBounds_toArray, List.set_cons_zero, List.set_cons_succ]
    refine wpAnyH_ready (rs := [6]) (by kernel_rfl) (by simp) ?_
    refine AllReadyH.cons (o := ⟨some 21, _, _, _, _, _⟩) rfl (fun K hK => ?_) AllReadyH.nil
    go_simp
    have N0 := Lib.hid (NewB.empty w3.drew)
    have hS1 := PutS.next HLT.out HS.out N0.out.1
    refine hK.out _ _ hS1 (fun _ => ?_)
    clear hK K
    try simp only [Act.put, List.setIfInBounds_toArray, List.set_cons_zero, List.set_cons_succ]
    refine wpAnyH_ready (rs := [11]) (by kernel_rfl) (by simp) ?_
    refine AllReadyH.cons (o := ⟨some 26, _, _, _, _, _⟩) rfl (fun K hK => ?_) AllReadyH.nil
    refine step_append_bytes rfl (.tmp 21) (.tmp 25) rfl (.slice (some ⟨w3.drew.heap.size, 0, none⟩) 0 0) (.slice (some ⟨pb, po, none⟩) n pc) (l.take n) (by rfl) (by rfl) N0.out.2.1 (HT.out.alloc _) (by rw [List.length_nil, HTL.out]; omega) ?_
    intro a5 c5 w5 hO5 hg5 ho5
    have N1 := Lib.hid (N0.out.push hO5 hg5 ho5)
    clear hO5 hg5 ho5
    have hS2 := PutS.next HLT.out HS.out N1.out.1
    refine hK.out _ _ hS2 (fun _ => ?_)
    clear hK K
    try simp only [Act.put, List.setIfInBounds_toArray, List.set_cons_zero, List.set_cons_succ]
    refine wpAnyH_ready (rs := [15]) (by kernel_rfl) (by simp) ?_
    refine AllReadyH.cons (o := ⟨some 30, _, _, _, _, _⟩) rfl (fun K hK => ?_) AllReadyH.nil
    refine step_append_bytes rfl (.tmp 26) (.tmp 29) rfl (.slice a5 (([] : List UInt8).length + (l.take n).length) c5) (.slice (some ⟨og, 0, none⟩) 0 0) (ol.drop n) (by rfl) (by rfl) N1.out.2.1 (HD.out.grow N1.out.1) (by rw [List.nil_append, HTL.out, HDL.out]; omega) ?_
    intro a6 c6 w6 hO6 hg6 ho6
    have N2 := Lib.hid (N1.out.push hO6 hg6 ho6)
    clear hO6 hg6 ho6
    have hS3 := PutS.next HLT.out HS.out N2.out.1
    have e6 := (N2.out.1.cell (p := ⟨gd, k, none⟩) HLT.out.2.2).trans d3
    have f6 := (N2.out.1.frozen (p := ⟨gd, k, none⟩) HLT.out.2.2).trans f3
    refine hK.out _ _ hS3 (fun _ => ?_)
    clear hK K
    try simp only [Act.put, List.setIfInBounds_toArray, List.set_cons_zero, List.set_cons_succ]
    refine wpAnyH_take (i := 16) (oi := ⟨some 31, _, _, _, _, _⟩) (v := .pointer (some ⟨gd, k, none⟩)) rfl (by kernel_rfl) (by kernel_rfl) (by kernel_rfl) (fun _ _ _ h => h) (Or.inl ⟨by rfl, fun w hSw => by obtain ⟨s1, s2, s3⟩ := hSw; go_simp⟩) hS3 ?_
    try simp only [Act.put, List.setIfInBounds_toArray, List.set_cons_zero, List.set_cons_succ]
    refine wpAnyH_ready (rs := [17]) (by kernel_rfl) (by simp) ?_
    refine AllReadyH.cons (o := ⟨none, _, _, _, _, _⟩) rfl (fun K hK => ?_) AllReadyH.nil
    go_simp
    refine hK.out _ _ (PutS.store HNE.out hS3) (fun _ => ?_)
    clear hK K
    try simp only [Act.put, List.setIfInBounds_toArray, List.set_cons_zero, List.set_cons_succ]
    refine wpAnyH_done (by kernel_rfl) ?_ _
    go_wp2_with fail
    go_end0
    have P := H.out.putRow (l := DSt.torn n l ol) ((Below.refl _ _).drew.trans N2.out.1) (by have := N2.out.2.1; rw [HTO.out] at this; exact this) (fun g hg => N2.out.2.2.2 g hg) (k := k) (gd := gd) rfl (by omega)
    have P2 := RefRep.onward (Stp.of_below F HB1.out) P HI.out
    rw [show (([] : List UInt8) ++ l.take n).length + (ol.drop n).length = n from by rw [List.nil_append, HTL.out, HDL.out]; omega] at P2
    exact ⟨rfl, P2.1, _, P2.2⟩
  · have hc2 : ¬ oc = n := fun e => hc e.symm
    have HD : Hid (BV w3.drew F (.slice (some ⟨og, n, none⟩) (s.size - n) (oc - n)) (ol.drop n)) := Lib.hid (by have := HRO.out.bv.drop hoL hn; rw [if_neg (Ne.symm hc), Nat.zero_add] at this; exact this)
    refine wp_region_held_drew (S := (PutS b B (.slice (some ⟨gd, 0, none⟩) s.dur.length dc) (.int .i64 (k : Int)) (.slice (some ⟨pb, po, none⟩) s.size pc))) (by kernel_rfl) HS.out (fun hS => ?_)
    refine wpAnyH_take (i := 0) (oi := ⟨some 15, _, _, _, _, _⟩) (v := .pointer (some ⟨b, 0, none⟩)) rfl (by kernel_rfl) (by kernel_rfl) (by kernel_rfl) (fun _ _ _ h => h) (Or.inl ⟨by rfl, fun w hSw => by obtain ⟨s1, s2, s3⟩ := hSw; go_simp⟩) hS ?_
    try simp only [Act.put, List.setIfInBounds_toArray, List.set_cons_zero, List.set_cons_succ]
    refine wpAnyH_take (i := 1) (oi := ⟨some 16, _, _, _, _, _⟩) (v := .pointer (some ⟨b, 0, none⟩)) rfl (by kernel_rfl) (by kernel_rfl) (by kernel_rfl) (fun _ _ _ h => h) (Or.inl ⟨by rfl, fun w hSw => by obtain ⟨s1, s2, s3⟩ := hSw; go_simp⟩) hS ?_
    try simp only [Act.put, List.setIfInBounds_toArray, List.set_cons_zero, List.set_cons_succ]
    refine wpAnyH_take (i := 2) (oi := ⟨some 17, _, _, _, _, _⟩) (v := .pointer (some ⟨b, 1, none⟩)) rfl (by kernel_rfl) (by kernel_rfl) (by kernel_rfl) (fun _ _ _ h => h) (Or.inl ⟨by rfl, fun w hSw => by obtain ⟨s1, s2, s3⟩ := hSw; go_simp⟩) hS ?_
    try simp only [Act.put, List.setIfInBounds_toArray, List.set_cons_zero, List.set_cons_succ]
    refine wpAnyH_take (i := 3) (oi := ⟨some 18, _, _, _, _, _⟩) (v := .slice (some ⟨gd, 0, none⟩) s.dur.length dc) rfl (by kernel_rfl) (by kernel_rfl) (by kernel_rfl) (fun _ _ _ h => h) (Or.inl ⟨by rfl, fun w hSw => by obtain ⟨s1, s2, s3⟩ := hSw; go_simp⟩) hS ?_
    try simp only [Act.put, List.setIfInBounds_toArray, List.set_cons_zero, List.set_cons_succ]
    refine wpAnyH_take (i := 4) (oi := ⟨some 19, _, _, _, _, _⟩) (v := .pointer (some ⟨B, 0, none⟩)) rfl (by kernel_rfl) (by kernel_rfl) (by kernel_rfl) (fun _ _ _ h => h) (Or.inl ⟨by rfl, fun w hSw => by obtain ⟨s1, s2, s3⟩ := hSw; go_simp⟩) hS ?_
    try simp only [Act.put, List.setIfInBounds_toArray, List.set_cons_zero, List.set_cons_succ]
    refine wpAnyH_take (i := 5) (oi := ⟨some 20, _, _, _, _, _⟩) (v := .int .i64 (k : Int)) rfl (by kernel_rfl) (by kernel_rfl) (by kernel_rfl) (fun _ _ _ h => h) (Or.inl ⟨by rfl, fun w hSw => by obtain ⟨s1, s2, s3⟩ := hSw; go_simp⟩) hS ?_
    try simp only [Act.put, List.setIfInBounds_toArray, List.set_cons_zero, List.set_cons_succ]
    refine wpAnyH_take (i := 7) (oi := ⟨some 22, _, _, _, _, _⟩) (v := .pointer (some ⟨B, 1, none⟩)) rfl (by kernel_rfl) (by kernel_rfl) (by kernel_rfl) (fun _ _ _ h => h) (Or.inl ⟨by rfl, fun w hSw => by obtain ⟨s1, s2, s3⟩ := hSw; go_simp⟩) hS ?_
    try simp only [Act.put, List.setIfInBounds_toArray, List.set_cons_zero, List.set_cons_succ]
    refine wpAnyH_take (i := 8) (oi := ⟨some 23, _, _, _, _, _⟩) (v := .slice (some ⟨pb, po, none⟩) s.size pc) rfl (by kernel_rfl) (by kernel_rfl) (by kernel_rfl) (fun _ _ _ h => h) (Or.inl ⟨by rfl, fun w hSw => by obtain ⟨s1, s2, s3⟩ := hSw; go_simp⟩) hS ?_
    try simp only [Act.put, List.setIfInBounds_toArray, List.set_cons_zero, List.set_cons_succ]
    refine wpAnyH_take (i := 9) (oi := ⟨some 24, _, _, _, _, _⟩) (v := .int .i64 (n : Int)) rfl (by kernel_rfl) (by kernel_rfl) (by kernel_rfl) (fun _ _ _ h => h) (Or.inl ⟨by rfl, fun w hSw => by obtain ⟨s1, s2, s3⟩ := hSw; go_simp⟩) hS ?_
    try simp only [Act.put, List.setIfInBounds_toArray, List.set_cons_zero, List.set_cons_succ]
    refine wpAnyH_take (i := 10) (oi := ⟨some 25, _, _, _, _, _⟩) (v := .slice (some ⟨pb, po, none⟩) n pc) rfl (by kernel_rfl) (by kernel_rfl) (by kernel_rfl) (fun _ _ _ h => h) (Or.inl ⟨by rfl, fun w hSw => by obtain ⟨s1, s2, s3⟩ := hSw; go_simp⟩) hS ?_
    try simp only [Act.put, List.setIfInBounds_toArray, List.set_cons_zero, List.set_cons_succ]
    refine wpAnyH_take (i := 12) (oi := ⟨some 27, _, _, _, _, _⟩) (v := .slice (some ⟨og, 0, none⟩) s.size oc) rfl (by kernel_rfl) (by kernel_rfl) (by kernel_rfl) (fun _ _ _ h => h) (Or.inl ⟨by rfl, fun w hSw => by obtain ⟨s1, s2, s3⟩ := hSw; go_simp⟩) hS ?_
    try simp only [Act.put, List.setIfInBounds_toArray, List.set_cons_zero, List.set_cons_succ]
    refine wpAnyH_take (i := 13) (oi := ⟨some 28, _, _, _, _, _⟩) (v := .int .i64 (n : Int)) rfl (by kernel_rfl) (by kernel_rfl) (by kernel_rfl) (fun _ _ _ h => h) (Or.inl ⟨by rfl, fun w hSw => by obtain ⟨s1, s2, s3⟩ := hSw; go_simp⟩) hS ?_
    try simp only [Act.put, List.setIfInBounds_toArray, List.set_cons_zero, List.set_cons_succ]
    refine wpAnyH_take (i := 14) (oi := ⟨some 29, _, _, _, _, _⟩) (v := .slice (some ⟨og, n, none⟩) (s.size - n) (oc - n)) rfl (by kernel_rfl) (by kernel_rfl) (by kernel_rfl) (fun _ _ _ h => h) (Or.inl ⟨by rfl, fun w hSw => by obtain ⟨s1, s2, s3⟩ := hSw; go_simp⟩) hS ?_
    try simp only [Act.put, List.setIfInBounds_toArray, List.set_cons_zero, List.set_cons_succ]
    refine wpAnyH_ready (rs := [6]) (by kernel_rfl) (by simp) ?_
    refine AllReadyH.cons (o := ⟨some 21, _, _, _, _, _⟩) rfl (fun K hK => ?_) AllReadyH.nil
    go_simp
    have N0 := Lib.hid (NewB.empty w3.drew)
    have hS1 := PutS.next HLT.out HS.out N0.out.1
    refine hK.out _ _ hS1 (fun _ => ?_)
    clear hK K
    try simp only [Act.put, List.setIfInBounds_toArray, List.set_cons_zero, List.set_cons_succ]
    refine wpAnyH_ready (rs := [11]) (by kernel_rfl) (by simp) ?_
    refine AllReadyH.cons (o := ⟨some 26, _, _, _, _, _⟩) rfl (fun K hK => ?_) AllReadyH.nil
    refine step_append_bytes rfl (.tmp 21) (.tmp 25) rfl (.slice (some ⟨w3.drew.heap.size, 0, none⟩) 0 0) (.slice (some ⟨pb, po, none⟩) n pc) (l.take n) (by rfl) (by rfl) N0.out.2.1 (HT.out.alloc _) (by rw [List.length_nil, HTL.out]; omega) ?_
    intro a5 c5 w5 hO5 hg5 ho5
    have N1 := Lib.hid (N0.out.push hO5 hg5 ho5)
    clear hO5 hg5 ho5
    have hS2 := PutS.next HLT.out HS.out N1.out.1
    refine hK.out _ _ hS2 (fun _ => ?_)
    clear hK K
    try simp only [Act.put, List.setIfInBounds_toArray, List.set_cons_zero, List.set_cons_succ]
    refine wpAnyH_ready (rs := [15]) (by kernel_rfl) (by simp) ?_
    refine AllReadyH.cons (o := ⟨some 30, _, _, _, _, _⟩) rfl (fun K hK => ?_) AllReadyH.nil
    refine step_append_bytes rfl (.tmp 26) (.tmp 29) rfl (.slice a5 (([] : List UInt8).length + (l.take n).length) c5) (.slice (some ⟨og, n, none⟩) (s.size - n) (oc - n)) (ol.drop n) (by rfl) (by rfl) N1.out.2.1 (HD.out.grow N1.out.1) (by rw [List.nil_append, HTL.out, HDL.out]; omega) ?_
    intro a6 c6 w6 hO6 hg6 ho6
    have N2 := Lib.hid (N1.out.push hO6 hg6 ho6)
    clear hO6 hg6 ho6
    have hS3 := PutS.next HLT.out HS.out N2.out.1
    have e6 := (N2.out.1.cell (p := ⟨gd, k, none⟩) HLT.out.2.2).trans d3
    have f6 := (N2.out.1.frozen (p := ⟨gd, k, none⟩) HLT.out.2.2).trans f3
    refine hK.out _ _ hS3 (fun _ => ?_)
    clear hK K
    try simp only [Act.put, List.setIfInBounds_toArray, List.set_cons_zero, List.set_cons_succ]
    refine wpAnyH_take (i := 16) (oi := ⟨some 31, _, _, _, _, _⟩) (v := .pointer (some ⟨gd, k, none⟩)) rfl (by kernel_rfl) (by kernel_rfl) (by kernel_rfl) (fun _ _ _ h => h) (Or.inl ⟨by rfl, fun w hSw => by obtain ⟨s1, s2, s3⟩ := hSw; go_simp⟩) hS3 ?_
    try simp only [Act.put, List.setIfInBounds_toArray, List.set_cons_zero, List.set_cons_succ]
    refine wpAnyH_ready (rs := [17]) (by kernel_rfl) (by simp) ?_
    refine AllReadyH.cons (o := ⟨none, _, _, _, _, _⟩) rfl (fun K hK => ?_) AllReadyH.nil
    go_simp
    refine hK.out _ _ (PutS.store HNE.out hS3) (fun _ => ?_)
    clear hK K
    try simp only [Act.put, List.setIfInBounds_toArray, List.set_cons_zero, List.set_cons_succ]
    refine wpAnyH_done (by kernel_rfl) ?_ _
    go_wp2_with fail
    go_end0
    have P := H.out.putRow (l := DSt.torn n l ol) ((Below.refl _ _).drew.trans N2.out.1) (by have := N2.out.2.1; rw [HTO.out] at this; exact this) (fun g hg => N2.out.2.2.2 g hg) (k := k) (gd := gd) rfl (by omega)
    have P2 := RefRep.onward (Stp.of_below F HB1.out) P HI.out
    rw [show (([] : List UInt8) ++ l.take n).length + (ol.drop n).length = s.size from by rw [List.nil_append, HTL.out, HDL.out]; omega] at P2
    exact ⟨rfl, P2.1, _, P2.2⟩
end
end Go.Proofs.Ytibojbbhffoldaa
