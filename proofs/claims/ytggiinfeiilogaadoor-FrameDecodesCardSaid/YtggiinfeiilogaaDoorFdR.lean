/- The reference's reader: contracts of read and Read at one number. -/
import Derived.Test.YtggiinfeiilogaaDoorFdN
import Derived.Test.YtggiinfeiilogaaDoorFrX
import Derived.Deep.RegionHeld3
namespace Go.Proofs.YtggiinfeiilogaaDoor
open Go.RowKit
set_option linter.unusedSimpArgs false
/-- A Value of the reference with kind k, number u, and nothing else. -/
abbrev vC (k u : Int) : List Value := [.int .i64 k, .int .u64 u, .int .i64 0, .bool false, .string ⟨#[]⟩, .int .i64 0]
theorem Tryd.sizeVal : (Tryd.prog.info? 100).map (·.size) = some 6 := by kernel_rfl
theorem ret_val {fn : Func} {p u x : Tmp} (h : fn.results = #[.cell p 100, .tmp u, .tmp x]) {tmps : Array Value} {w : World} {g : Nat} {c0 c1 c2 c3 c4 c5 : Value} {R : Ending → World → Prop} {ds : List Deferred}
    (hp : tmps.getD p undef = .pointer (some ⟨g, 0, none⟩)) (hb : Blk w g [c0, c1, c2, c3, c4, c5] 100) (hds : ds = []) (hR : R (.returned (.tuple #[.agg #[c0, c1, c2, c3, c4, c5], tmps.getD u undef, tmps.getD x undef])) w) :
    bodyPost Tryd.prog fn R .ret ⟨tmps, ds⟩ w :=
  bodyPost_ret (results_msg h tmps w g _ _ _ _ hp hb Tryd.underlying100 rfl Tryd.sizeVal) hds hR
def ReadPost (l : List UInt8) (e : Ending) : Prop :=
  (Fr.num (Fr.lval l) = l ∧ e = .returned (.tuple #[.agg (vC 1 (Fr.lval l : Int)).toArray, .int .i64 (l.length : Int), .int .i64 0])) ∨ (Fr.num (Fr.lval l) ≠ l ∧ e = .returned (.tuple #[.agg (vC 1 0).toArray, .int .i64 0, .int .i64 3]))
section
variable {w w' : World} {F : Nat → Prop} {xv : Value} {l : List UInt8}
theorem Blk.six {g : Nat} {c0 c1 c2 c3 c4 c5 d0 d1 d2 d3 d4 d5 : Value} {T : TypeId} (h : Blk w g [c0, c1, c2, c3, c4, c5] T) : Blk ((((((w.setCell ⟨g, 0, none⟩ d0).setCell ⟨g, 1, none⟩ d1).setCell ⟨g, 2, none⟩ d2).setCell ⟨g, 3, none⟩ d3).setCell ⟨g, 4, none⟩ d4).setCell ⟨g, 5, none⟩ d5) g [d0, d1, d2, d3, d4, d5] T :=
  (((((h.set 0 d0).set 1 d1).set 2 d2).set 3 d3).set 4 d4).set 5 d5
set_option maxRecDepth 100000 in
set_option maxHeartbeats 2000000 in
theorem refread_any (hx : BV w F xv l) (hF : ∀ k, F k → k < w.heap.size) (hs : Fr.Shp l) : Calls Tryd.prog 67 #[xv, .int .i64 0, .int .i64 1, .int .i64 0] w fun e w' => ReadPost l e ∧ Below w.heap.size w w' := by
  have HX := Lib.hid hx
  have HF := Lib.hid hF
  have HS := Lib.hid hs
  obtain ⟨xa, xc, rfl, x1, x2, -⟩ := hx.get
  unfold maxLen at x2
  have B1 : Hid (Below w.heap.size w ((w.alloc (.cells (vC 0 0).toArray 100)).alloc (.cells (vC 1 0).toArray 100))) := Lib.hid (((Below.refl _ _).alloc (Nat.le_refl _) _).alloc (by simp) _)
  have P8 : Hid (Blk ((w.alloc (.cells (vC 0 0).toArray 100)).alloc (.cells (vC 1 0).toArray 100)) w.heap.size (vC 0 0) 100) := Lib.hid ((Blk.new w (vC 0 0) _).alloc _)
  have P11 : Hid (Blk ((w.alloc (.cells (vC 0 0).toArray 100)).alloc (.cells (vC 1 0).toArray 100)) (w.heap.size + 1) (vC 1 0) 100) := Lib.hid (Blk.newAt (k := w.heap.size + 1) (w.alloc (.cells (vC 0 0).toArray 100)) (vC 1 0) _ (by simp))
  clear hx hF hs
  go_enter Tryd.func67, Tryd.ntmps67
  go_wp2_with fail
  generalize ((w.alloc (.cells (vC 0 0).toArray 100)).alloc (.cells (vC 1 0).toArray 100)) = w1 at *
  refine (refnumber_any (HX.out.grow B1.out) (fun k hk => Nat.lt_of_lt_of_le (HF.out k hk) B1.out.size) HS.out).mono ?_
  rintro e w2 ⟨hp, hb2⟩
  have Q8 := Lib.hid (P8.out.of_same (hb2.block _ P8.out.lt))
  have Q11 := Lib.hid (P11.out.of_same (hb2.block _ P11.out.lt))
  have B2 := Lib.hid (B1.out.trans (hb2.mono B1.out.size))
  have a0 := Q8.out.cell (i := 0) rfl
  have a1 := Q8.out.cell (i := 1) rfl
  have a2 := Q8.out.cell (i := 2) rfl
  have a3 := Q8.out.cell (i := 3) rfl
  have a4 := Q8.out.cell (i := 4) rfl
  have a5 := Q8.out.cell (i := 5) rfl
  have af := Q8.out.free
  have b0 := Q11.out.cell (i := 0) rfl
  have b1 := Q11.out.cell (i := 1) rfl
  have b2 := Q11.out.cell (i := 2) rfl
  have b3 := Q11.out.cell (i := 3) rfl
  have b4 := Q11.out.cell (i := 4) rfl
  have b5 := Q11.out.cell (i := 5) rfl
  have bf := Q11.out.free
  clear hb2 P8 P11 B1
  rcases hp with ⟨hok, rfl⟩ | ⟨hok, rfl⟩
  · have HOK := Lib.hid hok
    clear hok
    go_wp2_with fail
    refine ret_val rfl rfl ((Q8.out.set_ne (a := ⟨w.heap.size + 1, 1, none⟩) (by show w.heap.size ≠ w.heap.size + 1; omega) _).six) rfl ⟨.inl ⟨HOK.out, rfl⟩, ?_⟩
    exact ((((((B2.out.setCell (by show w.heap.size ≤ w.heap.size + 1; omega) _).setCell (Nat.le_refl _) _).setCell (Nat.le_refl _) _).setCell (Nat.le_refl _) _).setCell (Nat.le_refl _) _).setCell (Nat.le_refl _) _).setCell (Nat.le_refl _) _
  · have HOK := Lib.hid hok
    clear hok
    go_wp2_with fail
    refine ret_val rfl rfl (Q8.out.six) rfl ⟨.inr ⟨HOK.out, rfl⟩, ?_⟩
    exact (((((B2.out.setCell (Nat.le_refl _) _).setCell (Nat.le_refl _) _).setCell (Nat.le_refl _) _).setCell (Nat.le_refl _) _).setCell (Nat.le_refl _) _).setCell (Nat.le_refl _) _
abbrev RdK (W : World) (rb : Nat) (xv : Value) (w' : World) : Prop := Below W.heap.size W w' ∧ w'.cell? ⟨rb, 0, none⟩ = some xv ∧ w'.cell? ⟨rb, 1, none⟩ = some (.int .i64 0)
theorem RdK.start {W : World} {rb : Nat} (h : Blk W rb [xv, .int .i64 0, .int .i64 0, .int .i64 0] 98) : RdK W rb xv W.drew := ⟨(Below.refl _ _).drew, h.cell (i := 0) rfl, h.cell (i := 1) rfl⟩
theorem RdK.next {W w1 w2 : World} {rb : Nat} (hl : rb < W.heap.size) (h : RdK W rb xv w1) (h2 : Below w1.heap.size w1 w2) : RdK W rb xv w2 :=
  ⟨h.1.trans (h2.mono h.1.size), (h2.cell (p := ⟨rb, 0, none⟩) (Nat.lt_of_lt_of_le hl h.1.size)).trans h.2.1, (h2.cell (p := ⟨rb, 1, none⟩) (Nat.lt_of_lt_of_le hl h.1.size)).trans h.2.2⟩
theorem RdK.six {W w1 : World} {rb g : Nat} {d0 d1 d2 d3 d4 d5 : Value} (hl : rb < W.heap.size) (h : RdK W rb xv w1) (hg : W.heap.size ≤ g) :
    RdK W rb xv ((((((w1.setCell ⟨g, 0, none⟩ d0).setCell ⟨g, 1, none⟩ d1).setCell ⟨g, 2, none⟩ d2).setCell ⟨g, 3, none⟩ d3).setCell ⟨g, 4, none⟩ d4).setCell ⟨g, 5, none⟩ d5) := by
  have hb : Below W.heap.size w1 ((((((w1.setCell ⟨g, 0, none⟩ d0).setCell ⟨g, 1, none⟩ d1).setCell ⟨g, 2, none⟩ d2).setCell ⟨g, 3, none⟩ d3).setCell ⟨g, 4, none⟩ d4).setCell ⟨g, 5, none⟩ d5) :=
    ((((((Below.refl _ _).setCell hg _).setCell hg _).setCell hg _).setCell hg _).setCell hg _).setCell hg _
  exact ⟨h.1.trans hb, (hb.cell (p := ⟨rb, 0, none⟩) hl).trans h.2.1, (hb.cell (p := ⟨rb, 1, none⟩) hl).trans h.2.2⟩
theorem RdK.read {W : World} {rb : Nat} (hx : BV W F xv l) (hF : ∀ k, F k → k < W.heap.size) (hs : Fr.Shp l) (h : RdK W rb xv w') : Calls Tryd.prog 67 #[xv, .int .i64 0, .int .i64 1, .int .i64 0] w' fun e w'' => ReadPost l e ∧ Below w'.heap.size w' w'' :=
  refread_any (hx.grow h.1) (fun k hk => Nat.lt_of_lt_of_le (hF k hk) h.1.size) hs
theorem RdK.readOk {W : World} {rb : Nat} (hx : BV W F xv l) (hF : ∀ k, F k → k < W.heap.size) (hs : Fr.Shp l) {v n : Nat} (hok : Fr.num (Fr.lval l) = l) (hv : Fr.lval l = v) (hn : l.length = n) (h : RdK W rb xv w') : Calls Tryd.prog 67 #[xv, .int .i64 0, .int .i64 1, .int .i64 0] w' fun e w'' => e = .returned (.tuple #[.agg #[.int .i64 1, .int .u64 (v : Int), .int .i64 0, .bool false, .string ⟨#[]⟩, .int .i64 0], .int .i64 (n : Int), .int .i64 0]) ∧ Below w'.heap.size w' w'' := by
  subst hv; subst hn
  refine (RdK.read hx hF hs h).mono ?_
  rintro e w'' ⟨⟨_, he⟩ | ⟨hno, _⟩, hb⟩
  · exact ⟨he, hb⟩
  · exact absurd hok hno
theorem RdK.readNo {W : World} {rb : Nat} (hx : BV W F xv l) (hF : ∀ k, F k → k < W.heap.size) (hs : Fr.Shp l) (hno : Fr.num (Fr.lval l) ≠ l) (h : RdK W rb xv w') : Calls Tryd.prog 67 #[xv, .int .i64 0, .int .i64 1, .int .i64 0] w' fun e w'' => e = .returned (.tuple #[.agg #[.int .i64 1, .int .u64 0, .int .i64 0, .bool false, .string ⟨#[]⟩, .int .i64 0], .int .i64 0, .int .i64 3]) ∧ Below w'.heap.size w' w'' := by
  refine (RdK.read hx hF hs h).mono ?_
  rintro e w'' ⟨⟨hok, _⟩ | ⟨_, he⟩, hb⟩
  · exact absurd hok hno
  · exact ⟨he, hb⟩
set_option maxRecDepth 100000 in
set_option maxHeartbeats 2000000 in
theorem refRead_ok {rb v n : Nat} (hb : Blk w rb [xv, .int .i64 0, .int .i64 0, .int .i64 0] 98) (hx : BV w F xv l) (hF : ∀ k, F k → k < w.heap.size) (hs : Fr.Shp l) (hok : Fr.num (Fr.lval l) = l) (hv : Fr.lval l = v) (hn : l.length = n) : Calls Tryd.prog 62 #[.pointer (some ⟨rb, 0, none⟩), .int .i64 1, .int .i64 0] w fun e w' => e = .returned (.agg (vC 1 (v : Int)).toArray) ∧ Stp (· = rb) w w' ∧ Blk w' rb [xv, .int .i64 (n : Int), .int .i64 0, .int .i64 0] 98 := by
  obtain ⟨xa, xc, rfl, x1, x2, -⟩ := hx.get
  have r0 := hb.cell (i := 0) rfl
  have r1 := hb.cell (i := 1) rfl
  have r3 := hb.cell (i := 3) rfl
  have rlt := hb.lt
  have hb1 : Below w.heap.size w ((w.alloc (.cells (vC 0 0).toArray 100)).alloc (.cells (vC 1 0).toArray 100)) := ((Below.refl _ _).alloc (Nat.le_refl _) _).alloc (by simp) _
  have B1 := Lib.hid hb1
  have P6 : Hid (Blk ((w.alloc (.cells (vC 0 0).toArray 100)).alloc (.cells (vC 1 0).toArray 100)) w.heap.size (vC 0 0) 100) := Lib.hid ((Blk.new w (vC 0 0) _).alloc _)
  have PR : Hid (Blk ((w.alloc (.cells (vC 0 0).toArray 100)).alloc (.cells (vC 1 0).toArray 100)) rb _ _) := Lib.hid ((hb.alloc _).alloc _)
  have HX := Lib.hid (hx.grow hb1)
  have HF := Lib.hid (fun k hk => Nat.lt_of_lt_of_le (hF k hk) hb1.size)
  have HS := Lib.hid hs
  have HOK := Lib.hid hok
  have HV := Lib.hid hv
  have HN := Lib.hid hn
  have hvl : v < 2097152 := by rw [← hv]; have := Fr.lval_le l hs.2.1 0; rwa [List.drop_zero] at this
  have HRL : Hid (rb < ((w.alloc (.cells (vC 0 0).toArray 100)).alloc (.cells (vC 1 0).toArray 100)).heap.size) := Lib.hid (by simp; omega)
  unfold maxLen at x2
  clear hx hF hs hb hok hv hn hb1
  go_enter Tryd.func62, Tryd.ntmps62
  go_wp2_with fail
  generalize ((w.alloc (.cells (vC 0 0).toArray 100)).alloc (.cells (vC 1 0).toArray 100)) = w1 at *
  have HK0 := Lib.hid (RdK.start PR.out)
  have q0 := PR.out.cell (i := 0) rfl
  have q1 := PR.out.cell (i := 1) rfl
  refine wp_region_held_drew (S := (fun w' => Below w1.heap.size w1 w' ∧ w'.cell? ⟨rb, 0, none⟩ = some (.slice xa l.length xc) ∧ w'.cell? ⟨rb, 1, none⟩ = some (.int .i64 0))) (by kernel_rfl) HK0.out (fun hS => ?_)
  refine wpAnyH_take (i := 0) (oi := ⟨some 34, _, _, _, _, _⟩) (v := .pointer (some ⟨rb, 0, none⟩)) rfl (by kernel_rfl) (by kernel_rfl) (by kernel_rfl) (fun _ _ _ h => h) (Or.inl ⟨by rfl, fun w hSw => by obtain ⟨_, s1, s2⟩ := hSw; go_simp⟩) hS ?_
  try simp only [Act.put, List.setIfInBounds_toArray, List.set_cons_zero, List.set_cons_succ]
  refine wpAnyH_take (i := 1) (oi := ⟨some 35, _, _, _, _, _⟩) (v := .pointer (some ⟨rb, 0, none⟩)) rfl (by kernel_rfl) (by kernel_rfl) (by kernel_rfl) (fun _ _ _ h => h) (Or.inl ⟨by rfl, fun w hSw => by obtain ⟨_, s1, s2⟩ := hSw; go_simp⟩) hS ?_
  try simp only [Act.put, List.setIfInBounds_toArray, List.set_cons_zero, List.set_cons_succ]
  refine wpAnyH_take (i := 2) (oi := ⟨some 36, _, _, _, _, _⟩) (v := .pointer (some ⟨rb, 0, none⟩)) rfl (by kernel_rfl) (by kernel_rfl) (by kernel_rfl) (fun _ _ _ h => h) (Or.inl ⟨by rfl, fun w hSw => by obtain ⟨_, s1, s2⟩ := hSw; go_simp⟩) hS ?_
  try simp only [Act.put, List.setIfInBounds_toArray, List.set_cons_zero, List.set_cons_succ]
  refine wpAnyH_take (i := 3) (oi := ⟨some 37, _, _, _, _, _⟩) (v := .slice xa l.length xc) rfl (by kernel_rfl) (by kernel_rfl) (by kernel_rfl) (fun _ _ _ h => h) (Or.inl ⟨by rfl, fun w hSw => by obtain ⟨_, s1, s2⟩ := hSw; go_simp⟩) hS ?_
  try simp only [Act.put, List.setIfInBounds_toArray, List.set_cons_zero, List.set_cons_succ]
  refine wpAnyH_take (i := 4) (oi := ⟨some 38, _, _, _, _, _⟩) (v := .pointer (some ⟨rb, 0, none⟩)) rfl (by kernel_rfl) (by kernel_rfl) (by kernel_rfl) (fun _ _ _ h => h) (Or.inl ⟨by rfl, fun w hSw => by obtain ⟨_, s1, s2⟩ := hSw; go_simp⟩) hS ?_
  try simp only [Act.put, List.setIfInBounds_toArray, List.set_cons_zero, List.set_cons_succ]
  refine wpAnyH_take (i := 5) (oi := ⟨some 39, _, _, _, _, _⟩) (v := .pointer (some ⟨rb, 0, none⟩)) rfl (by kernel_rfl) (by kernel_rfl) (by kernel_rfl) (fun _ _ _ h => h) (Or.inl ⟨by rfl, fun w hSw => by obtain ⟨_, s1, s2⟩ := hSw; go_simp⟩) hS ?_
  try simp only [Act.put, List.setIfInBounds_toArray, List.set_cons_zero, List.set_cons_succ]
  refine wpAnyH_take (i := 6) (oi := ⟨some 40, _, _, _, _, _⟩) (v := .pointer (some ⟨rb, 1, none⟩)) rfl (by kernel_rfl) (by kernel_rfl) (by kernel_rfl) (fun _ _ _ h => h) (Or.inl ⟨by rfl, fun w hSw => by obtain ⟨_, s1, s2⟩ := hSw; go_simp⟩) hS ?_
  try simp only [Act.put, List.setIfInBounds_toArray, List.set_cons_zero, List.set_cons_succ]
  refine wpAnyH_take (i := 7) (oi := ⟨some 41, _, _, _, _, _⟩) (v := .int .i64 0) rfl (by kernel_rfl) (by kernel_rfl) (by kernel_rfl) (fun _ _ _ h => h) (Or.inl ⟨by rfl, fun w hSw => by obtain ⟨_, s1, s2⟩ := hSw; go_simp⟩) hS ?_
  try simp only [Act.put, List.setIfInBounds_toArray, List.set_cons_zero, List.set_cons_succ]
  refine wpAnyH_take (i := 8) (oi := ⟨some 42, _, _, _, _, _⟩) (v := .int .i64 1) rfl (by kernel_rfl) (by kernel_rfl) (by kernel_rfl) (fun _ _ _ h => h) (Or.inl ⟨by rfl, fun w hSw => by obtain ⟨_, s1, s2⟩ := hSw; go_simp⟩) hS ?_
  try simp only [Act.put, List.setIfInBounds_toArray, List.set_cons_zero, List.set_cons_succ]
  refine wpAnyH_take (i := 9) (oi := ⟨some 43, _, _, _, _, _⟩) (v := .int .i64 0) rfl (by kernel_rfl) (by kernel_rfl) (by kernel_rfl) (fun _ _ _ h => h) (Or.inl ⟨by rfl, fun w hSw => by obtain ⟨_, s1, s2⟩ := hSw; go_simp⟩) hS ?_
  try simp only [Act.put, List.setIfInBounds_toArray, List.set_cons_zero, List.set_cons_succ]
  refine wpAnyH_ready (rs := [10, 15]) (by kernel_rfl) (by simp) ?_
  refine AllReadyH.cons (o := ⟨some 44, _, _, _, _, _⟩) rfl (fun K hK => ?_) (AllReadyH.cons (o := ⟨some 8, _, _, _, _, _⟩) rfl (fun K hK => ?_) AllReadyH.nil)
  · go_simp
    refine (RdK.readOk HX.out HF.out HS.out HOK.out HV.out HN.out hS).mono ?_
    rintro e w2 ⟨rfl, hb⟩
    have hS2 := RdK.next HRL.out hS hb
    refine hK.out _ _ hS2 (fun _ => ?_)
    clear hK K hb
    try simp only [Act.put, List.setIfInBounds_toArray, List.set_cons_zero, List.set_cons_succ]
    refine wpAnyH_take (i := 11) (oi := ⟨some 33, _, _, _, _, _⟩) (v := .tuple #[.agg #[.int .i64 1, .int .u64 (v : Int), .int .i64 0, .bool false, .string ⟨#[]⟩, .int .i64 0], .int .i64 (n : Int), .int .i64 0]) rfl (by kernel_rfl) (by kernel_rfl) (by kernel_rfl) (fun _ _ _ h => h) (Or.inl ⟨by rfl, fun w hSw => by obtain ⟨_, s1, s2⟩ := hSw; go_simp⟩) hS2 ?_
    try simp only [Act.put, List.setIfInBounds_toArray, List.set_cons_zero, List.set_cons_succ]
    refine wpAnyH_take (i := 12) (oi := ⟨some 45, _, _, _, _, _⟩) (v := .agg #[.int .i64 1, .int .u64 (v : Int), .int .i64 0, .bool false, .string ⟨#[]⟩, .int .i64 0]) rfl (by kernel_rfl) (by kernel_rfl) (by kernel_rfl) (fun _ _ _ h => h) (Or.inl ⟨by rfl, fun w hSw => by obtain ⟨_, s1, s2⟩ := hSw; go_simp⟩) hS2 ?_
    try simp only [Act.put, List.setIfInBounds_toArray, List.set_cons_zero, List.set_cons_succ]
    refine wpAnyH_take (i := 13) (oi := ⟨some 46, _, _, _, _, _⟩) (v := .int .i64 (n : Int)) rfl (by kernel_rfl) (by kernel_rfl) (by kernel_rfl) (fun _ _ _ h => h) (Or.inl ⟨by rfl, fun w hSw => by obtain ⟨_, s1, s2⟩ := hSw; go_simp⟩) hS2 ?_
    try simp only [Act.put, List.setIfInBounds_toArray, List.set_cons_zero, List.set_cons_succ]
    refine wpAnyH_take (i := 14) (oi := ⟨some 47, _, _, _, _, _⟩) (v := .int .i64 0) rfl (by kernel_rfl) (by kernel_rfl) (by kernel_rfl) (fun _ _ _ h => h) (Or.inl ⟨by rfl, fun w hSw => by obtain ⟨_, s1, s2⟩ := hSw; go_simp⟩) hS2 ?_
    try simp only [Act.put, List.setIfInBounds_toArray, List.set_cons_zero, List.set_cons_succ]
    refine wpAnyH_ready (rs := [15]) (by kernel_rfl) (by simp) ?_
    refine AllReadyH.cons (o := ⟨some 8, _, _, _, _, _⟩) rfl (fun K hK => ?_) AllReadyH.nil
    go_simp
    have hS3 := RdK.next HRL.out hS2 ((Below.refl w2.heap.size w2).alloc (Nat.le_refl _) (.cells (vC 0 0).toArray 100))
    refine hK.out _ _ hS3 (fun _ => ?_)
    clear hK K
    try simp only [Act.put, List.setIfInBounds_toArray, List.set_cons_zero, List.set_cons_succ]
    refine wpAnyH_ready (rs := [16]) (by kernel_rfl) (by simp) ?_
    refine AllReadyH.cons (o := ⟨none, _, _, _, _, _⟩) rfl (fun K hK => ?_) AllReadyH.nil
    go_simp
    have hS4 := RdK.next HRL.out hS2 ((Below.refl w2.heap.size w2).alloc (Nat.le_refl _) (.cells (vC 1 (v : Int)).toArray 100))
    refine hK.out _ _ hS4 (fun _ => ?_)
    clear hK K
    try simp only [Act.put, List.setIfInBounds_toArray, List.set_cons_zero, List.set_cons_succ]
    refine wpAnyH_take (i := 17) (oi := ⟨some 9, _, _, _, _, _⟩) (v := .int .i64 (n : Int)) rfl (by kernel_rfl) (by kernel_rfl) (by kernel_rfl) (fun _ _ _ h => h) (Or.inl ⟨by rfl, fun w hSw => by obtain ⟨_, s1, s2⟩ := hSw; go_simp⟩) hS4 ?_
    try simp only [Act.put, List.setIfInBounds_toArray, List.set_cons_zero, List.set_cons_succ]
    refine wpAnyH_take (i := 18) (oi := ⟨some 10, _, _, _, _, _⟩) (v := .int .i64 0) rfl (by kernel_rfl) (by kernel_rfl) (by kernel_rfl) (fun _ _ _ h => h) (Or.inl ⟨by rfl, fun w hSw => by obtain ⟨_, s1, s2⟩ := hSw; go_simp⟩) hS4 ?_
    try simp only [Act.put, List.setIfInBounds_toArray, List.set_cons_zero, List.set_cons_succ]
    refine wpAnyH_done (by kernel_rfl) ?_ _
    have C8 : Hid (Blk (w2.alloc (.cells (vC 1 (v : Int)).toArray 100)) w2.heap.size (vC 1 (v : Int)) 100) := Lib.hid (Blk.new w2 _ _)
    have hg8 : w1.heap.size ≤ w2.heap.size := hS2.1.size
    have BQ := Lib.hid hS4.1
    generalize w2.alloc (.cells (vC 1 (v : Int)).toArray 100) = w3 at *
    generalize w2.heap.size = g8 at *
    have Q6 := Lib.hid (P6.out.of_same (BQ.out.block _ P6.out.lt))
    have QR := Lib.hid (PR.out.of_same (BQ.out.block _ PR.out.lt))
    have HB0 : Hid (w.heap.size < w1.heap.size) := Lib.hid P6.out.lt
    have a0 := Q6.out.cell (i := 0) rfl
    have d0 := C8.out.cell (i := 0) rfl
    have a1 := Q6.out.cell (i := 1) rfl
    have d1 := C8.out.cell (i := 1) rfl
    have a2 := Q6.out.cell (i := 2) rfl
    have d2 := C8.out.cell (i := 2) rfl
    have a3 := Q6.out.cell (i := 3) rfl
    have d3 := C8.out.cell (i := 3) rfl
    have a4 := Q6.out.cell (i := 4) rfl
    have d4 := C8.out.cell (i := 4) rfl
    have a5 := Q6.out.cell (i := 5) rfl
    have d5 := C8.out.cell (i := 5) rfl
    have af := Q6.out.free
    have e1 := QR.out.cell (i := 1) rfl
    have e2 := QR.out.cell (i := 2) rfl
    have ef := QR.out.free
    have n1 : g8 ≠ rb := by have := HRL.out; omega
    have n2 : g8 ≠ w.heap.size := by have := HB0.out; omega
    have n3 : rb ≠ w.heap.size := by omega
    clear q0 q1 r0 r1 r3
    go_wp2_with fail
    have st : Stp (· = rb) w w3 := Stp.of_below _ (B1.out.trans (BQ.out.mono B1.out.size))
    have R := ((Q6.out.set_ne (a := ⟨rb, 2, none⟩) (Ne.symm n3) (.int .i64 0)).set_ne (a := ⟨rb, 1, none⟩) (Ne.symm n3) (.int .i64 (n : Int))).six (d0 := .int .i64 1) (d1 := .int .u64 (v : Int)) (d2 := .int .i64 0) (d3 := .bool false) (d4 := .string ⟨#[]⟩) (d5 := .int .i64 0)
    refine bodyPost_ret (results_cell_row rfl _ _ w.heap.size 100 (vC 1 (v : Int)).toArray (0, 0) _ rfl R Tryd.underlying100 rfl Tryd.sizeVal) rfl ⟨rfl, ?_, ?_⟩
    · exact (((((((st.set (.inl (.inl rfl)) _).set (.inl (.inl rfl)) _).set (.inr (Nat.le_refl _)) _).set (.inr (Nat.le_refl _)) _).set (.inr (Nat.le_refl _)) _).set (.inr (Nat.le_refl _)) _).set (.inr (Nat.le_refl _)) _).set (.inr (Nat.le_refl _)) _
    · exact ((((((((QR.out.set 2 (.int .i64 0)).set 1 (.int .i64 (n : Int))).set_ne n3 _).set_ne n3 _).set_ne n3 _).set_ne n3 _).set_ne n3 _).set_ne n3 _)
  · go_simp
    have hS1 := RdK.next HRL.out hS ((Below.refl w1.drew.heap.size w1.drew).alloc (Nat.le_refl _) (.cells (vC 0 0).toArray 100))
    refine hK.out _ _ hS1 (fun _ => ?_)
    clear hK K
    try simp only [Act.put, List.setIfInBounds_toArray, List.set_cons_zero, List.set_cons_succ]
    refine wpAnyH_ready (rs := [10]) (by kernel_rfl) (by simp) ?_
    refine AllReadyH.cons (o := ⟨some 44, _, _, _, _, _⟩) rfl (fun K hK => ?_) AllReadyH.nil
    go_simp
    refine (RdK.readOk HX.out HF.out HS.out HOK.out HV.out HN.out hS1).mono ?_
    rintro e w2 ⟨rfl, hb⟩
    have hS2 := RdK.next HRL.out hS1 hb
    have CC : Hid (Blk w2 w1.heap.size (vC 0 0) 100) := Lib.hid ((Blk.new w1.drew (vC 0 0) 100).of_same (hb.block w1.heap.size (Blk.new w1.drew (vC 0 0) 100).lt))
    clear hb
    refine hK.out _ _ hS2 (fun _ => ?_)
    clear hK K
    try simp only [Act.put, List.setIfInBounds_toArray, List.set_cons_zero, List.set_cons_succ]
    refine wpAnyH_take (i := 11) (oi := ⟨some 33, _, _, _, _, _⟩) (v := .tuple #[.agg #[.int .i64 1, .int .u64 (v : Int), .int .i64 0, .bool false, .string ⟨#[]⟩, .int .i64 0], .int .i64 (n : Int), .int .i64 0]) rfl (by kernel_rfl) (by kernel_rfl) (by kernel_rfl) (fun _ _ _ h => h) (Or.inl ⟨by rfl, fun w hSw => by obtain ⟨_, s1, s2⟩ := hSw; go_simp⟩) hS2 ?_
    try simp only [Act.put, List.setIfInBounds_toArray, List.set_cons_zero, List.set_cons_succ]
    refine wpAnyH_take (i := 12) (oi := ⟨some 45, _, _, _, _, _⟩) (v := .agg #[.int .i64 1, .int .u64 (v : Int), .int .i64 0, .bool false, .string ⟨#[]⟩, .int .i64 0]) rfl (by kernel_rfl) (by kernel_rfl) (by kernel_rfl) (fun _ _ _ h => h) (Or.inl ⟨by rfl, fun w hSw => by obtain ⟨_, s1, s2⟩ := hSw; go_simp⟩) hS2 ?_
    try simp only [Act.put, List.setIfInBounds_toArray, List.set_cons_zero, List.set_cons_succ]
    refine wpAnyH_take (i := 13) (oi := ⟨some 46, _, _, _, _, _⟩) (v := .int .i64 (n : Int)) rfl (by kernel_rfl) (by kernel_rfl) (by kernel_rfl) (fun _ _ _ h => h) (Or.inl ⟨by rfl, fun w hSw => by obtain ⟨_, s1, s2⟩ := hSw; go_simp⟩) hS2 ?_
    try simp only [Act.put, List.setIfInBounds_toArray, List.set_cons_zero, List.set_cons_succ]
    refine wpAnyH_take (i := 14) (oi := ⟨some 47, _, _, _, _, _⟩) (v := .int .i64 0) rfl (by kernel_rfl) (by kernel_rfl) (by kernel_rfl) (fun _ _ _ h => h) (Or.inl ⟨by rfl, fun w hSw => by obtain ⟨_, s1, s2⟩ := hSw; go_simp⟩) hS2 ?_
    try simp only [Act.put, List.setIfInBounds_toArray, List.set_cons_zero, List.set_cons_succ]
    have hne8 : w1.heap.size ≠ rb := by have := HRL.out; omega
    have z0 := CC.out.cell (i := 0) rfl
    have z1 := CC.out.cell (i := 1) rfl
    have z2 := CC.out.cell (i := 2) rfl
    have z3 := CC.out.cell (i := 3) rfl
    have z4 := CC.out.cell (i := 4) rfl
    have z5 := CC.out.cell (i := 5) rfl
    have zf := CC.out.free
    have hS4 : RdK w1 rb (.slice xa l.length xc) ((((((w2.setCell ⟨w1.heap.size, 0, none⟩ (.int .i64 1)).setCell ⟨w1.heap.size, 1, none⟩ (.int .u64 (v : Int))).setCell ⟨w1.heap.size, 2, none⟩ (.int .i64 0)).setCell ⟨w1.heap.size, 3, none⟩ (.bool false)).setCell ⟨w1.heap.size, 4, none⟩ (.string ⟨#[]⟩)).setCell ⟨w1.heap.size, 5, none⟩ (.int .i64 0)) := RdK.six HRL.out hS2 (Nat.le_refl _)
    refine wpAnyH_ready (rs := [16]) (by kernel_rfl) (by simp) ?_
    refine AllReadyH.cons (o := ⟨none, _, _, _, _, _⟩) rfl (fun K hK => ?_) AllReadyH.nil
    go_simp
    refine hK.out _ _ hS4 (fun _ => ?_)
    clear hK K
    try simp only [Act.put, List.setIfInBounds_toArray, List.set_cons_zero, List.set_cons_succ]
    refine wpAnyH_take (i := 17) (oi := ⟨some 9, _, _, _, _, _⟩) (v := .int .i64 (n : Int)) rfl (by kernel_rfl) (by kernel_rfl) (by kernel_rfl) (fun _ _ _ h => h) (Or.inl ⟨by rfl, fun w hSw => by obtain ⟨_, s1, s2⟩ := hSw; go_simp⟩) hS4 ?_
    try simp only [Act.put, List.setIfInBounds_toArray, List.set_cons_zero, List.set_cons_succ]
    refine wpAnyH_take (i := 18) (oi := ⟨some 10, _, _, _, _, _⟩) (v := .int .i64 0) rfl (by kernel_rfl) (by kernel_rfl) (by kernel_rfl) (fun _ _ _ h => h) (Or.inl ⟨by rfl, fun w hSw => by obtain ⟨_, s1, s2⟩ := hSw; go_simp⟩) hS4 ?_
    try simp only [Act.put, List.setIfInBounds_toArray, List.set_cons_zero, List.set_cons_succ]
    refine wpAnyH_done (by kernel_rfl) ?_ _
    have C8 : Hid (Blk ((((((w2.setCell ⟨w1.heap.size, 0, none⟩ (.int .i64 1)).setCell ⟨w1.heap.size, 1, none⟩ (.int .u64 (v : Int))).setCell ⟨w1.heap.size, 2, none⟩ (.int .i64 0)).setCell ⟨w1.heap.size, 3, none⟩ (.bool false)).setCell ⟨w1.heap.size, 4, none⟩ (.string ⟨#[]⟩)).setCell ⟨w1.heap.size, 5, none⟩ (.int .i64 0)) w1.heap.size (vC 1 (v : Int)) 100) := Lib.hid CC.out.six
    have hg8 : w1.heap.size ≤ w1.heap.size := Nat.le_refl _
    have BQ := Lib.hid hS4.1
    clear hS4 zf z0 z1 z2 z3 z4 z5
    generalize ((((((w2.setCell ⟨w1.heap.size, 0, none⟩ (.int .i64 1)).setCell ⟨w1.heap.size, 1, none⟩ (.int .u64 (v : Int))).setCell ⟨w1.heap.size, 2, none⟩ (.int .i64 0)).setCell ⟨w1.heap.size, 3, none⟩ (.bool false)).setCell ⟨w1.heap.size, 4, none⟩ (.string ⟨#[]⟩)).setCell ⟨w1.heap.size, 5, none⟩ (.int .i64 0)) = w3 at *
    obtain ⟨g8, hg8e⟩ : ∃ g8, w1.heap.size = g8 := ⟨_, rfl⟩
    have hg8 : w1.heap.size ≤ g8 := by omega
    rw [hg8e] at C8 ⊢
    clear hg8e
    have Q6 := Lib.hid (P6.out.of_same (BQ.out.block _ P6.out.lt))
    have QR := Lib.hid (PR.out.of_same (BQ.out.block _ PR.out.lt))
    have HB0 : Hid (w.heap.size < w1.heap.size) := Lib.hid P6.out.lt
    have a0 := Q6.out.cell (i := 0) rfl
    have d0 := C8.out.cell (i := 0) rfl
    have a1 := Q6.out.cell (i := 1) rfl
    have d1 := C8.out.cell (i := 1) rfl
    have a2 := Q6.out.cell (i := 2) rfl
    have d2 := C8.out.cell (i := 2) rfl
    have a3 := Q6.out.cell (i := 3) rfl
    have d3 := C8.out.cell (i := 3) rfl
    have a4 := Q6.out.cell (i := 4) rfl
    have d4 := C8.out.cell (i := 4) rfl
    have a5 := Q6.out.cell (i := 5) rfl
    have d5 := C8.out.cell (i := 5) rfl
    have af := Q6.out.free
    have e1 := QR.out.cell (i := 1) rfl
    have e2 := QR.out.cell (i := 2) rfl
    have ef := QR.out.free
    have n1 : g8 ≠ rb := by have := HRL.out; omega
    have n2 : g8 ≠ w.heap.size := by have := HB0.out; omega
    have n3 : rb ≠ w.heap.size := by omega
    clear q0 q1 r0 r1 r3
    go_wp2_with fail
    have st : Stp (· = rb) w w3 := Stp.of_below _ (B1.out.trans (BQ.out.mono B1.out.size))
    have R := ((Q6.out.set_ne (a := ⟨rb, 2, none⟩) (Ne.symm n3) (.int .i64 0)).set_ne (a := ⟨rb, 1, none⟩) (Ne.symm n3) (.int .i64 (n : Int))).six (d0 := .int .i64 1) (d1 := .int .u64 (v : Int)) (d2 := .int .i64 0) (d3 := .bool false) (d4 := .string ⟨#[]⟩) (d5 := .int .i64 0)
    refine bodyPost_ret (results_cell_row rfl _ _ w.heap.size 100 (vC 1 (v : Int)).toArray (0, 0) _ rfl R Tryd.underlying100 rfl Tryd.sizeVal) rfl ⟨rfl, ?_, ?_⟩
    · exact (((((((st.set (.inl (.inl rfl)) _).set (.inl (.inl rfl)) _).set (.inr (Nat.le_refl _)) _).set (.inr (Nat.le_refl _)) _).set (.inr (Nat.le_refl _)) _).set (.inr (Nat.le_refl _)) _).set (.inr (Nat.le_refl _)) _).set (.inr (Nat.le_refl _)) _
    · exact ((((((((QR.out.set 2 (.int .i64 0)).set 1 (.int .i64 (n : Int))).set_ne n3 _).set_ne n3 _).set_ne n3 _).set_ne n3 _).set_ne n3 _).set_ne n3 _)
set_option maxRecDepth 100000 in
set_option maxHeartbeats 2000000 in
theorem refRead_no {rb : Nat} (hb : Blk w rb [xv, .int .i64 0, .int .i64 0, .int .i64 0] 98) (hx : BV w F xv l) (hF : ∀ k, F k → k < w.heap.size) (hs : Fr.Shp l) (hok : Fr.num (Fr.lval l) ≠ l) : Calls Tryd.prog 62 #[.pointer (some ⟨rb, 0, none⟩), .int .i64 1, .int .i64 0] w fun e w' => e = .returned (.agg (vC 1 0).toArray) ∧ Stp (· = rb) w w' ∧ Blk w' rb [xv, .int .i64 0, .int .i64 0, .int .i64 3] 98 := by
  obtain ⟨xa, xc, rfl, x1, x2, -⟩ := hx.get
  have r0 := hb.cell (i := 0) rfl
  have r1 := hb.cell (i := 1) rfl
  have r3 := hb.cell (i := 3) rfl
  have rlt := hb.lt
  have hb1 : Below w.heap.size w ((w.alloc (.cells (vC 0 0).toArray 100)).alloc (.cells (vC 1 0).toArray 100)) := ((Below.refl _ _).alloc (Nat.le_refl _) _).alloc (by simp) _
  have B1 := Lib.hid hb1
  have P6 : Hid (Blk ((w.alloc (.cells (vC 0 0).toArray 100)).alloc (.cells (vC 1 0).toArray 100)) w.heap.size (vC 0 0) 100) := Lib.hid ((Blk.new w (vC 0 0) _).alloc _)
  have P7 : Hid (Blk ((w.alloc (.cells (vC 0 0).toArray 100)).alloc (.cells (vC 1 0).toArray 100)) (w.heap.size + 1) (vC 1 0) 100) := Lib.hid (Blk.newAt (k := w.heap.size + 1) (w.alloc (.cells (vC 0 0).toArray 100)) (vC 1 0) _ (by simp))
  have PR : Hid (Blk ((w.alloc (.cells (vC 0 0).toArray 100)).alloc (.cells (vC 1 0).toArray 100)) rb _ _) := Lib.hid ((hb.alloc _).alloc _)
  have HX := Lib.hid (hx.grow hb1)
  have HF := Lib.hid (fun k hk => Nat.lt_of_lt_of_le (hF k hk) hb1.size)
  have HS := Lib.hid hs
  have HOK := Lib.hid hok
  have HRL : Hid (rb < ((w.alloc (.cells (vC 0 0).toArray 100)).alloc (.cells (vC 1 0).toArray 100)).heap.size) := Lib.hid (by simp; omega)
  unfold maxLen at x2
  clear hx hF hs hb hok hb1
  go_enter Tryd.func62, Tryd.ntmps62
  go_wp2_with fail
  generalize ((w.alloc (.cells (vC 0 0).toArray 100)).alloc (.cells (vC 1 0).toArray 100)) = w1 at *
  have HK0 := Lib.hid (RdK.start PR.out)
  have q0 := PR.out.cell (i := 0) rfl
  have q1 := PR.out.cell (i := 1) rfl
  refine wp_region_held_drew (S := (fun w' => Below w1.heap.size w1 w' ∧ w'.cell? ⟨rb, 0, none⟩ = some (.slice xa l.length xc) ∧ w'.cell? ⟨rb, 1, none⟩ = some (.int .i64 0))) (by kernel_rfl) HK0.out (fun hS => ?_)
  refine wpAnyH_take (i := 0) (oi := ⟨some 34, _, _, _, _, _⟩) (v := .pointer (some ⟨rb, 0, none⟩)) rfl (by kernel_rfl) (by kernel_rfl) (by kernel_rfl) (fun _ _ _ h => h) (Or.inl ⟨by rfl, fun w hSw => by obtain ⟨_, s1, s2⟩ := hSw; go_simp⟩) hS ?_
  try simp only [Act.put, List.setIfInBounds_toArray, List.set_cons_zero, List.set_cons_succ]
  refine wpAnyH_take (i := 1) (oi := ⟨some 35, _, _, _, _, _⟩) (v := .pointer (some ⟨rb, 0, none⟩)) rfl (by kernel_rfl) (by kernel_rfl) (by kernel_rfl) (fun _ _ _ h => h) (Or.inl ⟨by rfl, fun w hSw => by obtain ⟨_, s1, s2⟩ := hSw; go_simp⟩) hS ?_
  try simp only [Act.put, List.setIfInBounds_toArray, List.set_cons_zero, List.set_cons_succ]
  refine wpAnyH_take (i := 2) (oi := ⟨some 36, _, _, _, _, _⟩) (v := .pointer (some ⟨rb, 0, none⟩)) rfl (by kernel_rfl) (by kernel_rfl) (by kernel_rfl) (fun _ _ _ h => h) (Or.inl ⟨by rfl, fun w hSw => by obtain ⟨_, s1, s2⟩ := hSw; go_simp⟩) hS ?_
  try simp only [Act.put, List.setIfInBounds_toArray, List.set_cons_zero, List.set_cons_succ]
  refine wpAnyH_take (i := 3) (oi := ⟨some 37, _, _, _, _, _⟩) (v := .slice xa l.length xc) rfl (by kernel_rfl) (by kernel_rfl) (by kernel_rfl) (fun _ _ _ h => h) (Or.inl ⟨by rfl, fun w hSw => by obtain ⟨_, s1, s2⟩ := hSw; go_simp⟩) hS ?_
  try simp only [Act.put, List.setIfInBounds_toArray, List.set_cons_zero, List.set_cons_succ]
  refine wpAnyH_take (i := 4) (oi := ⟨some 38, _, _, _, _, _⟩) (v := .pointer (some ⟨rb, 0, none⟩)) rfl (by kernel_rfl) (by kernel_rfl) (by kernel_rfl) (fun _ _ _ h => h) (Or.inl ⟨by rfl, fun w hSw => by obtain ⟨_, s1, s2⟩ := hSw; go_simp⟩) hS ?_
  try simp only [Act.put, List.setIfInBounds_toArray, List.set_cons_zero, List.set_cons_succ]
  refine wpAnyH_take (i := 5) (oi := ⟨some 39, _, _, _, _, _⟩) (v := .pointer (some ⟨rb, 0, none⟩)) rfl (by kernel_rfl) (by kernel_rfl) (by kernel_rfl) (fun _ _ _ h => h) (Or.inl ⟨by rfl, fun w hSw => by obtain ⟨_, s1, s2⟩ := hSw; go_simp⟩) hS ?_
  try simp only [Act.put, List.setIfInBounds_toArray, List.set_cons_zero, List.set_cons_succ]
  refine wpAnyH_take (i := 6) (oi := ⟨some 40, _, _, _, _, _⟩) (v := .pointer (some ⟨rb, 1, none⟩)) rfl (by kernel_rfl) (by kernel_rfl) (by kernel_rfl) (fun _ _ _ h => h) (Or.inl ⟨by rfl, fun w hSw => by obtain ⟨_, s1, s2⟩ := hSw; go_simp⟩) hS ?_
  try simp only [Act.put, List.setIfInBounds_toArray, List.set_cons_zero, List.set_cons_succ]
  refine wpAnyH_take (i := 7) (oi := ⟨some 41, _, _, _, _, _⟩) (v := .int .i64 0) rfl (by kernel_rfl) (by kernel_rfl) (by kernel_rfl) (fun _ _ _ h => h) (Or.inl ⟨by rfl, fun w hSw => by obtain ⟨_, s1, s2⟩ := hSw; go_simp⟩) hS ?_
  try simp only [Act.put, List.setIfInBounds_toArray, List.set_cons_zero, List.set_cons_succ]
  refine wpAnyH_take (i := 8) (oi := ⟨some 42, _, _, _, _, _⟩) (v := .int .i64 1) rfl (by kernel_rfl) (by kernel_rfl) (by kernel_rfl) (fun _ _ _ h => h) (Or.inl ⟨by rfl, fun w hSw => by obtain ⟨_, s1, s2⟩ := hSw; go_simp⟩) hS ?_
  try simp only [Act.put, List.setIfInBounds_toArray, List.set_cons_zero, List.set_cons_succ]
  refine wpAnyH_take (i := 9) (oi := ⟨some 43, _, _, _, _, _⟩) (v := .int .i64 0) rfl (by kernel_rfl) (by kernel_rfl) (by kernel_rfl) (fun _ _ _ h => h) (Or.inl ⟨by rfl, fun w hSw => by obtain ⟨_, s1, s2⟩ := hSw; go_simp⟩) hS ?_
  try simp only [Act.put, List.setIfInBounds_toArray, List.set_cons_zero, List.set_cons_succ]
  refine wpAnyH_ready (rs := [10, 15]) (by kernel_rfl) (by simp) ?_
  refine AllReadyH.cons (o := ⟨some 44, _, _, _, _, _⟩) rfl (fun K hK => ?_) (AllReadyH.cons (o := ⟨some 8, _, _, _, _, _⟩) rfl (fun K hK => ?_) AllReadyH.nil)
  · go_simp
    refine (RdK.readNo HX.out HF.out HS.out HOK.out hS).mono ?_
    rintro e w2 ⟨rfl, hb⟩
    have hS2 := RdK.next HRL.out hS hb
    refine hK.out _ _ hS2 (fun _ => ?_)
    clear hK K hb
    try simp only [Act.put, List.setIfInBounds_toArray, List.set_cons_zero, List.set_cons_succ]
    refine wpAnyH_take (i := 11) (oi := ⟨some 33, _, _, _, _, _⟩) (v := .tuple #[.agg #[.int .i64 1, .int .u64 0, .int .i64 0, .bool false, .string ⟨#[]⟩, .int .i64 0], .int .i64 0, .int .i64 3]) rfl (by kernel_rfl) (by kernel_rfl) (by kernel_rfl) (fun _ _ _ h => h) (Or.inl ⟨by rfl, fun w hSw => by obtain ⟨_, s1, s2⟩ := hSw; go_simp⟩) hS2 ?_
    try simp only [Act.put, List.setIfInBounds_toArray, List.set_cons_zero, List.set_cons_succ]
    refine wpAnyH_take (i := 12) (oi := ⟨some 45, _, _, _, _, _⟩) (v := .agg #[.int .i64 1, .int .u64 0, .int .i64 0, .bool false, .string ⟨#[]⟩, .int .i64 0]) rfl (by kernel_rfl) (by kernel_rfl) (by kernel_rfl) (fun _ _ _ h => h) (Or.inl ⟨by rfl, fun w hSw => by obtain ⟨_, s1, s2⟩ := hSw; go_simp⟩) hS2 ?_
    try simp only [Act.put, List.setIfInBounds_toArray, List.set_cons_zero, List.set_cons_succ]
    refine wpAnyH_take (i := 13) (oi := ⟨some 46, _, _, _, _, _⟩) (v := .int .i64 0) rfl (by kernel_rfl) (by kernel_rfl) (by kernel_rfl) (fun _ _ _ h => h) (Or.inl ⟨by rfl, fun w hSw => by obtain ⟨_, s1, s2⟩ := hSw; go_simp⟩) hS2 ?_
    try simp only [Act.put, List.setIfInBounds_toArray, List.set_cons_zero, List.set_cons_succ]
    refine wpAnyH_take (i := 14) (oi := ⟨some 47, _, _, _, _, _⟩) (v := .int .i64 3) rfl (by kernel_rfl) (by kernel_rfl) (by kernel_rfl) (fun _ _ _ h => h) (Or.inl ⟨by rfl, fun w hSw => by obtain ⟨_, s1, s2⟩ := hSw; go_simp⟩) hS2 ?_
    try simp only [Act.put, List.setIfInBounds_toArray, List.set_cons_zero, List.set_cons_succ]
    refine wpAnyH_ready (rs := [15]) (by kernel_rfl) (by simp) ?_
    refine AllReadyH.cons (o := ⟨some 8, _, _, _, _, _⟩) rfl (fun K hK => ?_) AllReadyH.nil
    go_simp
    have hS3 := RdK.next HRL.out hS2 ((Below.refl w2.heap.size w2).alloc (Nat.le_refl _) (.cells (vC 0 0).toArray 100))
    refine hK.out _ _ hS3 (fun _ => ?_)
    clear hK K
    try simp only [Act.put, List.setIfInBounds_toArray, List.set_cons_zero, List.set_cons_succ]
    refine wpAnyH_ready (rs := [16]) (by kernel_rfl) (by simp) ?_
    refine AllReadyH.cons (o := ⟨none, _, _, _, _, _⟩) rfl (fun K hK => ?_) AllReadyH.nil
    go_simp
    have hS4 := RdK.next HRL.out hS2 ((Below.refl w2.heap.size w2).alloc (Nat.le_refl _) (.cells (vC 1 0).toArray 100))
    refine hK.out _ _ hS4 (fun _ => ?_)
    clear hK K
    try simp only [Act.put, List.setIfInBounds_toArray, List.set_cons_zero, List.set_cons_succ]
    refine wpAnyH_take (i := 17) (oi := ⟨some 9, _, _, _, _, _⟩) (v := .int .i64 0) rfl (by kernel_rfl) (by kernel_rfl) (by kernel_rfl) (fun _ _ _ h => h) (Or.inl ⟨by rfl, fun w hSw => by obtain ⟨_, s1, s2⟩ := hSw; go_simp⟩) hS4 ?_
    try simp only [Act.put, List.setIfInBounds_toArray, List.set_cons_zero, List.set_cons_succ]
    refine wpAnyH_take (i := 18) (oi := ⟨some 10, _, _, _, _, _⟩) (v := .int .i64 3) rfl (by kernel_rfl) (by kernel_rfl) (by kernel_rfl) (fun _ _ _ h => h) (Or.inl ⟨by rfl, fun w hSw => by obtain ⟨_, s1, s2⟩ := hSw; go_simp⟩) hS4 ?_
    try simp only [Act.put, List.setIfInBounds_toArray, List.set_cons_zero, List.set_cons_succ]
    refine wpAnyH_done (by kernel_rfl) ?_ _
    have C8 : Hid (Blk (w2.alloc (.cells (vC 1 0).toArray 100)) w2.heap.size (vC 1 0) 100) := Lib.hid (Blk.new w2 _ _)
    have hg8 : w1.heap.size ≤ w2.heap.size := hS2.1.size
    have BQ := Lib.hid hS4.1
    generalize w2.alloc (.cells (vC 1 0).toArray 100) = w3 at *
    generalize w2.heap.size = g8 at *
    have Q6 := Lib.hid (P6.out.of_same (BQ.out.block _ P6.out.lt))
    have Q7 := Lib.hid (P7.out.of_same (BQ.out.block _ P7.out.lt))
    have QR := Lib.hid (PR.out.of_same (BQ.out.block _ PR.out.lt))
    have HB0 : Hid (w.heap.size < w1.heap.size) := Lib.hid P6.out.lt
    have a0 := Q6.out.cell (i := 0) rfl
    have d0 := Q7.out.cell (i := 0) rfl
    have a1 := Q6.out.cell (i := 1) rfl
    have d1 := Q7.out.cell (i := 1) rfl
    have a2 := Q6.out.cell (i := 2) rfl
    have d2 := Q7.out.cell (i := 2) rfl
    have a3 := Q6.out.cell (i := 3) rfl
    have d3 := Q7.out.cell (i := 3) rfl
    have a4 := Q6.out.cell (i := 4) rfl
    have d4 := Q7.out.cell (i := 4) rfl
    have a5 := Q6.out.cell (i := 5) rfl
    have d5 := Q7.out.cell (i := 5) rfl
    have af := Q6.out.free
    have e1 := QR.out.cell (i := 3) rfl
    have ef := QR.out.free
    have n1 : w.heap.size + 1 ≠ rb := by omega
    have n3 : rb ≠ w.heap.size := by omega
    clear q0 q1 r0 r1 r3
    go_wp2_with fail
    have st : Stp (· = rb) w w3 := Stp.of_below _ (B1.out.trans (BQ.out.mono B1.out.size))
    have R := (Q6.out.set_ne (a := ⟨rb, 3, none⟩) (Ne.symm n3) (.int .i64 3)).six (d0 := .int .i64 1) (d1 := .int .u64 0) (d2 := .int .i64 0) (d3 := .bool false) (d4 := .string ⟨#[]⟩) (d5 := .int .i64 0)
    refine bodyPost_ret (results_cell_row rfl _ _ w.heap.size 100 (vC 1 0).toArray (0, 0) _ rfl R Tryd.underlying100 rfl Tryd.sizeVal) rfl ⟨rfl, ?_, ?_⟩
    · exact ((((((st.set (.inl (.inl rfl)) _).set (.inr (Nat.le_refl _)) _).set (.inr (Nat.le_refl _)) _).set (.inr (Nat.le_refl _)) _).set (.inr (Nat.le_refl _)) _).set (.inr (Nat.le_refl _)) _).set (.inr (Nat.le_refl _)) _
    · exact (((((((QR.out.set 3 (.int .i64 3)).set_ne n3 _).set_ne n3 _).set_ne n3 _).set_ne n3 _).set_ne n3 _).set_ne n3 _)
  · go_simp
    have hS1 := RdK.next HRL.out hS ((Below.refl w1.drew.heap.size w1.drew).alloc (Nat.le_refl _) (.cells (vC 0 0).toArray 100))
    refine hK.out _ _ hS1 (fun _ => ?_)
    clear hK K
    try simp only [Act.put, List.setIfInBounds_toArray, List.set_cons_zero, List.set_cons_succ]
    refine wpAnyH_ready (rs := [10]) (by kernel_rfl) (by simp) ?_
    refine AllReadyH.cons (o := ⟨some 44, _, _, _, _, _⟩) rfl (fun K hK => ?_) AllReadyH.nil
    go_simp
    refine (RdK.readNo HX.out HF.out HS.out HOK.out hS1).mono ?_
    rintro e w2 ⟨rfl, hb⟩
    have hS2 := RdK.next HRL.out hS1 hb
    have CC : Hid (Blk w2 w1.heap.size (vC 0 0) 100) := Lib.hid ((Blk.new w1.drew (vC 0 0) 100).of_same (hb.block w1.heap.size (Blk.new w1.drew (vC 0 0) 100).lt))
    clear hb
    refine hK.out _ _ hS2 (fun _ => ?_)
    clear hK K
    try simp only [Act.put, List.setIfInBounds_toArray, List.set_cons_zero, List.set_cons_succ]
    refine wpAnyH_take (i := 11) (oi := ⟨some 33, _, _, _, _, _⟩) (v := .tuple #[.agg #[.int .i64 1, .int .u64 0, .int .i64 0, .bool false, .string ⟨#[]⟩, .int .i64 0], .int .i64 0, .int .i64 3]) rfl (by kernel_rfl) (by kernel_rfl) (by kernel_rfl) (fun _ _ _ h => h) (Or.inl ⟨by rfl, fun w hSw => by obtain ⟨_, s1, s2⟩ := hSw; go_simp⟩) hS2 ?_
    try simp only [Act.put, List.setIfInBounds_toArray, List.set_cons_zero, List.set_cons_succ]
    refine wpAnyH_take (i := 12) (oi := ⟨some 45, _, _, _, _, _⟩) (v := .agg #[.int .i64 1, .int .u64 0, .int .i64 0, .bool false, .string ⟨#[]⟩, .int .i64 0]) rfl (by kernel_rfl) (by kernel_rfl) (by kernel_rfl) (fun _ _ _ h => h) (Or.inl ⟨by rfl, fun w hSw => by obtain ⟨_, s1, s2⟩ := hSw; go_simp⟩) hS2 ?_
    try simp only [Act.put, List.setIfInBounds_toArray, List.set_cons_zero, List.set_cons_succ]
    refine wpAnyH_take (i := 13) (oi := ⟨some 46, _, _, _, _, _⟩) (v := .int .i64 0) rfl (by kernel_rfl) (by kernel_rfl) (by kernel_rfl) (fun _ _ _ h => h) (Or.inl ⟨by rfl, fun w hSw => by obtain ⟨_, s1, s2⟩ := hSw; go_simp⟩) hS2 ?_
    try simp only [Act.put, List.setIfInBounds_toArray, List.set_cons_zero, List.set_cons_succ]
    refine wpAnyH_take (i := 14) (oi := ⟨some 47, _, _, _, _, _⟩) (v := .int .i64 3) rfl (by kernel_rfl) (by kernel_rfl) (by kernel_rfl) (fun _ _ _ h => h) (Or.inl ⟨by rfl, fun w hSw => by obtain ⟨_, s1, s2⟩ := hSw; go_simp⟩) hS2 ?_
    try simp only [Act.put, List.setIfInBounds_toArray, List.set_cons_zero, List.set_cons_succ]
    have hne8 : w1.heap.size ≠ rb := by have := HRL.out; omega
    have z0 := CC.out.cell (i := 0) rfl
    have z1 := CC.out.cell (i := 1) rfl
    have z2 := CC.out.cell (i := 2) rfl
    have z3 := CC.out.cell (i := 3) rfl
    have z4 := CC.out.cell (i := 4) rfl
    have z5 := CC.out.cell (i := 5) rfl
    have zf := CC.out.free
    have hS4 : RdK w1 rb (.slice xa l.length xc) ((((((w2.setCell ⟨w1.heap.size, 0, none⟩ (.int .i64 1)).setCell ⟨w1.heap.size, 1, none⟩ (.int .u64 0)).setCell ⟨w1.heap.size, 2, none⟩ (.int .i64 0)).setCell ⟨w1.heap.size, 3, none⟩ (.bool false)).setCell ⟨w1.heap.size, 4, none⟩ (.string ⟨#[]⟩)).setCell ⟨w1.heap.size, 5, none⟩ (.int .i64 0)) := RdK.six HRL.out hS2 (Nat.le_refl _)
    refine wpAnyH_ready (rs := [16]) (by kernel_rfl) (by simp) ?_
    refine AllReadyH.cons (o := ⟨none, _, _, _, _, _⟩) rfl (fun K hK => ?_) AllReadyH.nil
    go_simp
    refine hK.out _ _ hS4 (fun _ => ?_)
    clear hK K
    try simp only [Act.put, List.setIfInBounds_toArray, List.set_cons_zero, List.set_cons_succ]
    refine wpAnyH_take (i := 17) (oi := ⟨some 9, _, _, _, _, _⟩) (v := .int .i64 0) rfl (by kernel_rfl) (by kernel_rfl) (by kernel_rfl) (fun _ _ _ h => h) (Or.inl ⟨by rfl, fun w hSw => by obtain ⟨_, s1, s2⟩ := hSw; go_simp⟩) hS4 ?_
    try simp only [Act.put, List.setIfInBounds_toArray, List.set_cons_zero, List.set_cons_succ]
    refine wpAnyH_take (i := 18) (oi := ⟨some 10, _, _, _, _, _⟩) (v := .int .i64 3) rfl (by kernel_rfl) (by kernel_rfl) (by kernel_rfl) (fun _ _ _ h => h) (Or.inl ⟨by rfl, fun w hSw => by obtain ⟨_, s1, s2⟩ := hSw; go_simp⟩) hS4 ?_
    try simp only [Act.put, List.setIfInBounds_toArray, List.set_cons_zero, List.set_cons_succ]
    refine wpAnyH_done (by kernel_rfl) ?_ _
    have C8 : Hid (Blk ((((((w2.setCell ⟨w1.heap.size, 0, none⟩ (.int .i64 1)).setCell ⟨w1.heap.size, 1, none⟩ (.int .u64 0)).setCell ⟨w1.heap.size, 2, none⟩ (.int .i64 0)).setCell ⟨w1.heap.size, 3, none⟩ (.bool false)).setCell ⟨w1.heap.size, 4, none⟩ (.string ⟨#[]⟩)).setCell ⟨w1.heap.size, 5, none⟩ (.int .i64 0)) w1.heap.size (vC 1 0) 100) := Lib.hid CC.out.six
    have hg8 : w1.heap.size ≤ w1.heap.size := Nat.le_refl _
    have BQ := Lib.hid hS4.1
    clear hS4 zf z0 z1 z2 z3 z4 z5
    generalize ((((((w2.setCell ⟨w1.heap.size, 0, none⟩ (.int .i64 1)).setCell ⟨w1.heap.size, 1, none⟩ (.int .u64 0)).setCell ⟨w1.heap.size, 2, none⟩ (.int .i64 0)).setCell ⟨w1.heap.size, 3, none⟩ (.bool false)).setCell ⟨w1.heap.size, 4, none⟩ (.string ⟨#[]⟩)).setCell ⟨w1.heap.size, 5, none⟩ (.int .i64 0)) = w3 at *
    obtain ⟨g8, hg8e⟩ : ∃ g8, w1.heap.size = g8 := ⟨_, rfl⟩
    have hg8 : w1.heap.size ≤ g8 := by omega
    rw [hg8e] at C8 ⊢
    clear hg8e
    have Q6 := Lib.hid (P6.out.of_same (BQ.out.block _ P6.out.lt))
    have Q7 := Lib.hid (P7.out.of_same (BQ.out.block _ P7.out.lt))
    have QR := Lib.hid (PR.out.of_same (BQ.out.block _ PR.out.lt))
    have HB0 : Hid (w.heap.size < w1.heap.size) := Lib.hid P6.out.lt
    have a0 := Q6.out.cell (i := 0) rfl
    have d0 := Q7.out.cell (i := 0) rfl
    have a1 := Q6.out.cell (i := 1) rfl
    have d1 := Q7.out.cell (i := 1) rfl
    have a2 := Q6.out.cell (i := 2) rfl
    have d2 := Q7.out.cell (i := 2) rfl
    have a3 := Q6.out.cell (i := 3) rfl
    have d3 := Q7.out.cell (i := 3) rfl
    have a4 := Q6.out.cell (i := 4) rfl
    have d4 := Q7.out.cell (i := 4) rfl
    have a5 := Q6.out.cell (i := 5) rfl
    have d5 := Q7.out.cell (i := 5) rfl
    have af := Q6.out.free
    have e1 := QR.out.cell (i := 3) rfl
    have ef := QR.out.free
    have n1 : w.heap.size + 1 ≠ rb := by omega
    have n3 : rb ≠ w.heap.size := by omega
    clear q0 q1 r0 r1 r3
    go_wp2_with fail
    have st : Stp (· = rb) w w3 := Stp.of_below _ (B1.out.trans (BQ.out.mono B1.out.size))
    have R := (Q6.out.set_ne (a := ⟨rb, 3, none⟩) (Ne.symm n3) (.int .i64 3)).six (d0 := .int .i64 1) (d1 := .int .u64 0) (d2 := .int .i64 0) (d3 := .bool false) (d4 := .string ⟨#[]⟩) (d5 := .int .i64 0)
    refine bodyPost_ret (results_cell_row rfl _ _ w.heap.size 100 (vC 1 0).toArray (0, 0) _ rfl R Tryd.underlying100 rfl Tryd.sizeVal) rfl ⟨rfl, ?_, ?_⟩
    · exact ((((((st.set (.inl (.inl rfl)) _).set (.inr (Nat.le_refl _)) _).set (.inr (Nat.le_refl _)) _).set (.inr (Nat.le_refl _)) _).set (.inr (Nat.le_refl _)) _).set (.inr (Nat.le_refl _)) _).set (.inr (Nat.le_refl _)) _
    · exact (((((((QR.out.set 3 (.int .i64 3)).set_ne n3 _).set_ne n3 _).set_ne n3 _).set_ne n3 _).set_ne n3 _).set_ne n3 _)
end
end Go.Proofs.YtggiinfeiilogaaDoor
