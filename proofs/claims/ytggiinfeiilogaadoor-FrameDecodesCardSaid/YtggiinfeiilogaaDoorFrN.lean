/- Contracts of a decoder's Next. -/
import Derived.Test.YtggiinfeiilogaaDoorFrD
import Derived.Deep.RegionHeld3
namespace Go.Proofs.YtggiinfeiilogaaDoor
open Go.RowKit
section
variable {w w' : World} {F G : Nat → Prop} {v xv : Value} {l m : List UInt8}
/-- A message as a value. -/
def msgV (k : Int) (bv : Value) : Value := .agg #[.int .i64 k, bv]
theorem results_msg {P : Program} {fn : Func} {p u x : Tmp} {ty : TypeId} (h : fn.results = #[.cell p ty, .tmp u, .tmp x]) (tmps : Array Value) (w : World) (g : Nat) (t : TypeId) (cs : Array Value) (fr : Nat × Nat) (d : TypeDesc)
    (hp : tmps.getD p undef = .pointer (some ⟨g, 0, none⟩)) (hg : w.heap[g]? = some (.cells cs t fr))
    (hu : P.underlying ty = some d) (hd : (match d with | .struct _ | .array _ _ => true | _ => false) = true) (hi : (P.info? ty).map (·.size) = some cs.size) :
    (results fn tmps).run P w = .ok (.tuple #[.agg cs, tmps.getD u undef, tmps.getD x undef]) w := by
  have hp' : tmps[p]?.getD undef = .pointer (some ⟨g, 0, none⟩) := by simpa using hp
  simp [results, h, hp', asAddr, run_loadVar_row w g t ty cs fr d hg hu hd hi]
theorem Tryd.sizeMsg : (Tryd.prog.info? 32).map (·.size) = some 2 := by kernel_rfl
theorem ret_msg {fn : Func} {p u x : Tmp} (h : fn.results = #[.cell p 32, .tmp u, .tmp x]) {tmps : Array Value} {w : World} {g : Nat} {c0 c1 : Value} {R : Ending → World → Prop} {ds : List Deferred}
    (hp : tmps.getD p undef = .pointer (some ⟨g, 0, none⟩)) (hb : Blk w g [c0, c1] 32) (hds : ds = []) (hR : R (.returned (.tuple #[.agg #[c0, c1], tmps.getD u undef, tmps.getD x undef])) w) :
    bodyPost Tryd.prog fn R .ret ⟨tmps, ds⟩ w :=
  bodyPost_ret (results_msg h tmps w g _ _ _ _ hp hb Tryd.underlying32 rfl Tryd.sizeMsg) hds hR
set_option maxHeartbeats 1000000 in
theorem broken_any (b : Nat) (w : World) : Calls Tryd.prog 64 #[.pointer (some ⟨b, 0, none⟩)] w fun e w' => e = .returned (.tuple #[.agg #[.int .i64 0, .slice none 0 0], .bool false, .int .i64 9]) ∧ Below w.heap.size w w' := by
  go_enter Tryd.func64, Tryd.ntmps64
  go_wp2_with fail
  refine ret_msg rfl (g := w.heap.size) rfl (Blk.new w [.int .i64 0, .slice none 0 0] _) rfl ?_
  exact ⟨rfl, (Below.refl _ _).alloc (Nat.le_refl _) _⟩
/-- The store of a value of one cell that the walk does not see through (a function). -/
theorem wpList_store_fn {P : Program} {ops : Array Oper} {rest : List Oper} {op : Oper} {a : Act} {w : World} {Q : Exit → Act → World → Prop} (hgd : op.guard = none) (ty : TypeId) (x y : Operand) (ho : op.op = .store ty x y)
    (b o : Nat) (v : Value) (hx : a.eval x = .pointer (some ⟨b, o, none⟩)) (hy : a.eval y = v) (hv : v.cells = #[v]) (hi : (P.info? ty).map (·.size) = some 1) (h1 : v.oneCell' = true)
    (hc : (w.cell? ⟨b, o, none⟩).isSome = true) (hf : w.frozen? ⟨b, o, none⟩ = false)
    (h : wpList P ops Q rest (a.put op.dst undef) (w.setCell ⟨b, o, none⟩ v)) : wpList P ops Q (op :: rest) a w := by
  refine wpList_plain hgd fun K hK => ?_
  have hrun := run_storeCells_cells (P := P) b o [v] 0 w (fun j hj => by simp at hj; subst hj; simpa using hc) (fun j hj => by simp at hj; subst hj; simpa using hf) (fun u hu => by simp at hu; subst hu; exact h1)
  have hst : (storeVar ty ⟨b, o, none⟩ v).run P w = .ok () (w.setCell ⟨b, o, none⟩ v) := by
    cases hq : P.info? ty with
    | none => simp [hq] at hi
    | some i =>
      have hs : i.size = 1 := by simpa [hq] using hi
      have : (storeCells ⟨b, o, none⟩ [v] 0).run P w = .ok () (w.setCell ⟨b, o, none⟩ v) := hrun
      simp [storeVar, sizeOf, typeInfo, hq, hv, hs, this]
  unfold Oper.wp execOp
  simp only [ho, hx, hy, Instr.storeAt, Instr.sureAddr, Sem.run_bind, Sem.run_pure, Result.andThen_ok, hst]
  exact hK _ _ h
theorem Tryd.sizeFn : (Tryd.prog.info? 77).map (·.size) = some 1 := by kernel_rfl
abbrev msg0 : Value := .agg #[.int .i64 0, .slice none 0 0]
set_option maxRecDepth 100000 in
set_option maxHeartbeats 1000000 in
theorem corrupt_any {b : Nat} (h : DecAt w b F (.live l)) (hl : 0 < l.length) : Calls Tryd.prog 57 #[.pointer (some ⟨b, 0, none⟩)] w fun e w' => e = .returned (.tuple #[msg0, .bool false, .int .i64 9]) ∧ Stp F w w' ∧ DecAt w' b F (.dead l.length) := by
  obtain ⟨hF, hI, sv, hbuf, hblk⟩ := h
  have hlt := hI b hF
  obtain ⟨a, c, rfl, _⟩ := hbuf.bv.get
  have HF := Lib.hid hF
  have HI := Lib.hid hI
  have HL := Lib.hid hl
  have HB := Lib.hid hblk
  obtain ⟨w1, hw1⟩ : ∃ w1, w.alloc (.cells #[.int .i64 0, .slice none 0 0] 32) = w1 := ⟨_, rfl⟩
  have d0 : w1.cell? ⟨b, 0, none⟩ = some (.slice a l.length c) := by rw [← hw1]; exact (hblk.alloc _).cell rfl
  have e1 : w1.cell? ⟨b, 1, none⟩ = some (.int .i64 0) := by rw [← hw1]; exact (hblk.alloc _).cell rfl
  have e2 : w1.cell? ⟨b, 2, none⟩ = some (.func (.func 43) #[] #[]) := by rw [← hw1]; exact (hblk.alloc _).cell rfl
  have f1 : ∀ i, w1.frozen? ⟨b, i, none⟩ = false := by rw [← hw1]; exact (hblk.alloc _).free
  have S1 : Hid (Stp F w w1) := Lib.hid (by rw [← hw1]; exact (Stp.refl _ _).alloc _)
  have B1 : Hid (Blk w1 b [.slice a l.length c, .int .i64 0, fnRead] 79) := Lib.hid (by rw [← hw1]; exact hblk.alloc _)
  have P1 : Hid (Blk w1 w.heap.size [.int .i64 0, .slice none 0 0] 32) := Lib.hid (by rw [← hw1]; exact Blk.new w _ _)
  clear hF hI hbuf hblk hl
  have K2 : Hid (Blk ((w1.setCell ⟨b, 1, none⟩ (.int .i64 (l.length : Int))).setCell ⟨b, 0, none⟩ (.slice none 0 0)) b [.slice none 0 0, .int .i64 (l.length : Int), fnRead] 79) := Lib.hid ((B1.out.set 1 _).set 0 _)
  have k2 := K2.out.cell (i := 2) rfl
  have k3 := K2.out.free 2
  have K3 := Lib.hid (by rw [k2]; rfl : (((w1.setCell ⟨b, 1, none⟩ (.int .i64 (l.length : Int))).setCell ⟨b, 0, none⟩ (.slice none 0 0)).cell? ⟨b, 2, none⟩).isSome = true)
  have K4 := Lib.hid k3
  clear k2 k3
  go_enter Tryd.func57, Tryd.ntmps57
  go_wp2_with (refine wpList_store_fn rfl 77 (.tmp 18) (.func 64) rfl b 2 fnBroken (by rfl) (by rfl) (by rfl) Tryd.sizeFn (by rfl) K3.out K4.out ?_)
  have K5 : Hid (Blk (((w1.setCell ⟨b, 1, none⟩ (.int .i64 (l.length : Int))).setCell ⟨b, 0, none⟩ (.slice none 0 0)).setCell ⟨b, 2, none⟩ fnBroken) b [.slice none 0 0, .int .i64 (l.length : Int), fnBroken] 79) := Lib.hid (K2.out.set 2 _)
  have S5 : Hid (Stp F w (((w1.setCell ⟨b, 1, none⟩ (.int .i64 (l.length : Int))).setCell ⟨b, 0, none⟩ (.slice none 0 0)).setCell ⟨b, 2, none⟩ fnBroken)) := Lib.hid (((S1.out.set (.inl (.inl HF.out)) _).set (.inl (.inl HF.out)) _).set (.inl (.inl HF.out)) _)
  have hpb : w.heap.size ≠ b := by omega
  have P5 : Hid (Blk (((w1.setCell ⟨b, 1, none⟩ (.int .i64 (l.length : Int))).setCell ⟨b, 0, none⟩ (.slice none 0 0)).setCell ⟨b, 2, none⟩ fnBroken) w.heap.size [.int .i64 0, .slice none 0 0] 32) := Lib.hid (((P1.out.set_ne hpb _).set_ne hpb _).set_ne hpb _)
  generalize (((w1.setCell ⟨b, 1, none⟩ (.int .i64 (l.length : Int))).setCell ⟨b, 0, none⟩ (.slice none 0 0)).setCell ⟨b, 2, none⟩ fnBroken) = w2 at *
  clear K2 K3 K4 d0 e1 e2 f1 hw1
  refine (broken_any b w2).mono ?_
  rintro e w3 ⟨rfl, hb3⟩
  have P3 := P5.out.of_same (hb3.block _ P5.out.lt)
  have K6 := Lib.hid (K5.out.of_same (hb3.block b K5.out.lt))
  have q0 := P3.cell (i := 0) rfl
  have q1 := P3.cell (i := 1) rfl
  have q2 := P3.free
  have P6 := Lib.hid P3
  have S6 := Lib.hid (S5.out.trans (Stp.of_below _ hb3))
  clear hb3 P3 K5 S5 P5
  go_wp2_with fail
  have S7 := (S6.out.set (a := ⟨w.heap.size, 0, none⟩) (.inr (Nat.le_refl _)) (.int .i64 0)).set (a := ⟨w.heap.size, 1, none⟩) (.inr (Nat.le_refl _)) (.slice none 0 0)
  refine ret_msg rfl (g := w.heap.size) rfl ((P6.out.set 0 (.int .i64 0)).set 1 (.slice none 0 0)) rfl ?_
  exact ⟨rfl, S7, HF.out, S7.inn HI.out, HL.out, (K6.out.set_ne (by show b ≠ w.heap.size; omega) _).set_ne (by show b ≠ w.heap.size; omega) _⟩
theorem DecAt.setp {b p i : Nat} {s : Fr.D} (h : DecAt w b F s) (hp : ¬ F p) (x : Value) : DecAt (w.setCell ⟨p, i, none⟩ x) b F s :=
  h.same (fun k hk => heap_setCell_other w ⟨p, i, none⟩ k x (fun e => hp (by rw [← (show k = p from e)]; exact hk))) (by simp)
theorem BV.subAt {b o c n lo k : Nat} {l : List UInt8} (h : BV w F (.slice (some ⟨b, o, none⟩) n c) l) (hn : l.length = n) (hk : lo + k ≤ n) : BV w F (.slice (some ⟨b, o + lo, none⟩) k (c - lo)) ((l.drop lo).take k) := by
  obtain ⟨a', c', e, h1, h2, h3, h4⟩ := h
  injection e with e1 e2 e3
  subst e3
  have hlen : ((l.drop lo).take k).length = k := by rw [List.length_take, List.length_drop]; omega
  refine ⟨_, c - lo, by rw [hlen], by rw [hlen]; omega, by omega, (fun e => by cases e), fun h0 => ?_⟩
  obtain ⟨b', o', e, hb, hc⟩ := h4 (by rw [hlen] at h0; omega)
  rw [e] at e1
  have e1 := Option.some.inj e1
  injection e1 with e5 e6
  subst e5; subst e6
  refine ⟨_, _, rfl, hb, fun i hi => ?_⟩
  rw [hlen] at hi
  have := hc (lo + i) (by omega)
  rw [Nat.add_assoc, this]
  simp
/-- Behind the check of a sum: what still holds of the world w1. -/
abbrev RdS (w1 : World) (b : Nat) (bv xv : Value) (X : ByteArray) (w' : World) : Prop :=
  Below w1.heap.size w1 w' ∧ (convert 30 9 xv).run Tryd.prog w' = .ok (.string X) w' ∧ w'.cell? ⟨b, 0, none⟩ = some bv
theorem BV.convS {x : List UInt8} (h : BV w F v x) : (convert 30 9 v).run Tryd.prog w = .ok (.string ⟨x.toArray⟩) w := run_toString (P := Tryd.prog) h 30 5 9 Tryd.underlying30 Tryd.underlying5 Tryd.underlying9
theorem RdS.keep {w1 w2 : World} {b : Nat} {bv xv : Value} {X : ByteArray} {x : List UInt8} (hx : BV w1 F xv x) (hX : (⟨x.toArray⟩ : ByteArray) = X) (hb : w1.cell? ⟨b, 0, none⟩ = some bv) (h : Below w1.heap.size w1 w') (h2 : Below w'.heap.size w' w2) : RdS w1 b bv xv X w2 := by
  have hb2 := h.trans (h2.mono h.size)
  exact ⟨hb2, hX ▸ (hx.grow hb2).convS, (hb2.cell (p := ⟨b, 0, none⟩) (block_lt_of_cell hb)).trans hb⟩
theorem RdS.next {w1 w2 : World} {b : Nat} {bv xv : Value} {X : ByteArray} {x : List UInt8} (hx : BV w1 F xv x) (hX : (⟨x.toArray⟩ : ByteArray) = X) (hb : w1.cell? ⟨b, 0, none⟩ = some bv) (h : RdS w1 b bv xv X w') (h2 : Below w'.heap.size w' w2) : RdS w1 b bv xv X w2 :=
  RdS.keep hx hX hb h.1 h2
theorem RdS.chk {w1 : World} {b : Nat} {bv xv yv : Value} {X V : ByteArray} {y : List UInt8} (hy : BV w1 F yv y) (hF : ∀ k, F k → k < w1.heap.size) (hV : (⟨(Fr.chk y).toArray⟩ : ByteArray) = V) (hg : Glob w1) (hlen : y.length ≤ 1000000000) (h : RdS w1 b bv xv X w') :
    Calls Tryd.prog 46 #[yv] w' fun e w'' => e = .returned (.string V) ∧ Below w'.heap.size w' w'' := by
  subst hV
  exact fchk_any ((hy.grow h.1).mono (fun k hk => Nat.lt_of_lt_of_le (hF k hk) h.1.size)) (hg.below h.1 hg.lt) hlen
theorem BufR.drop {g o c n k : Nat} {l : List UInt8} (h : BufR w F (.slice (some ⟨g, o, none⟩) n c) l) (hk : k ≤ n) : BufR w F (.slice (some ⟨g, o + k, none⟩) (n - k) (c - k)) (l.drop k) := by
  obtain ⟨ao, c', e, h1, h2, h3, h4⟩ := h
  injection e with e1 e2 e3
  subst e1; subst e2; subst e3
  obtain ⟨b', o', e, hb, hlt, hc, hf⟩ := h4 _ rfl
  injection e with e5 e6
  subst e5; subst e6
  refine ⟨_, c - k, by rw [List.length_drop], by rw [List.length_drop]; omega, by omega, (fun e => by cases e), fun ad ha => ⟨g, o + k, (Option.some.inj ha).symm, hb, hlt, fun i hi => ?_, fun i hi => ?_⟩⟩
  · rw [List.length_drop] at hi
    have := hc (k + i) (by omega)
    rw [Nat.add_assoc, this]; simp
  · rw [Nat.add_assoc]; exact hf (k + i) (by omega)
theorem DecAt.ended {w5 W : World} {b p : Nat} {sv : Value} {rest : List UInt8} (hk : ∀ x, x ≠ b → x ≠ p → W.heap[x]? = w5.heap[x]?) (hz : W.heap.size = w5.heap.size) (hF : F b) (hI : Inn F w5) (hp : ¬ F p)
    (hB : Blk W b [sv, .int .i64 0, fnRead] 79) (hU : BufR w5 (fun k => F k ∧ k ≠ b) sv rest) : DecAt W b F (.live rest) :=
  ⟨hF, fun k h => hz ▸ hI k h, sv, hU.same (fun k h => hk k h.2 (fun e => hp (e ▸ h.1))) (by omega), hB⟩
theorem OwnB.ended {w5 W : World} {b p n : Nat} {bv : Value} {bd : List UInt8} (hk : ∀ x, x ≠ b → x ≠ p → W.heap[x]? = w5.heap[x]?) (hz : W.heap.size = w5.heap.size) (hO : OwnB w5 bv bd) (ho : ∀ g, bv.ownBlock = some g → n ≤ g ∧ g ≠ b ∧ g ≠ p) : BV W (fun x => n ≤ x ∧ x < W.heap.size) bv bd :=
  (hO.bv.same (fun g hg => hk g (ho g hg).2.1 (ho g hg).2.2)).mono (fun g hg => ⟨(ho g hg).1, hz ▸ hO.lt g hg⟩)
/-- What Next has done, from the bytes l of a live decoder. -/
def NextPost (w : World) (b : Nat) (F : Nat → Prop) (l : List UInt8) (e : Ending) (w' : World) : Prop :=
  match Fr.step l with
  | .need => e = .returned (.tuple #[msg0, .bool false, .int .i64 0]) ∧ DecAt w' b F (.live l)
  | .bad => e = .returned (.tuple #[msg0, .bool false, .int .i64 9]) ∧ DecAt w' b F (.dead l.length)
  | .msg k body rest => ∃ bv, e = .returned (.tuple #[msgV (k.toNat : Int) bv, .bool true, .int .i64 0]) ∧ BV w' (fun x => w.heap.size ≤ x ∧ x < w'.heap.size) bv body ∧ DecAt w' b F (.live rest)
set_option maxRecDepth 100000 in
set_option maxHeartbeats 4000000 in
theorem read_any {b : Nat} (h : DecAt w b F (.live l)) (hg : Glob w) (hgF : From (1 + 1) F) (hn : l.length ≤ 1000000000) :
    Calls Tryd.prog 43 #[.pointer (some ⟨b, 0, none⟩)] w fun e w' => Stp F w w' ∧ NextPost w b F l e w' := by
  have H0 := Lib.hid h
  obtain ⟨hF, hI, sv, hbuf, hblk⟩ := h
  have hlt := hI b hF
  obtain ⟨a, c, rfl, _⟩ := hbuf.bv.get
  have HF := Lib.hid hF
  have HI := Lib.hid hI
  have HB := Lib.hid hblk
  have HG := Lib.hid hg
  have HGF := Lib.hid hgF
  have HN := Lib.hid hn
  obtain ⟨w1, hw1⟩ : ∃ w1, w.alloc (.cells #[.int .i64 0, .slice none 0 0] 32) = w1 := ⟨_, rfl⟩
  have B1 : Hid (Below w.heap.size w w1) := Lib.hid (by rw [← hw1]; exact (Below.refl _ _).alloc (Nat.le_refl _) _)
  have D1 := Lib.hid (H0.out.grow B1.out)
  have K1 : Hid (Blk w1 b [.slice a l.length c, .int .i64 0, fnRead] 79) := Lib.hid (by rw [← hw1]; exact hblk.alloc _)
  have P1 : Hid (Blk w1 w.heap.size [.int .i64 0, .slice none 0 0] 32) := Lib.hid (by rw [← hw1]; exact Blk.new w _ _)
  have d0 := K1.out.cell (i := 0) rfl
  have U1 := Lib.hid (hbuf.same (w' := w1) (fun k hk => B1.out.block k (hI k hk.1)) B1.out.size)
  have X1 := Lib.hid U1.out.bv
  clear hF hI hbuf hblk hg hgF hn
  go_enter Tryd.func43, Tryd.ntmps43
  go_wp2_with fail
  clear hw1
  refine (flen_any X1.out).mono ?_
  rintro e w2 ⟨⟨xa, xs, xk, xv, rfl, hlv⟩, rfl⟩
  cases hlen : Fr.lenAt l with
  | need =>
    rw [hlen] at hlv
    obtain ⟨rfl, rfl⟩ := hlv
    have HS : Hid (Fr.step l = .need) := Lib.hid (by unfold Fr.step; rw [hlen])
    clear hlen
    have p0 := P1.out.cell (i := 0) rfl
    have p1 := P1.out.cell (i := 1) rfl
    have p2 := P1.out.free
    go_wp2_with fail
    have hp : ¬ F w.heap.size := fun h => by have := HI.out _ h; omega
    have S7 := ((Stp.of_below F B1.out).set (a := ⟨w.heap.size, 0, none⟩) (.inr (Nat.le_refl _)) (.int .i64 0)).set (a := ⟨w.heap.size, 1, none⟩) (.inr (Nat.le_refl _)) (.slice none 0 0)
    refine ret_msg rfl (g := w.heap.size) rfl ((P1.out.set 0 (.int .i64 0)).set 1 (.slice none 0 0)) rfl ?_
    exact ⟨S7, by unfold NextPost; rw [HS.out]; exact ⟨rfl, (D1.out.setp hp _).setp hp _⟩⟩
  | bad =>
    rw [hlen] at hlv
    obtain rfl := hlv
    have HS : Hid (Fr.step l = .bad) := Lib.hid (by unfold Fr.step; rw [hlen])
    have hl3 := Fr.lenAt_bad hlen
    clear hlen
    go_wp2_with fail
    refine (corrupt_any D1.out (by omega)).mono ?_
    rintro e w2 ⟨rfl, hst2, hD2⟩
    have hp : ¬ F w.heap.size := fun h => by have := HI.out _ h; omega
    have P2 := Lib.hid (P1.out.of_same (hst2.keep _ P1.out.lt hp))
    have S2 := Lib.hid ((Stp.of_below F B1.out).trans' hst2)
    have D2 := Lib.hid hD2
    have HP := Lib.hid hp
    have p0 := P2.out.cell (i := 0) rfl
    have p1 := P2.out.cell (i := 1) rfl
    have p2 := P2.out.free
    clear hst2 hD2 hp
    go_wp2_with fail
    have S7 := (S2.out.set (a := ⟨w.heap.size, 0, none⟩) (.inr (Nat.le_refl _)) (.int .i64 0)).set (a := ⟨w.heap.size, 1, none⟩) (.inr (Nat.le_refl _)) (.slice none 0 0)
    refine ret_msg rfl (g := w.heap.size) rfl ((P2.out.set 0 (.int .i64 0)).set 1 (.slice none 0 0)) rfl ?_
    exact ⟨S7, by unfold NextPost; rw [HS.out]; exact ⟨rfl, (D2.out.setp HP.out _).setp HP.out _⟩⟩
  | ok bg s =>
    rw [hlen] at hlv
    obtain ⟨rfl, rfl, rfl, rfl⟩ := hlv
    obtain ⟨hb2, hb4, hbl, hs⟩ := Fr.lenAt_le hlen
    have HLE := Lib.hid hlen
    obtain ⟨en, hen⟩ : ∃ en, bg + s = en := ⟨_, rfl⟩
    have ien : (bg : Int) + (s : Int) = (en : Int) := by omega
    have ilen : (l.length : Int) ≤ 1000000000 := by have := HN.out; omega
    have ienb : (en : Int) ≤ 70000 := by omega
    clear hlen
    by_cases hfull : l.length < en + 8
    · have ifull : (l.length : Int) < (en : Int) + 8 := by omega
      have HS : Hid (Fr.step l = .need) := Lib.hid (by unfold Fr.step; rw [HLE.out]; simp only; rw [hen, if_pos hfull])
      have p0 := P1.out.cell (i := 0) rfl
      have p1 := P1.out.cell (i := 1) rfl
      have p2 := P1.out.free
      clear hfull hb2 hb4 hbl hs hen
      go_wp2_with fail
      have hp : ¬ F w.heap.size := fun h => by have := HI.out _ h; omega
      have S7 := ((Stp.of_below F B1.out).set (a := ⟨w.heap.size, 0, none⟩) (.inr (Nat.le_refl _)) (.int .i64 0)).set (a := ⟨w.heap.size, 1, none⟩) (.inr (Nat.le_refl _)) (.slice none 0 0)
      refine ret_msg rfl (g := w.heap.size) rfl ((P1.out.set 0 (.int .i64 0)).set 1 (.slice none 0 0)) rfl ?_
      exact ⟨S7, by unfold NextPost; rw [HS.out]; exact ⟨rfl, (D1.out.setp hp _).setp hp _⟩⟩
    have ifull : ¬ (l.length : Int) < (en : Int) + 8 := by omega
    obtain ⟨g, o, rfl⟩ : ∃ g o, a = some ⟨g, o, none⟩ := by
      obtain ⟨a', c', e, _, _, _, h4⟩ := X1.out
      injection e with e1 e2 e3
      subst e1
      obtain ⟨b', o', e, _⟩ := h4 (by omega)
      exact ⟨_, _, e⟩
    have hlc : l.length ≤ c := by
      obtain ⟨a', c', e, h, _⟩ := X1.out
      injection e with e1 e2 e3
      omega
    have X8 := Lib.hid (X1.out.subAt (lo := en) (k := 8) rfl (by omega))
    obtain ⟨X, hX⟩ : ∃ X : ByteArray, (⟨((l.drop en).take 8).toArray⟩ : ByteArray) = X := ⟨_, rfl⟩
    have HX := Lib.hid hX
    have R1 := RdS.keep X8.out hX d0 (Below.refl _ _) (Below.refl _ _)
    have ic : (en : Int) + 8 ≤ (c : Int) := by omega
    have Y1 := Lib.hid (BV.take (k := en) X1.out (by omega))
    obtain ⟨V, hV⟩ : ∃ V : ByteArray, (⟨(Fr.chk (l.take en)).toArray⟩ : ByteArray) = V := ⟨_, rfl⟩
    have HV := Lib.hid hV
    have hG1 : Hid (Glob w1) := Lib.hid (HG.out.below B1.out HG.out.lt)
    have HBB := Lib.hid hbl
    have hF1 : Hid (∀ k, (F k ∧ k ≠ b) → k < w1.heap.size) := Lib.hid (fun k hk => D1.out.2.1 k hk.1)
    have HLT : Hid ((l.take en).length ≤ 1000000000) := Lib.hid (by rw [List.length_take]; omega)
    have HD0 := Lib.hid d0
    have HEN : Hid (bg + s = en ∧ en + 8 ≤ l.length ∧ 2 ≤ bg ∧ s ≤ 65536) := Lib.hid ⟨hen, by omega, hb2, hs⟩
    have j0 : (0 : Int) ≤ (en : Int) := by omega
    have j1 : (en : Int) ≤ (c : Int) := by omega
    have j2 : (0 : Int) ≤ (en : Int) + 8 := by omega
    have j3 : (en : Int) ≤ (en : Int) + 8 := by omega
    have j4 : ¬ c = en := by omega
    have j5 : IntKind.i64.wrap ((en : Int) + 8) = (en : Int) + 8 := by rw [IntKind.wrap_i64]; omega
    have j6 : ((en : Int) + 8).toNat = en + 8 := by omega
    have j7 : en + 8 - en = 8 := by omega
    clear hfull hb2 hb4 hbl hs hen hX hV
    go_wp2_with fail
    go_region_held3 (fun w' => Below w1.heap.size w1 w' ∧ (convert 30 9 (.slice (some ⟨g, o + en, none⟩) 8 (c - en))).run Tryd.prog w' = .ok (.string X) w' ∧ w'.cell? ⟨b, 0, none⟩ = some (.slice (some ⟨g, o, none⟩) l.length c))
      (first
        | exact RdS.next X8.out HX.out HD0.out (by assumption) hb
        | exact RdS.next X8.out HX.out HD0.out (by assumption) (Below.refl _ _).drew)
      (first
        | (go_at_call 46; refine (RdS.chk Y1.out hF1.out HV.out hG1.out HLT.out (by assumption)).mono ?_; rintro e w' ⟨rfl, hb⟩))
    rename_i hH
    rename World => w2
    have B2 := Lib.hid hH.1
    have D2 := Lib.hid (D1.out.grow hH.1)
    have K2 := Lib.hid (K1.out.of_same (hH.1.block b K1.out.lt))
    have P2 := Lib.hid (P1.out.of_same (hH.1.block _ P1.out.lt))
    have d2 := K2.out.cell (i := 0) rfl
    have p0 := P2.out.cell (i := 0) rfl
    have p1 := P2.out.cell (i := 1) rfl
    have p2 := P2.out.free
    have hp : ¬ F w.heap.size := fun h => by have := HI.out _ h; omega
    have HP := Lib.hid hp
    have S2 := Lib.hid ((Stp.of_below F B1.out).trans (Stp.of_below _ hH.1))
    clear hH d0 j5 hp
    by_cases heq : Fr.chk (l.take en) = (l.drop en).take 8
    · have hVX : V = X := by rw [← HV.out, ← HX.out, heq]
      subst hVX
      have hi0 : (0 : Int) < (l.length : Int) := by have := HEN.out; omega
      have HS : Hid (Fr.step l = .msg (l.getD 0 0) ((l.drop bg).take s) (l.drop (en + 8))) := Lib.hid (by unfold Fr.step; rw [HLE.out]; simp only; have := HEN.out; rw [this.1, if_neg (by omega), if_pos heq])
      have U2 := Lib.hid (U1.out.same (w' := w2) (fun k hk => B2.out.block k (hF1.out k hk)) B2.out.size)
      obtain ⟨k, hk⟩ : ∃ k, l.getD 0 0 = k := ⟨_, rfl⟩
      have hc0 : w2.cell? ⟨g, o, none⟩ = some (.int .u8 (k.toNat : Int)) := by
        obtain ⟨a', c', e, _, _, h4⟩ := U2.out.bv.get
        obtain ⟨b', o', e2, _, h5⟩ := h4 0 (by have := HEN.out; omega)
        injection e with e3 _ _
        rw [e2] at e3
        have e3 := Option.some.inj e3
        injection e3 with e5 e6
        subst e5; subst e6
        rw [← hk, List.getD_eq_getElem?_getD, List.getElem?_eq_getElem (by have := HEN.out; omega)]
        simpa using h5
      rw [hk] at HS
      have hgp : g ≠ w.heap.size := by
        obtain ⟨a', c', e, _, _, _, h4⟩ := U2.out
        obtain ⟨b', o', e2, h5, _⟩ := h4 _ (by injection e with e1 _ _; exact e1.symm)
        injection e2 with e3 _
        subst e3
        exact fun e => HP.out (e ▸ h5.1)
      have HGP := Lib.hid hgp
      have X4 : Hid (BV (w2.setCell ⟨w.heap.size, 0, none⟩ (.int .i64 (k.toNat : Int))) (fun k => F k ∧ k ≠ b) (.slice (some ⟨g, o + bg, none⟩) (en - bg) (c - bg)) ((l.drop bg).take (en - bg))) := Lib.hid ((U2.out.bv.subAt (lo := bg) (k := en - bg) rfl (by have := HEN.out; omega)).same (fun k hk => heap_setCell_other w2 _ k _ (fun e => HP.out (by rw [← (show k = w.heap.size from e)]; exact hk.1))))
      have j8 : (0 : Int) ≤ (bg : Int) := by omega
      have j9 : (bg : Int) ≤ (en : Int) := by have := HEN.out; omega
      have j10 : ¬ c = bg := by have := HEN.out; omega
      have hes : en - bg = s := by have := HEN.out; omega
      rw [hes] at X4
      have hxl : ((l.drop bg).take s).length = s := by have := HEN.out; rw [List.length_take, List.length_drop]; omega
      obtain ⟨bd, hbd⟩ : ∃ bd, (l.drop bg).take s = bd := ⟨_, rfl⟩
      rw [hbd] at X4 HS hxl
      obtain rfl := hxl
      have P4 := Lib.hid (P2.out.set 0 (.int .i64 (k.toNat : Int)))
      have K4 := Lib.hid (K2.out.set_ne (a := ⟨w.heap.size, 0, none⟩) (by show b ≠ w.heap.size; omega) (.int .i64 (k.toNat : Int)))
      have S4 := Lib.hid (S2.out.set (a := ⟨w.heap.size, 0, none⟩) (.inr (Nat.le_refl _)) (.int .i64 (k.toNat : Int)))
      have D4 := Lib.hid (D2.out.setp (p := w.heap.size) (i := 0) HP.out (.int .i64 (k.toNat : Int)))
      have hpl : w.heap.size < (w2.setCell ⟨w.heap.size, 0, none⟩ (.int .i64 (k.toNat : Int))).heap.size := P4.out.lt
      have j11 : (bd.length : Int) ≤ 70000 := by have := HEN.out; omega
      have jw : wrap64 (k.toNat : Int) = (k.toNat : Int) := IntWalk.wrap64_in _ (by have := k.toNat_lt; omega)
      rw [show (!V.toList == V.toList) = false by simp]
      have n1 : ¬ b = w.heap.size := by omega
      have n2 : ¬ w.heap.size = b := by omega
      have jr0 : (en : Int) + 8 ≤ (l.length : Int) := by omega
      have jr1 : (l.length : Int) ≤ (c : Int) := by omega
      obtain ⟨r, hr⟩ : ∃ r, l.length - (en + 8) = r := ⟨_, rfl⟩
      have hrl : (l.drop (en + 8)).length = r := by rw [List.length_drop, hr]
      have HR := Lib.hid hr
      have HRL := Lib.hid hrl
      clear heq hk j4 j7 hgp hbd hrl
      have hcase : (r = 0 ∧ c = en + 8) ∨ (r = 0 ∧ ¬ c = en + 8) ∨ (0 < r ∧ ¬ c = en + 8) := by omega
      rcases hcase with ⟨rfl, hc8⟩ | ⟨rfl, hc8⟩ | ⟨hr0, hc8⟩
      · subst hc8
        go_wp2_with (at_builtin; refine wpList_append_bytes rfl (.const (.slice none 0 0)) (.tmp 81) rfl (.slice none 0 0) _ bd (by rfl) (by rfl) (OwnB.nil _) X4.out (by simp only [List.length_nil]; omega) ?_; intro a5 c5 w5 hO5 hg5 ho5; rw [List.length_nil, Nat.zero_add] at ho5 hO5 ⊢; rw [List.nil_append] at hO5; have P5 := Lib.hid (P4.out.of_same (hg5.block _ P4.out.lt (fun e => by cases e))); have K5 := Lib.hid (K4.out.of_same (hg5.block b K4.out.lt (fun e => by cases e))); have S5 := Lib.hid (S4.out.grown hg5 (fun x hx => by cases hx)); have D5 := Lib.hid (D4.out.same (fun x hx => hg5.block x (D4.out.2.1 x hx) (fun e => by cases e)) hg5.size); have O5 := Lib.hid hO5; have HO5 := Lib.hid ho5; have HG5 := Lib.hid hg5; have d5 := K5.out.cell (i := 0) rfl; have e5 := P5.out.cell (i := 0) rfl; have g5 := P5.out.cell (i := 1) rfl; have f5 := K5.out.free; have h5 := P5.out.free; clear hO5 hg5 ho5 d2 p0 p1 p2)
        have hs4 : w.heap.size < w2.heap.size := P2.out.lt
        have hob : ∀ gg, (Value.slice a5 bd.length c5).ownBlock = some gg → w.heap.size ≤ gg ∧ gg ≠ b ∧ gg ≠ w.heap.size := fun gg hgg => by
          rcases HO5.out with e | e
          · rw [e] at hgg; cases hgg
          · rw [e] at hgg
            simp only [Option.some.injEq, World.size_setCell] at hgg
            subst hgg
            omega
        have U5 : BufR w5 (fun k => F k ∧ k ≠ b) (.slice (some ⟨g, o, none⟩) l.length (en + 8)) l := (U2.out.same (w' := w2.setCell ⟨w.heap.size, 0, none⟩ (.int .i64 (k.toNat : Int))) (fun x hx => heap_setCell_other w2 _ x _ (fun e => HP.out (by rw [← (show x = w.heap.size from e)]; exact hx.1))) (by simp)).same (fun x hx => HG5.out.block x (by simpa using D2.out.2.1 x hx.1) (fun e => by cases e)) HG5.out.size
        have hBI : Inn F w5 := D5.out.2.1
        refine ret_msg rfl (g := w.heap.size) (c0 := .int .i64 (k.toNat : Int)) (c1 := .slice a5 bd.length c5) rfl ?_ rfl ?_
        · exact (((((P5.out.set 1 _).set_ne n2 _).set_ne n2 _)).set 0 _).set 1 _
        · refine ⟨?_, ?_⟩
          · exact (((((S5.out.set (.inr (Nat.le_refl _)) _).set (.inl (.inl HF.out)) _).set (.inl (.inl HF.out)) _)).set (.inr (Nat.le_refl _)) _).set (.inr (Nat.le_refl _)) _
          · unfold NextPost
            rw [HS.out]
            refine ⟨.slice a5 bd.length c5, rfl, OwnB.ended (w5 := w5) (b := b) (p := w.heap.size) ?_ (by simp) O5.out hob, DecAt.ended (w5 := w5) (p := w.heap.size) ?_ (by simp) HF.out hBI HP.out (((((K5.out.set_ne n1 _).set 0 _).set 0 _).set_ne n1 _).set_ne n1 _) (by rw [List.eq_nil_of_length_eq_zero HRL.out]; exact BufR.nil _ _)⟩
            all_goals
              intro x hx1 hx2
              rw [heap_setCell_other _ _ _ _ hx2, heap_setCell_other _ _ _ _ hx2, heap_setCell_other _ _ _ _ hx1, heap_setCell_other _ _ _ _ hx1, heap_setCell_other _ _ _ _ hx2]
      · skip
        go_wp2_with (at_builtin; refine wpList_append_bytes rfl (.const (.slice none 0 0)) (.tmp 81) rfl (.slice none 0 0) _ bd (by rfl) (by rfl) (OwnB.nil _) X4.out (by simp only [List.length_nil]; omega) ?_; intro a5 c5 w5 hO5 hg5 ho5; rw [List.length_nil, Nat.zero_add] at ho5 hO5 ⊢; rw [List.nil_append] at hO5; have P5 := Lib.hid (P4.out.of_same (hg5.block _ P4.out.lt (fun e => by cases e))); have K5 := Lib.hid (K4.out.of_same (hg5.block b K4.out.lt (fun e => by cases e))); have S5 := Lib.hid (S4.out.grown hg5 (fun x hx => by cases hx)); have D5 := Lib.hid (D4.out.same (fun x hx => hg5.block x (D4.out.2.1 x hx) (fun e => by cases e)) hg5.size); have O5 := Lib.hid hO5; have HO5 := Lib.hid ho5; have HG5 := Lib.hid hg5; have d5 := K5.out.cell (i := 0) rfl; have e5 := P5.out.cell (i := 0) rfl; have g5 := P5.out.cell (i := 1) rfl; have f5 := K5.out.free; have h5 := P5.out.free; clear hO5 hg5 ho5 d2 p0 p1 p2)
        have hs4 : w.heap.size < w2.heap.size := P2.out.lt
        have hob : ∀ gg, (Value.slice a5 bd.length c5).ownBlock = some gg → w.heap.size ≤ gg ∧ gg ≠ b ∧ gg ≠ w.heap.size := fun gg hgg => by
          rcases HO5.out with e | e
          · rw [e] at hgg; cases hgg
          · rw [e] at hgg
            simp only [Option.some.injEq, World.size_setCell] at hgg
            subst hgg
            omega
        have U5 : BufR w5 (fun k => F k ∧ k ≠ b) (.slice (some ⟨g, o, none⟩) l.length c) l := (U2.out.same (w' := w2.setCell ⟨w.heap.size, 0, none⟩ (.int .i64 (k.toNat : Int))) (fun x hx => heap_setCell_other w2 _ x _ (fun e => HP.out (by rw [← (show x = w.heap.size from e)]; exact hx.1))) (by simp)).same (fun x hx => HG5.out.block x (by simpa using D2.out.2.1 x hx.1) (fun e => by cases e)) HG5.out.size
        have hBI : Inn F w5 := D5.out.2.1
        refine ret_msg rfl (g := w.heap.size) (c0 := .int .i64 (k.toNat : Int)) (c1 := .slice a5 bd.length c5) rfl ?_ rfl ?_
        · exact (((((P5.out.set 1 _).set_ne n2 _).set_ne n2 _)).set 0 _).set 1 _
        · refine ⟨?_, ?_⟩
          · exact (((((S5.out.set (.inr (Nat.le_refl _)) _).set (.inl (.inl HF.out)) _).set (.inl (.inl HF.out)) _)).set (.inr (Nat.le_refl _)) _).set (.inr (Nat.le_refl _)) _
          · unfold NextPost
            rw [HS.out]
            refine ⟨.slice a5 bd.length c5, rfl, OwnB.ended (w5 := w5) (b := b) (p := w.heap.size) ?_ (by simp) O5.out hob, DecAt.ended (w5 := w5) (p := w.heap.size) ?_ (by simp) HF.out hBI HP.out (((((K5.out.set_ne n1 _).set 0 _).set 0 _).set_ne n1 _).set_ne n1 _) (by rw [List.eq_nil_of_length_eq_zero HRL.out]; exact BufR.nil _ _)⟩
            all_goals
              intro x hx1 hx2
              rw [heap_setCell_other _ _ _ _ hx2, heap_setCell_other _ _ _ _ hx2, heap_setCell_other _ _ _ _ hx1, heap_setCell_other _ _ _ _ hx1, heap_setCell_other _ _ _ _ hx2]
      · have ir : ((r : Int) == 0) = false := by rw [beq_eq_false_iff_ne]; omega
        have ir2 : ¬ (r : Int) = 0 := by omega
        go_wp2_with (at_builtin; refine wpList_append_bytes rfl (.const (.slice none 0 0)) (.tmp 81) rfl (.slice none 0 0) _ bd (by rfl) (by rfl) (OwnB.nil _) X4.out (by simp only [List.length_nil]; omega) ?_; intro a5 c5 w5 hO5 hg5 ho5; rw [List.length_nil, Nat.zero_add] at ho5 hO5 ⊢; rw [List.nil_append] at hO5; have P5 := Lib.hid (P4.out.of_same (hg5.block _ P4.out.lt (fun e => by cases e))); have K5 := Lib.hid (K4.out.of_same (hg5.block b K4.out.lt (fun e => by cases e))); have S5 := Lib.hid (S4.out.grown hg5 (fun x hx => by cases hx)); have D5 := Lib.hid (D4.out.same (fun x hx => hg5.block x (D4.out.2.1 x hx) (fun e => by cases e)) hg5.size); have O5 := Lib.hid hO5; have HO5 := Lib.hid ho5; have HG5 := Lib.hid hg5; have d5 := K5.out.cell (i := 0) rfl; have e5 := P5.out.cell (i := 0) rfl; have g5 := P5.out.cell (i := 1) rfl; have f5 := K5.out.free; have h5 := P5.out.free; clear hO5 hg5 ho5 d2 p0 p1 p2)
        have hs4 : w.heap.size < w2.heap.size := P2.out.lt
        have hob : ∀ gg, (Value.slice a5 bd.length c5).ownBlock = some gg → w.heap.size ≤ gg ∧ gg ≠ b ∧ gg ≠ w.heap.size := fun gg hgg => by
          rcases HO5.out with e | e
          · rw [e] at hgg; cases hgg
          · rw [e] at hgg
            simp only [Option.some.injEq, World.size_setCell] at hgg
            subst hgg
            omega
        have U5 : BufR w5 (fun k => F k ∧ k ≠ b) (.slice (some ⟨g, o, none⟩) l.length c) l := (U2.out.same (w' := w2.setCell ⟨w.heap.size, 0, none⟩ (.int .i64 (k.toNat : Int))) (fun x hx => heap_setCell_other w2 _ x _ (fun e => HP.out (by rw [← (show x = w.heap.size from e)]; exact hx.1))) (by simp)).same (fun x hx => HG5.out.block x (by simpa using D2.out.2.1 x hx.1) (fun e => by cases e)) HG5.out.size
        have hBI : Inn F w5 := D5.out.2.1
        refine ret_msg rfl (g := w.heap.size) (c0 := .int .i64 (k.toNat : Int)) (c1 := .slice a5 bd.length c5) rfl ?_ rfl ?_
        · exact ((((P5.out.set 1 _).set_ne n2 _)).set 0 _).set 1 _
        · refine ⟨?_, ?_⟩
          · exact ((((S5.out.set (.inr (Nat.le_refl _)) _).set (.inl (.inl HF.out)) _)).set (.inr (Nat.le_refl _)) _).set (.inr (Nat.le_refl _)) _
          · unfold NextPost
            rw [HS.out]
            refine ⟨.slice a5 bd.length c5, rfl, OwnB.ended (w5 := w5) (b := b) (p := w.heap.size) ?_ (by simp) O5.out hob, DecAt.ended (w5 := w5) (p := w.heap.size) ?_ (by simp) HF.out hBI HP.out ((((K5.out.set_ne n1 _).set 0 _).set_ne n1 _).set_ne n1 _) (by have := U5.drop (k := en + 8) (by have := HEN.out; omega); rw [HR.out] at this; exact this)⟩
            all_goals
              intro x hx1 hx2
              rw [heap_setCell_other _ _ _ _ hx2, heap_setCell_other _ _ _ _ hx2, heap_setCell_other _ _ _ _ hx1, heap_setCell_other _ _ _ _ hx2]
    · have hbe : (!V.toList == X.toList) = true := by
        rw [Bool.not_eq_true', ← HV.out, ← HX.out, ByteArray.toList_eq, ByteArray.toList_eq]
        exact beq_eq_false_iff_ne.2 heq
      have HS : Hid (Fr.step l = .bad) := Lib.hid (by unfold Fr.step; rw [HLE.out]; simp only; have := HEN.out; rw [this.1, if_neg (by omega), if_neg heq])
      rw [hbe]
      clear heq j4 j6 j7 hbe
      go_wp2_with fail
      refine (corrupt_any D2.out (by have := HEN.out; omega)).mono ?_
      rintro e w3 ⟨rfl, hst3, hD3⟩
      have P3 := Lib.hid (P2.out.of_same (hst3.keep _ P2.out.lt HP.out))
      have S3 := Lib.hid (S2.out.trans' hst3)
      have D3 := Lib.hid hD3
      clear hst3 hD3 p0 p1 p2
      have p0 := P3.out.cell (i := 0) rfl
      have p1 := P3.out.cell (i := 1) rfl
      have p2 := P3.out.free
      go_wp2_with fail
      have S7 := (S3.out.set (a := ⟨w.heap.size, 0, none⟩) (.inr (Nat.le_refl _)) (.int .i64 0)).set (a := ⟨w.heap.size, 1, none⟩) (.inr (Nat.le_refl _)) (.slice none 0 0)
      refine ret_msg rfl (g := w.heap.size) rfl ((P3.out.set 0 (.int .i64 0)).set 1 (.slice none 0 0)) rfl ?_
      exact ⟨S7, by unfold NextPost; rw [HS.out]; exact ⟨rfl, (D3.out.setp HP.out _).setp HP.out _⟩⟩
end
end Go.Proofs.YtggiinfeiilogaaDoor
