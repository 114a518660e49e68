/- A decoder in memory; the laws of its buffer. -/
import Derived.Test.YtggiinfeiilogaaDoorFrW
import Derived.Test.YtggiinfeiilogaaDoorConvA
import Derived.Deep.Upon
import Derived.BigQuiet
import Derived.Deep.QuietTactic
namespace Go.Proofs.YtggiinfeiilogaaDoor
open Go.RowKit
/-- A slice of bytes that may be appended to, wherever in its block it begins: its cells are there, and none up to its capacity is frozen. -/
def BufR (w : World) (F : Nat → Prop) (v : Value) (l : List UInt8) : Prop :=
  ∃ ao c, v = .slice ao l.length c ∧ l.length ≤ c ∧ c ≤ maxLen ∧ (ao = none → c = 0) ∧ ∀ ad, ao = some ad → ∃ b o, ad = ⟨b, o, none⟩ ∧ F b ∧ b < w.heap.size ∧ (∀ i, (h : i < l.length) → w.cell? ⟨b, o + i, none⟩ = some (.int .u8 (l[i].toNat : Int))) ∧ ∀ i, i < c → (w.cell? ⟨b, o + i, none⟩).isSome = true ∧ w.frozen? ⟨b, o + i, none⟩ = false
section
variable {w w' : World} {F G : Nat → Prop} {v xv : Value} {l m : List UInt8}
theorem BufR.nil (w : World) (F : Nat → Prop) : BufR w F (.slice none 0 0) [] := ⟨none, 0, rfl, Nat.le_refl _, Nat.zero_le _, fun _ => rfl, fun ad e => by cases e⟩
theorem BufR.mono (h : BufR w F v l) (hs : ∀ k, F k → G k) : BufR w G v l := by
  obtain ⟨ao, c, e, h1, h2, h3, h4⟩ := h
  refine ⟨ao, c, e, h1, h2, h3, fun ad ha => ?_⟩
  obtain ⟨b, o, e2, hb, r⟩ := h4 ad ha
  exact ⟨b, o, e2, hs b hb, r⟩
theorem BufR.same (h : BufR w F v l) (hs : Same F w w') (hz : w.heap.size ≤ w'.heap.size) : BufR w' F v l := by
  obtain ⟨ao, c, e, h1, h2, h3, h4⟩ := h
  refine ⟨ao, c, e, h1, h2, h3, fun ad ha => ?_⟩
  obtain ⟨b, o, e2, hb, hlt, hc, hf⟩ := h4 ad ha
  exact ⟨b, o, e2, hb, Nat.lt_of_lt_of_le hlt hz, fun i hi => (hs.cell (p := ⟨b, o + i, none⟩) hb).trans (hc i hi), fun i hi => ⟨by rw [hs.cell (p := ⟨b, o + i, none⟩) hb]; exact (hf i hi).1, (World.frozen?_of_block (a := ⟨b, o + i, none⟩) (hs b hb)).trans (hf i hi).2⟩⟩
theorem BufR.bv (h : BufR w F v l) : BV w F v l := by
  obtain ⟨ao, c, e, h1, h2, h3, h4⟩ := h
  refine ⟨ao, c, e, h1, h2, h3, fun hp => ?_⟩
  cases ao with
  | none => have := h3 rfl; omega
  | some ad =>
    obtain ⟨b, o, rfl, hb, _, hc, _⟩ := h4 ad rfl
    exact ⟨b, o, rfl, hb, hc⟩
theorem OwnB.buf (h : OwnB w v l) : BufR w (fun k => v.ownBlock = some k) v l := by
  rcases h.2 with ⟨rfl, h0⟩ | ⟨g, cap, cur, rfl, hg, hb, h1, h2, hs, ht⟩
  · obtain rfl := List.eq_nil_of_length_eq_zero h0
    exact BufR.nil _ _
  · refine ⟨_, cap, rfl, h1, h2, (fun e => by cases e), fun ad e => ⟨g, 0, (Option.some.inj e).symm, rfl, lt_of_block hb, fun i hi => ?_, fun i hi => ⟨?_, ?_⟩⟩⟩
    · rw [Nat.zero_add, h.cellAt i (by omega)]; exact By_get l i hi
    · rw [Nat.zero_add, cell_of_row w g i _ _ _ hb, Array.getElem?_eq_getElem (by omega)]; rfl
    · rw [Nat.zero_add]; exact h.frozenAt i
/-- 'append(v, x...)'. -/
theorem run_append_buf (h : BufR w F v l) (hx : BV w G xv m) (hn : l.length + m.length ≤ 1000000000000) (ty : TypeId) :
    ∃ v' w', (Builtin.append_ #[30, 30] ty #[v, xv]).run Tryd.prog w = .ok v' w' ∧ BufR w' (Plus F w w') v' (l ++ m) ∧ Stp F w w' := by
  obtain ⟨i0, hi, hz0, hz1, hz2⟩ := info_parts Tryd.infoB
  obtain ⟨xa, xc, rfl, x1, x2, x3, x4⟩ := id hx
  obtain ⟨ao, c, rfl, h1, h2, h3, h4⟩ := id h
  by_cases hm : m.length = 0
  · obtain rfl := List.eq_nil_of_length_eq_zero hm
    have hsrc : Src Tryd.prog i0.size 30 (.slice xa 0 xc) 0 [] w := by
      cases xa with
      | none => exact Src.ofNil w Tryd.underlying30 xc
      | some ad => exact Src.ofSlice w Tryd.underlying30 ad 0 xc [] (by simp) (fun j u e => by simp at e) (fun u e => by cases e)
    refine ⟨_, _, run_append_nothing (P := Tryd.prog) w 30 30 ty 5 i0 Tryd.underlying30 hi ao l.length c h1 _ hsrc, ?_, Stp.refl _ _⟩
    rw [List.append_nil]
    exact h.mono (fun _ hk => .inl hk)
  obtain ⟨xb, xo, rfl, _, _⟩ := x4 (by omega)
  cases ao with
  | none =>
    obtain rfl := h3 rfl
    obtain rfl : l = [] := List.eq_nil_of_length_eq_zero (by omega)
    obtain ⟨a, c', w', hrun, hO, hg, hat⟩ := run_append_bytes (OwnB.nil w) hx (by simpa using hn) ty
    rw [List.length_nil, Nat.zero_add, List.nil_append] at hO
    rw [List.length_nil, Nat.zero_add] at hat
    simp only [List.length_nil, Nat.zero_add] at hrun ⊢
    refine ⟨_, w', hrun, ?_, (Stp.refl _ _).grown hg (fun k e => by cases e)⟩
    refine hO.buf.mono (fun k hk => .inr ?_)
    have hlt := hO.lt k hk
    rcases hat with e | e
    · rw [e] at hk; cases hk
    · rw [e] at hk; simp only [Option.some.injEq] at hk; omega
  | some ad =>
    obtain ⟨b, o, rfl, hb, hlt, hc, hf⟩ := h4 ad rfl
    by_cases hr : l.length + m.length ≤ c
    · have hrun := run_append_room_cells (P := Tryd.prog) w 30 ty 5 i0 Tryd.underlying30 hi b o l.length c ⟨xb, xo, none⟩ m.length xc (By m) (by rw [hz1]; simp) (hx.cells.2.2 _ rfl) (By_oneCell m) hr
        (fun j hj => by rw [By_length] at hj; rw [hz1, Nat.mul_one, Nat.add_assoc]; exact (hf _ (by omega)).1) (fun j hj => by rw [By_length] at hj; rw [hz1, Nat.mul_one, Nat.add_assoc]; exact (hf _ (by omega)).2)
      rw [hz1, Nat.mul_one] at hrun
      obtain ⟨q1, q2, q3, q4, q5⟩ := heap_setCells (b := b) (By m) (o + l.length) w
      have hin : ∀ j, j < m.length → (w.setCells b (o + l.length) (By m)).cell? ⟨b, o + l.length + j, none⟩ = (By m)[j]? := fun j hj => by
        rw [World.cell?_setCells_in b (By m) (o + l.length) w (fun k hk => by rw [By_length] at hk; rw [Nat.add_assoc]; exact (hf _ (by omega)).1) j (by simp; omega)]
        rw [List.getElem?_eq_getElem (by simp; omega)]
      have hout : ∀ i, (i < l.length ∨ l.length + m.length ≤ i) → (w.setCells b (o + l.length) (By m)).cell? ⟨b, o + i, none⟩ = w.cell? ⟨b, o + i, none⟩ := fun i hi2 => by
        refine World.cell?_setCells_out b (By m) (o + l.length) w ⟨b, o + i, none⟩ (fun _ _ => ?_)
        rw [By_length]
        show o + i < o + l.length ∨ o + l.length + m.length ≤ o + i
        omega
      refine ⟨_, _, hrun, ⟨_, c, by rw [List.length_append], by rw [List.length_append]; exact hr, h2, (fun e => by cases e), fun ad e => ⟨b, o, (Option.some.inj e).symm, .inl hb, by rw [q2]; exact hlt, fun i hi2 => ?_, fun i hi2 => ⟨?_, ?_⟩⟩⟩, ⟨q3, q4, q5, by rw [q2]; exact Nat.le_refl _, fun k hk hn => q1 k (fun e => hn (e ▸ hb))⟩⟩
      · rw [List.length_append] at hi2
        by_cases hil : i < l.length
        · rw [hout i (.inl hil), hc i hil, List.getElem_append_left hil]
        · obtain ⟨j, rfl⟩ : ∃ j, i = l.length + j := ⟨i - l.length, by omega⟩
          have := hin j (by omega)
          rw [Nat.add_assoc] at this
          rw [this, By_get m j (by omega), List.getElem_append_right (by omega)]
          simp
      · by_cases hil : i < l.length ∨ l.length + m.length ≤ i
        · rw [hout i hil]; exact (hf i hi2).1
        · obtain ⟨j, rfl⟩ : ∃ j, i = l.length + j := ⟨i - l.length, by omega⟩
          have := hin j (by omega)
          rw [Nat.add_assoc] at this
          rw [this, By_get m j (by omega)]; rfl
      · exact (World.frozen?_setCells b _ _ _ _).trans (hf i hi2).2
    · obtain ⟨v', w', hrun, hown, hgrow⟩ := run_append_arg_grows (P := Tryd.prog) w 30 ty 5 i0 (.int .u8 0) 1 1 Tryd.underlying30 hi hz0 hz1 hz2 rfl (by omega) ⟨b, o, none⟩ l.length c (By l) (by simp) (fun j u hj => by
          have hj2 : j < l.length := by have := (List.getElem?_eq_some_iff.1 hj).1; simpa using this
          rw [Addr.add_lit, hc j hj2, ← By_get l j hj2, hj]) ⟨xb, xo, none⟩ m.length xc (By m) (by simp) (hx.cells.2.2 _ rfl) (by omega) (by unfold maxLen; omega) (by omega)
      have st : Stp F w w' := (Stp.refl _ _).grown hgrow (fun x hx => by cases hx)
      refine ⟨v', w', hrun, ?_, st⟩
      obtain ⟨o1, o2⟩ := hown
      rw [← By_append] at o1 o2
      have hO : OwnB w' v' (l ++ m) := by
        refine ⟨by simp, ?_⟩
        rcases o2 with ⟨rfl, h0⟩ | ⟨g, cap, cur, he, _, r⟩
        · omega
        · exact .inr ⟨g, cap, cur, by rw [List.length_append]; exact he, Nat.zero_le _, by rw [List.length_append]; exact r⟩
      refine hO.buf.mono (fun k hk => .inr ⟨?_, hO.lt k hk⟩)
      rcases o2 with ⟨rfl, h0⟩ | ⟨g2, cap, cur, he, hg2, _⟩
      · omega
      · rw [he] at hk; simp only [Value.ownBlock, Option.some.injEq] at hk; omega
theorem wpList_append_buf {ops : Array Oper} {rest : List Oper} {o : Oper} {a : Act} {Q : Exit → Act → World → Prop} (hgd : o.guard = none) (s x : Operand)
    (ho : o.op = .call { callee := .builtin .append, args := #[s, x], argTypes := #[30, 30] })
    (sv xv : Value) (hs : a.eval s = sv) (hx : a.eval x = xv) (h : BufR w F sv l) (hb : BV w G xv m) (hn : l.length + m.length ≤ 1000000000000)
    (hK : ∀ (v' : Value) (w' : World), BufR w' (Plus F w w') v' (l ++ m) → Stp F w w' → wpList Tryd.prog ops Q rest (a.put o.dst v') w') : wpList Tryd.prog ops Q (o :: rest) a w := by
  refine wpList_plain hgd fun K hK2 => ?_
  obtain ⟨v', w', hrun, h1, h2⟩ := run_append_buf h hb hn o.type
  unfold Oper.wp
  simp only [execOp, ho, resolve, invoke, builtin, Sem.run_bind, Sem.run_pure, Result.andThen_ok, List.map_toArray, List.map_cons, List.map_nil, hs, hx, hrun]
  exact hK2 _ _ (hK v' w' h1 h2)
abbrev fnRead : Value := .func (.func 43) #[] #[]
abbrev fnBroken : Value := .func (.func 64) #[] #[]
/-- A decoder at block b; all that it holds lies in blocks of F. -/
def DecAt (w : World) (b : Nat) (F : Nat → Prop) (s : Fr.D) : Prop :=
  F b ∧ Inn F w ∧ match s with
  | .live l => ∃ sv, BufR w (fun k => F k ∧ k ≠ b) sv l ∧ Blk w b [sv, .int .i64 0, fnRead] 79
  | .dead n => 0 < n ∧ Blk w b [.slice none 0 0, .int .i64 (n : Int), fnBroken] 79
set_option maxHeartbeats 1000000 in
theorem newdec_any (w : World) : Calls Tryd.prog 17 #[] w fun e w' => e = .returned (.pointer (some ⟨w.heap.size, 0, none⟩)) ∧ Below w.heap.size w w' ∧ DecAt w' w.heap.size (fun k => w.heap.size ≤ k ∧ k < w'.heap.size) (.live []) := by
  go_enter Tryd.func17, Tryd.ntmps17
  go_wp2_with fail
  go_ret
  refine ⟨rfl, (Below.refl _ _).alloc (Nat.le_refl _) _, ⟨Nat.le_refl _, by simp⟩, fun k hk => hk.2, _, BufR.nil _ _, ?_⟩
  exact Blk.new w [.slice none 0 0, .int .i64 0, fnRead] _
theorem DecAt.mono {b : Nat} {s : Fr.D} (h : DecAt w b F s) (hs : ∀ k, F k → G k) (hG : Inn G w) : DecAt w b G s := by
  obtain ⟨h1, h2, h3⟩ := h
  refine ⟨hs b h1, hG, ?_⟩
  cases s with
  | live l => obtain ⟨sv, h4, h5⟩ := h3; exact ⟨sv, h4.mono (fun k hk => ⟨hs k hk.1, hk.2⟩), h5⟩
  | dead n => exact h3
theorem DecAt.same {b : Nat} {s : Fr.D} (h : DecAt w b F s) (hs : Same F w w') (hz : w.heap.size ≤ w'.heap.size) : DecAt w' b F s := by
  obtain ⟨h1, h2, h3⟩ := h
  refine ⟨h1, fun k hk => Nat.lt_of_lt_of_le (h2 k hk) hz, ?_⟩
  cases s with
  | live l => obtain ⟨sv, h4, h5⟩ := h3; exact ⟨sv, h4.same (fun k hk => hs k hk.1) hz, h5.of_same (hs b h1)⟩
  | dead n => exact ⟨h3.1, h3.2.of_same (hs b h1)⟩
theorem DecAt.grow {b : Nat} {s : Fr.D} (h : DecAt w b F s) (hb : Below w.heap.size w w') : DecAt w' b F s := h.same (fun k hk => hb.block k (h.2.1 k hk)) hb.size
theorem DecAt.lt {b : Nat} {s : Fr.D} (h : DecAt w b F s) : b < w.heap.size := h.2.1 b h.1
set_option maxHeartbeats 1000000 in
theorem feed_any {b : Nat} {s : Fr.D} {x : List UInt8} (h : DecAt w b F s) (hx : BV w G xv x) (hn : s.pend + x.length ≤ 1000000000) :
    Calls Tryd.prog 21 #[.pointer (some ⟨b, 0, none⟩), xv] w fun e w' => e = .returned (.tuple #[]) ∧ Stp F w w' ∧ DecAt w' b (Plus F w w') (s.feed x) := by
  obtain ⟨xa, xc, rfl, xc1, xc2, _⟩ := hx.get
  have HX := Lib.hid hx; clear hx
  obtain ⟨hF, hI, h⟩ := h
  have hlt := hI b hF
  cases s with
  | live l =>
    obtain ⟨sv, hbuf, hblk⟩ := h
    have d0 : w.cell? ⟨b, 0, none⟩ = some sv := hblk.cell rfl
    have d1 : w.cell? ⟨b, 1, none⟩ = some (.int .i64 0) := hblk.cell rfl
    have HB := Lib.hid hblk
    have HBU := Lib.hid hbuf
    have HI := Lib.hid hI
    have HF := Lib.hid hF
    simp only [Fr.D.pend] at hn
    have HN := Lib.hid hn
    clear hblk hbuf hI hF hn
    go_enter Tryd.func21, Tryd.ntmps21
    go_wp2_with (at_builtin; refine wpList_append_buf rfl (.tmp 22) (.tmp 23) rfl sv (.slice xa x.length xc) (by rfl) (by rfl) HBU.out HX.out (by have := HN.out; omega) ?_; intro v2 w2 hbuf2 hst2; have K2 := Lib.hid (HB.out.of_same (hst2.keep b hlt (fun h => h.2 rfl))); have e0 := K2.out.cell (i := 0) rfl; have f0 := K2.out.free 0; obtain ⟨a2, c2, hv2, _⟩ := hbuf2.bv.get; rw [List.length_append] at hv2; subst hv2; have U2 := Lib.hid hbuf2; have S2 := Lib.hid hst2; clear hbuf2 hst2 d0 d1)
    go_end0
    have st : Stp F w (w2.setCell ⟨b, 0, none⟩ (.slice a2 (l.length + x.length) c2)) := (S2.out.weaken (fun k h => h.1)).set (.inl (.inl HF.out)) _
    have hz := S2.out.size
    refine ⟨rfl, st, .inl HF.out, Plus.inn HI.out st.size, .slice a2 (l.length + x.length) c2, ?_, K2.out.set 0 _⟩
    have hne : ∀ k, Plus (fun k => F k ∧ k ≠ b) w w2 k → k ≠ b := fun k hk e => by
      rcases hk with hk | hk
      · exact hk.2 e
      · omega
    refine (U2.out.same (w' := w2.setCell ⟨b, 0, none⟩ (.slice a2 (l.length + x.length) c2)) (fun k hk => heap_setCell_other w2 ⟨b, 0, none⟩ k _ (hne k hk)) (by simp)).mono (fun k hk => ⟨?_, hne k hk⟩)
    rcases hk with hk | hk
    · exact .inl hk.1
    · exact .inr (by simpa using hk)
  | dead n =>
    obtain ⟨hn0, hblk⟩ := h
    have d1 : w.cell? ⟨b, 1, none⟩ = some (.int .i64 (n : Int)) := hblk.cell rfl
    have f1 := hblk.free 1
    have HB := Lib.hid hblk
    have HI := Lib.hid hI
    have HF := Lib.hid hF
    have i0 : (0 : Int) < (n : Int) := by omega
    have i1 : (n : Int) + (x.length : Int) ≤ 1000000000 := by simp only [Fr.D.pend] at hn; omega
    clear hblk hI hF hn
    go_enter Tryd.func21, Tryd.ntmps21
    go_wp2_with fail
    refine bodyPost_ret (results_none rfl _ _ _) rfl ?_
    have st : Stp F w (w.setCell ⟨b, 1, none⟩ (.int .i64 ((n : Int) + (x.length : Int)))) := (Stp.refl _ _).set (.inl (.inl HF.out)) _
    refine ⟨rfl, st, .inl HF.out, Plus.inn HI.out st.size, by omega, ?_⟩
    have := HB.out.set 1 (.int .i64 ((n : Int) + (x.length : Int)))
    simpa using this
set_option maxHeartbeats 1000000 in
theorem pend_any {b : Nat} {s : Fr.D} (h : DecAt w b F s) (hn : s.pend ≤ 1000000000) :
    Calls Tryd.prog 33 #[.pointer (some ⟨b, 0, none⟩)] w fun e w' => e = .returned (.int .i64 (s.pend : Int)) ∧ ∃ n, w' = w.drewN n := by
  obtain ⟨hF, hI, h⟩ := h
  have hlt := hI b hF
  cases s with
  | live l =>
    obtain ⟨sv, hbuf, hblk⟩ := h
    obtain ⟨a, c, rfl, _⟩ := hbuf.bv.get
    have d0 : w.cell? ⟨b, 0, none⟩ = some (.slice a l.length c) := hblk.cell rfl
    have d1 : w.cell? ⟨b, 1, none⟩ = some (.int .i64 0) := hblk.cell rfl
    have i1 : (l.length : Int) ≤ 1000000000 := by simp only [Fr.D.pend] at hn; omega
    clear hbuf hblk hn hF hI
    go_enter Tryd.func33, Tryd.ntmps33
    go_wp2_with fail
    go_quiet (fail)
    go_wp2_with fail
    go_ret
    exact ⟨rfl, _, rfl⟩
  | dead n =>
    obtain ⟨hn0, hblk⟩ := h
    have d0 : w.cell? ⟨b, 0, none⟩ = some (.slice none 0 0) := hblk.cell rfl
    have d1 : w.cell? ⟨b, 1, none⟩ = some (.int .i64 (n : Int)) := hblk.cell rfl
    have i1 : (n : Int) ≤ 1000000000 := by simp only [Fr.D.pend] at hn; omega
    clear hblk hn hF hI
    go_enter Tryd.func33, Tryd.ntmps33
    go_wp2_with fail
    go_quiet (fail)
    go_wp2_with fail
    go_ret
    exact ⟨rfl, _, rfl⟩
theorem results_tmp4 {fn : Func} {t u v x : Tmp} (h : fn.results = #[.tmp t, .tmp u, .tmp v, .tmp x]) (tmps : Array Value) (P : Program) (w : World) :
    (results fn tmps).run P w = .ok (.tuple #[tmps.getD t undef, tmps.getD u undef, tmps.getD v undef, tmps.getD x undef]) w := by
  simp [results, h]
def lenV (r : Fr.Len) (a s : Int) (k v : Bool) : Prop :=
  match r with
  | .need => k = false ∧ v = true
  | .bad => v = false
  | .ok b n => a = (b : Int) ∧ s = (n : Int) ∧ k = true ∧ v = true
/-- What 'length' returns. -/
def LenPost (r : Fr.Len) (e : Ending) : Prop := ∃ a s k v, e = .returned (.tuple #[.int .i64 a, .int .i64 s, .bool k, .bool v]) ∧ lenV r a s k v
theorem wraps_i64 (n : Int) (h0 : 0 ≤ n) (h1 : n < 2 ^ 60) : IntKind.i64.wrap n = n := by
  rw [IntKind.wrap_i64]; omega
theorem and127 (n : Nat) (h : n < 256) : bits BinOp.and IntKind.i64 (n : Int) 127 = ((n % 128 : Nat) : Int) := by
  have := (bits_nat .i64 60 (by decide) wraps_i64 n 127 (by omega) (by decide)).1
  rw [show ((127 : Nat) : Int) = 127 from rfl] at this
  rw [this, show 127 = 2 ^ 7 - 1 from rfl, Nat.and_two_pow_sub_one_eq_mod]
theorem or_zero (n : Nat) (h : n < 256) : bits BinOp.or IntKind.i64 0 (n : Int) = (n : Int) := by
  have := (bits_nat .i64 60 (by decide) wraps_i64 0 n (by decide) (by omega)).2
  rw [show ((0 : Nat) : Int) = 0 from rfl] at this
  rw [this, Nat.zero_or]
theorem or_join (i : Nat) (y x : Nat) (hi : i ≤ 20) (hy : y < 2 ^ i) (hx : x < 1000000) : bits BinOp.or IntKind.i64 (y : Int) ((x * 2 ^ i : Nat) : Int) = ((y + x * 2 ^ i : Nat) : Int) := by
  have h2 : 2 ^ i ≤ 2 ^ 20 := Nat.pow_le_pow_right (by decide) hi
  have hyx : x * 2 ^ i < 2 ^ 60 := by
    have : x * 2 ^ i ≤ 1000000 * 2 ^ 20 := Nat.mul_le_mul (by omega) h2
    have e : 1000000 * 2 ^ 20 < 2 ^ 60 := by decide
    omega
  have := (bits_nat .i64 60 (by decide) wraps_i64 y (x * 2 ^ i) (by omega) hyx).2
  rw [this, Nat.or_comm, Nat.mul_comm, ← Nat.two_pow_add_eq_or_of_lt hy, Nat.add_comm]
set_option maxRecDepth 100000 in
set_option maxHeartbeats 1000000 in
theorem flen_any {l : List UInt8} (hx : BV w F xv l) :
    Calls Tryd.prog 56 #[xv] w fun e w' => LenPost (Fr.lenAt l) e ∧ w = w' := by
  obtain ⟨xa, xc, rfl, xc1, xc2, hc⟩ := hx.get
  have hcell : ∀ i, i < l.length → ∃ b o, xa = some ⟨b, o, none⟩ ∧ w.cell? ⟨b, o + i, none⟩ = some (.int .u8 (Fr.B l i : Int)) := fun i hi => by
    obtain ⟨b, o, e, _, h⟩ := hc i hi
    refine ⟨b, o, e, ?_⟩
    rw [h]; simp [Fr.B, List.getD, hi]
  have HC := Lib.hid hcell
  unfold maxLen at xc2
  clear hx hc hcell
  go_enter Tryd.func56, Tryd.ntmps56
  go_wp2_with fail
  go_loopw [3, 8] (fun s3 s8 wr => wr = w ∧ ((s8 = .int .i64 0 ∧ s3 = .int .i64 0) ∨ (s8 = .int .i64 1 ∧ s3 = .int .i64 (Fr.B l 1 % 128 : Nat) ∧ 128 ≤ Fr.B l 1 ∧ 1 < l.length) ∨ (s8 = .int .i64 2 ∧ s3 = .int .i64 (Fr.B l 1 % 128 + 128 * (Fr.B l 2 % 128) : Nat) ∧ 128 ≤ Fr.B l 1 ∧ 128 ≤ Fr.B l 2 ∧ 2 < l.length) ∨ (s8 = .int .i64 3 ∧ 128 ≤ Fr.B l 1 ∧ 128 ≤ Fr.B l 2 ∧ 128 ≤ Fr.B l 3 ∧ 3 < l.length))) (fun _ s8 _ => 3 - (intOf s8).toNat)
  case atStart => exact ⟨rfl, .inl ⟨rfl, rfl⟩⟩
  case round =>
    obtain ⟨rfl, h | h | h | h⟩ := hrel
    · obtain ⟨rfl, rfl⟩ := h
      by_cases hl : l.length ≤ 1
      · have il : (l.length : Int) ≤ 1 := by omega
        have HL : Hid (Fr.lenAt l = .need) := Lib.hid (by unfold Fr.lenAt; rw [if_pos (by omega)])
        go_wp2_with fail
        all_goals
          refine bodyPost_ret (results_tmp4 rfl _ _ _) rfl ?_
          exact ⟨⟨_, _, _, _, rfl, by rw [HL.out]; exact ⟨rfl, rfl⟩⟩, rfl⟩
      · have il : ¬ (l.length : Int) ≤ 1 := by omega
        obtain ⟨b, o, rfl, hc1⟩ := HC.out 1 (by omega)
        have hB := Fr.B_lt l 1
        have hA := and127 (Fr.B l 1) hB
        have hz : Fr.B l 1 % 128 < 128 := Nat.mod_lt _ (by decide)
        have hO := or_zero (Fr.B l 1 % 128) (by omega)
        obtain ⟨z, hz0⟩ : ∃ z, Fr.B l 1 % 128 = z := ⟨_, rfl⟩
        rw [hz0] at hA hO hz
        obtain ⟨y, hy⟩ : ∃ y, Fr.B l 1 = y := ⟨_, rfl⟩
        rw [hy] at hc1 hB hA hz0
        have HY := Lib.hid hy
        have HZ := Lib.hid hz0
        clear hy hz0
        by_cases h128 : y < 128
        · have i1 : (y : Int) < 128 := by omega
          have HL : Hid (Fr.lenAt l = .ok 2 z) := Lib.hid (by unfold Fr.lenAt; rw [if_neg hl, HY.out, if_pos h128]; have := HZ.out; congr 1; omega)
          clear h128 hl
          go_wp2_with fail
          all_goals
            refine bodyPost_ret (results_tmp4 rfl _ _ _) rfl ?_
            exact ⟨⟨_, _, _, _, rfl, by rw [HL.out]; exact ⟨rfl, rfl, rfl, rfl⟩⟩, rfl⟩
        · have i1 : ¬ (y : Int) < 128 := by omega
          have H128 := Lib.hid h128
          have HLL := Lib.hid hl
          clear h128 hl
          go_wp2_with fail
          go_roundw
          case rel => exact ⟨trivial, .inr (.inl ⟨rfl, by rw [HY.out, HZ.out], by have := HY.out; have := H128.out; omega, by have := HLL.out; omega⟩)⟩
          case measure => simp [intOf]
    · obtain ⟨rfl, rfl, p1, p2⟩ := h
      have hs : Fr.B l 1 % 128 < 2 ^ 7 := Nat.mod_lt _ (by decide)
      obtain ⟨sz, hsz⟩ : ∃ sz, Fr.B l 1 % 128 = sz := ⟨_, rfl⟩
      rw [hsz] at hs ⊢
      have P1 := Lib.hid p1; clear p1
      have HSZ := Lib.hid hsz; clear hsz
      by_cases hl : l.length ≤ 2
      · have il : (l.length : Int) ≤ 2 := by omega
        have HL : Hid (Fr.lenAt l = .need) := Lib.hid (by unfold Fr.lenAt; rw [if_neg (by omega)]; rw [if_neg (by have := P1.out; omega)]; rw [if_pos (by omega)])
        go_wp2_with fail
        all_goals
          refine bodyPost_ret (results_tmp4 rfl _ _ _) rfl ?_
          exact ⟨⟨_, _, _, _, rfl, by rw [HL.out]; exact ⟨rfl, rfl⟩⟩, rfl⟩
      · have il : ¬ (l.length : Int) ≤ 2 := by omega
        obtain ⟨b, o, rfl, hc1⟩ := HC.out 2 (by omega)
        have hB := Fr.B_lt l 2
        have hA := and127 (Fr.B l 2) hB
        have hz : Fr.B l 2 % 128 < 128 := Nat.mod_lt _ (by decide)
        have hO := or_join 7 sz (Fr.B l 2 % 128) (by decide) hs (by omega)
        rw [show 2 ^ 7 = 128 from rfl] at hO
        obtain ⟨z, hz0⟩ : ∃ z, Fr.B l 2 % 128 = z := ⟨_, rfl⟩
        rw [hz0] at hA hO hz
        obtain ⟨y, hy⟩ : ∃ y, Fr.B l 2 = y := ⟨_, rfl⟩
        rw [hy] at hc1 hB hA hz0
        have HY := Lib.hid hy
        have HZ := Lib.hid hz0
        clear hy hz0
        obtain ⟨zz, hzz⟩ : ∃ zz, z * 128 = zz := ⟨_, rfl⟩
        have hzz2 : (z : Int) * 128 = (zz : Int) := by omega
        rw [hzz] at hO
        obtain ⟨so, hso⟩ : ∃ so, sz + zz = so := ⟨_, rfl⟩
        rw [hso] at hO
        have HZZ := Lib.hid hzz
        have HSO := Lib.hid hso
        have hzb : zz ≤ 2097152 := by omega
        have hsob : so ≤ 4194304 := by omega
        clear hzz hso
        by_cases h128 : y < 128
        · have i1 : (y : Int) < 128 := by omega
          have i5 : (so : Int) ≤ 65536 := by have := HSZ.out; have := HZ.out; have := HZZ.out; have := HSO.out; omega
          by_cases hy0 : y = 0
          · subst hy0
            have HL : Hid (Fr.lenAt l = .bad) := Lib.hid (by unfold Fr.lenAt; rw [if_neg (by omega)]; rw [if_neg (by have := P1.out; omega)]; rw [if_neg hl, HY.out, if_pos h128, if_pos rfl])
            clear h128 hl
            go_wp2_with fail
            all_goals
              refine bodyPost_ret (results_tmp4 rfl _ _ _) rfl ?_
              exact ⟨⟨_, _, _, _, rfl, by rw [HL.out]; rfl⟩, rfl⟩
          · have i2 : (0 : Int) < (y : Int) := by omega
            have HL : Hid (Fr.lenAt l = .ok 3 so) := Lib.hid (by unfold Fr.lenAt; rw [if_neg (by omega)]; rw [if_neg (by have := P1.out; omega)]; rw [if_neg hl, HY.out, if_pos h128, if_neg hy0]; have := HSZ.out; have := HZ.out; have := HZZ.out; have := HSO.out; congr 1; omega)
            clear h128 hl hy0
            go_wp2_with fail
            all_goals
              refine bodyPost_ret (results_tmp4 rfl _ _ _) rfl ?_
              exact ⟨⟨_, _, _, _, rfl, by rw [HL.out]; exact ⟨rfl, rfl, rfl, rfl⟩⟩, rfl⟩
        · have i1 : ¬ (y : Int) < 128 := by omega
          have H128 := Lib.hid h128
          have HLL := Lib.hid hl
          clear h128 hl
          go_wp2_with fail
          go_roundw
          case rel => exact ⟨trivial, .inr (.inr (.inl ⟨rfl, by rw [HY.out, HZ.out, ← HSO.out, ← HZZ.out, Nat.mul_comm z], P1.out, by have := HY.out; have := H128.out; omega, by have := HLL.out; omega⟩))⟩
          case measure => simp [intOf]
    · obtain ⟨rfl, rfl, p1, p1b, p2⟩ := h
      have hs : Fr.B l 1 % 128 + 128 * (Fr.B l 2 % 128) < 2 ^ 14 := by have := Nat.mod_lt (Fr.B l 1) (show 0 < 128 by decide); have := Nat.mod_lt (Fr.B l 2) (show 0 < 128 by decide); omega
      obtain ⟨sz, hsz⟩ : ∃ sz, Fr.B l 1 % 128 + 128 * (Fr.B l 2 % 128) = sz := ⟨_, rfl⟩
      rw [hsz] at hs ⊢
      have P1 := Lib.hid p1; clear p1
      have HSZ := Lib.hid hsz; clear hsz
      have P1b := Lib.hid p1b; clear p1b
      by_cases hl : l.length ≤ 3
      · have il : (l.length : Int) ≤ 3 := by omega
        have HL : Hid (Fr.lenAt l = .need) := Lib.hid (by unfold Fr.lenAt; rw [if_neg (by omega)]; rw [if_neg (by have := P1.out; omega)]; rw [if_neg (by omega)]; rw [if_neg (by have := P1b.out; omega)]; rw [if_pos (by omega)])
        go_wp2_with fail
        all_goals
          refine bodyPost_ret (results_tmp4 rfl _ _ _) rfl ?_
          exact ⟨⟨_, _, _, _, rfl, by rw [HL.out]; exact ⟨rfl, rfl⟩⟩, rfl⟩
      · have il : ¬ (l.length : Int) ≤ 3 := by omega
        obtain ⟨b, o, rfl, hc1⟩ := HC.out 3 (by omega)
        have hB := Fr.B_lt l 3
        have hA := and127 (Fr.B l 3) hB
        have hz : Fr.B l 3 % 128 < 128 := Nat.mod_lt _ (by decide)
        have hO := or_join 14 sz (Fr.B l 3 % 128) (by decide) hs (by omega)
        rw [show 2 ^ 14 = 16384 from rfl] at hO
        obtain ⟨z, hz0⟩ : ∃ z, Fr.B l 3 % 128 = z := ⟨_, rfl⟩
        rw [hz0] at hA hO hz
        obtain ⟨y, hy⟩ : ∃ y, Fr.B l 3 = y := ⟨_, rfl⟩
        rw [hy] at hc1 hB hA hz0
        have HY := Lib.hid hy
        have HZ := Lib.hid hz0
        clear hy hz0
        obtain ⟨zz, hzz⟩ : ∃ zz, z * 16384 = zz := ⟨_, rfl⟩
        have hzz2 : (z : Int) * 16384 = (zz : Int) := by omega
        rw [hzz] at hO
        obtain ⟨so, hso⟩ : ∃ so, sz + zz = so := ⟨_, rfl⟩
        rw [hso] at hO
        have HZZ := Lib.hid hzz
        have HSO := Lib.hid hso
        have hzb : zz ≤ 2097152 := by omega
        have hsob : so ≤ 4194304 := by omega
        clear hzz hso
        by_cases h128 : y < 128
        · have i1 : (y : Int) < 128 := by omega
          have hs3 : Fr.size3 l = so := by unfold Fr.size3; rw [HY.out]; have := HSZ.out; have := HZ.out; have := HZZ.out; have := HSO.out; omega
          by_cases hgood : so ≤ 65536 ∧ 0 < y
          · have i2 : (0 : Int) < (y : Int) := by omega
            have i5 : (so : Int) ≤ 65536 := by omega
            have HL : Hid (Fr.lenAt l = .ok 4 so) := Lib.hid (by unfold Fr.lenAt; rw [if_neg (by omega)]; rw [if_neg (by have := P1.out; omega)]; rw [if_neg (by omega)]; rw [if_neg (by have := P1b.out; omega)]; rw [if_neg hl, HY.out, if_pos h128, hs3, if_pos hgood])
            clear h128 hl hgood hs3
            go_wp2_with fail
            all_goals
              refine bodyPost_ret (results_tmp4 rfl _ _ _) rfl ?_
              exact ⟨⟨_, _, _, _, rfl, by rw [HL.out]; exact ⟨rfl, rfl, rfl, rfl⟩⟩, rfl⟩
          · have HL : Hid (Fr.lenAt l = .bad) := Lib.hid (by unfold Fr.lenAt; rw [if_neg (by omega)]; rw [if_neg (by have := P1.out; omega)]; rw [if_neg (by omega)]; rw [if_neg (by have := P1b.out; omega)]; rw [if_neg hl, HY.out, if_pos h128, hs3, if_neg hgood])
            by_cases hso2 : so ≤ 65536
            · obtain rfl : y = 0 := by omega
              have i5 : (so : Int) ≤ 65536 := by omega
              clear h128 hl hgood hs3
              go_wp2_with fail
              all_goals
                refine bodyPost_ret (results_tmp4 rfl _ _ _) rfl ?_
                exact ⟨⟨_, _, _, _, rfl, by rw [HL.out]; rfl⟩, rfl⟩
            · have i5 : ¬ (so : Int) ≤ 65536 := by omega
              clear h128 hl hgood hs3
              go_wp2_with fail
              all_goals
                refine bodyPost_ret (results_tmp4 rfl _ _ _) rfl ?_
                exact ⟨⟨_, _, _, _, rfl, by rw [HL.out]; rfl⟩, rfl⟩
        · have i1 : ¬ (y : Int) < 128 := by omega
          have H128 := Lib.hid h128
          have HLL := Lib.hid hl
          clear h128 hl
          go_wp2_with fail
          go_roundw
          case rel => exact ⟨trivial, .inr (.inr (.inr ⟨rfl, P1.out, P1b.out, by have := HY.out; have := H128.out; omega, by have := HLL.out; omega⟩))⟩
          case measure => simp [intOf]
    · obtain ⟨rfl, p1, p2, p3, p4⟩ := h
      have HL : Hid (Fr.lenAt l = .bad) := Lib.hid (by unfold Fr.lenAt; rw [if_neg (by omega), if_neg (by omega), if_neg (by omega), if_neg (by omega), if_neg (by omega), if_neg (by omega)])
      clear p1 p2 p3 p4
      go_wp2_with fail
      all_goals
        refine bodyPost_ret (results_tmp4 rfl _ _ _) rfl ?_
        exact ⟨⟨_, _, _, _, rfl, by rw [HL.out]; rfl⟩, rfl⟩
end
end Go.Proofs.YtggiinfeiilogaaDoor
