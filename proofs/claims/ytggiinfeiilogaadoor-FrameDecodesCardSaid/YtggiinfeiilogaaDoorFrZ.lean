/- Contract of the reference's Encode. -/
import Derived.Test.YtggiinfeiilogaaDoorFrR
import Derived.Test.YtggiinfeiilogaaDoorRefS
import Derived.Test.YtggiinfeiilogaaDoorAppS
import Derived.Deep.RegionLaw
namespace Go.Proofs.YtggiinfeiilogaaDoor
open Go.RowKit
theorem step_append_bytes {w : World} {F : Nat → Prop} {l : List UInt8} {ops : Array Oper} {o : Oper} {a : Act} {K : Act → World → Prop} {Q : Exit → Act → World → Prop} {E : Prop} (hgd : o.guard = none) (s x : Operand)
    (ho : o.op = .call { callee := .builtin .append, args := #[s, x], argTypes := #[30, 30] })
    (sv xv : Value) (m : List UInt8) (hs : a.eval s = sv) (hx : a.eval x = xv) (hown : OwnB w sv l) (hb : BV w F xv m) (hn : l.length + m.length ≤ 1000000000000)
    (h : ∀ (b : Option Addr) (c : Nat) (w' : World), OwnB w' (.slice b (l.length + m.length) c) (l ++ m) → w.grownBy w' sv.ownBlock → ((Value.slice b (l.length + m.length) c).ownBlock = sv.ownBlock ∨ (Value.slice b (l.length + m.length) c).ownBlock = some w.heap.size) →
      K (a.put o.dst (.slice b (l.length + m.length) c)) w') : if Region.wanted o (yielded ops a.tmps) = true then Oper.wp Tryd.prog o a w K Q else E := by
  have hw : Region.wanted o (yielded ops a.tmps) = true := by simp [Region.wanted, hgd]
  rw [if_pos hw]
  obtain ⟨b, c, w', hrun, hO, hg, hat⟩ := run_append_bytes hown hb hn o.type
  unfold Oper.wp
  simp only [execOp, ho, resolve, invoke, builtin, Sem.run_bind, Sem.run_pure, Result.andThen_ok, List.map_toArray, List.map_cons, List.map_nil, hs, hx, hrun]
  exact h b c w' hO hg hat
theorem NewB.lit1 (w : World) (y : UInt8) : NewB w.heap.size w [y] (.slice (some ⟨w.heap.size, 0, Option.none⟩) 1 1) (w.alloc (.cells #[.int .u8 (y.toNat : Int)] 5)) := by
  refine ⟨(Below.refl _ _).alloc (Nat.le_refl _) _, ?_, by simp, fun g hg => by simp only [Value.ownBlock, Option.some.injEq] at hg; omega⟩
  unfold OwnB
  exact ⟨by simp [By], .inr ⟨w.heap.size, 1, #[.int .u8 (y.toNat : Int)], rfl, Nat.zero_le _, heap_alloc_new w _, by simp, by unfold maxLen; omega, by simp, by simp [By]⟩⟩
section
variable {w w' : World} {F G : Nat → Prop}
set_option maxRecDepth 100000 in
set_option maxHeartbeats 2000000 in
theorem refenc_any {xv : Value} {k : Int} {body : List UInt8} (hx : BV w F xv body) (hF : ∀ k, F k → k < w.heap.size) (k0 : 0 ≤ k) (k1 : k ≤ 255) (hb : body.length ≤ 65536) :
    Calls Tryd.prog 29 #[.agg #[.int .i64 k, xv]] w fun e w' => ∃ sv, e = .returned sv ∧ NewB w.heap.size w (Fr.encM (k, body)) sv w' := by
  have HX := Lib.hid (hx.mono hF); clear hx hF
  obtain ⟨xa, xc, rfl, xc1, xc2, _⟩ := HX.out.get
  obtain ⟨w1, hw1⟩ : ∃ w1, w.alloc (.cells #[.int .i64 k, .slice xa body.length xc] 32) = w1 := ⟨_, rfl⟩
  have hbk : Blk w1 w.heap.size [.int .i64 k, .slice xa body.length xc] 32 := by rw [← hw1]; exact Blk.new w _ _
  have B1 : Hid (Below w.heap.size w w1) := Lib.hid (by rw [← hw1]; exact (Below.refl _ _).alloc (Nat.le_refl _) _)
  have X1 := Lib.hid (HX.out.grow B1.out)
  have HBK := Lib.hid hbk
  have c0 := hbk.cell (i := 0) rfl
  have c1 := hbk.cell (i := 1) rfl
  obtain ⟨y, hy⟩ : ∃ y : UInt8, y = Fr.kb k := ⟨_, rfl⟩
  have hyk : (y.toNat : Int) = k := by rw [hy]; exact Fr.kb_toNat k0 k1
  have HEN : Hid (Fr.encM (k, body) = ([y] ++ Fr.num body.length ++ body) ++ Fr.chk ([y] ++ Fr.num body.length ++ body)) := Lib.hid (by rw [hy]; simp [Fr.encM, Fr.enc, Fr.head])
  obtain ⟨n, hn⟩ : ∃ n, body.length = n := ⟨_, rfl⟩
  rw [hn] at hw1 hbk
  have hg1 : w.heap.size < w1.heap.size := hbk.lt
  rw [hn] at c1 hb HEN xc1
  have HN := Lib.hid hn
  subst hyk
  have hle := Fr.num_le (n := n) (by omega)
  have HLE := Lib.hid hle
  have hC : Hid (∀ w' : World, Below w1.heap.size w1 w' → w'.cell? ⟨w.heap.size, 0, none⟩ = some (.int .i64 (y.toNat : Int)) ∧ w'.cell? ⟨w.heap.size, 1, none⟩ = some (.slice xa n xc)) := Lib.hid (fun w' h => ⟨(h.cell (p := ⟨w.heap.size, 0, none⟩) hg1).trans c0, (h.cell (p := ⟨w.heap.size, 1, none⟩) hg1).trans c1⟩)
  have jb : (y.toNat : Int) ≤ 255 := k1
  have HB := Lib.hid hb
  have jn : (n : Int) ≤ 65536 := by omega
  clear hbk hy hle
  go_enter Tryd.func29, Tryd.ntmps29
  rw [hn]
  go_wp2_with fail
  clear hw1 hn
  trace_state
  have HR := Lib.hid (refnum_any (n := n) · (by omega))
  have HLT : Hid ([y].length + (Fr.num n).length ≤ 1000000000000) := Lib.hid (by have := HLE.out; simp only [List.length_cons, List.length_nil]; omega)
  have j1 : IntKind.u64.wrap (n : Int) = (n : Int) := by rw [IntKind.wrap_u64]; omega
  have j2 : IntKind.u8.wrap (y.toNat : Int) = (y.toNat : Int) := by rw [IntKind.wrap_u8]; omega
  go_region_law
    (first
      | (go_simp; go_at_call 50; refine (HR.out _).mono ?_; rintro e w3 ⟨sv3, rfl, hN3⟩; obtain ⟨a3, c3, rfl, _, _, _, _⟩ := hN3.2.1.form; obtain ⟨q0, q1⟩ := hC.out w3 (by first | exact (Below.refl w1.heap.size w1).drew.trans hN3.1 | exact ((Below.refl w1.heap.size w1).alloc (Nat.le_refl _) _).drew.trans (hN3.1.mono (by simp))); have N3 := Lib.hid hN3; clear hN3)
      | (refine step_append_bytes rfl (.tmp 7) (.tmp 12) rfl (.slice (some ⟨w1.heap.size, 0, none⟩) 1 1) (.slice a3 (Fr.num n).length c3) (Fr.num n) (by rfl) (by rfl) (((NewB.lit1 w1 y).drew.later N3.out.1)).2.1 N3.out.2.1.bv HLT.out ?_; intro a5 c5 w5 hO5 hg5 ho5; have N5a := ((NewB.lit1 w1 y).drew.later N3.out.1).push hO5 hg5 ho5; have NB5 := Lib.hid N5a.1; have N5 := Lib.hid (N5a.rebase B1.out B1.out.size); clear N5a hO5 hg5 ho5)
      | (refine step_append_bytes rfl (.tmp 7) (.tmp 12) rfl (.slice (some ⟨w3.heap.size, 0, none⟩) 1 1) (.slice a3 (Fr.num n).length c3) (Fr.num n) (by rfl) (by rfl) (NewB.lit1 w3 y).2.1 (N3.out.2.1.bv.alloc _) HLT.out ?_; intro a5 c5 w5 hO5 hg5 ho5; have B13 : Below w1.heap.size w1 w3 := (Below.refl w1.heap.size w1).drew.trans N3.out.1; have N5a := (NewB.lit1 w3 y).push hO5 hg5 ho5; have NB5 := Lib.hid (B13.trans (N5a.1.mono B13.size)); have N5 := Lib.hid (N5a.rebase (B1.out.trans (B13.mono B1.out.size)) (Nat.le_trans B1.out.size B13.size)); clear N5a B13 hO5 hg5 ho5))
  all_goals
    clear j1 j2 c0 c1 q0 q1 N3 HR
    obtain ⟨q0, q1⟩ := hC.out w5 NB5.out
    have X5 : Hid (BV w5 (fun k => k < w.heap.size) (.slice xa n xc) body) := Lib.hid (by have := X1.out.grow NB5.out; rw [HN.out] at this; exact this)
    have N5' : Hid (NewB w.heap.size w ([y] ++ Fr.num n) (.slice a5 (1 + (Fr.num n).length) c5) w5) := N5
    have hl3 : ([y] ++ Fr.num n).length = 1 + (Fr.num n).length := by simp only [List.length_append, List.length_cons, List.length_nil]
    have hl4 : 1 + (Fr.num n).length ≤ 10 := by have := HLE.out; omega
    obtain ⟨h3, hh3⟩ : ∃ h3, [y] ++ Fr.num n = h3 := ⟨_, rfl⟩
    obtain ⟨p, hp⟩ : ∃ p, 1 + (Fr.num n).length = p := ⟨_, rfl⟩
    rw [hh3] at hl3 N5' HEN
    rw [hp] at hl3 hl4 N5' ⊢
    subst hl3
    have N6 := Lib.hid N5'.out
    have HL4 := Lib.hid hl4
    clear N5 N5' NB5 hp hh3 hl4
    go_wp2_with (at_builtin; refine wpList_append_bytes rfl (.tmp 14) (.tmp 16) rfl (.slice a5 h3.length c5) _ body (by rfl) (by rfl) N6.out.2.1 X5.out (by have := HL4.out; have := HB.out; have := HN.out; omega) ?_; intro a6 c6 w6 hO6 hg6 ho6; have N7 := Lib.hid (N6.out.push hO6 hg6 ho6); clear hO6 hg6 ho6)
    have hlen5 : (h3 ++ body).length ≤ 100000 := by have := HL4.out; have := HB.out; have := HN.out; rw [List.length_append]; omega
    refine (refsum_any N7.out.2.1.bv (by omega)).mono ?_
    rintro e w7 ⟨rfl, hb7⟩
    have N8 := Lib.hid (N7.out.later hb7)
    obtain ⟨V, hV⟩ : ∃ V : ByteArray, (⟨(Sha.sum (h3 ++ body)).toArray⟩ : ByteArray) = V := ⟨_, rfl⟩
    rw [hV]
    have hVs : V.size = 32 := by rw [← hV]; exact Fr.sum_len _
    have hVe : V.extract 0 8 = ⟨(Fr.chk (h3 ++ body)).toArray⟩ := by rw [← hV, extract8]; rfl
    have HVE := Lib.hid hVe
    have HL5 := Lib.hid hlen5
    have hsum : h3.length + body.length = (h3 ++ body).length := by rw [List.length_append]
    rw [hsum] at N8 ⊢
    obtain ⟨h5, hh5⟩ : ∃ h5, h3 ++ body = h5 := ⟨_, rfl⟩
    rw [hh5] at N8 HVE HEN HL5 ⊢
    clear hb7 hV hVe hlen5 hsum hh5 N7 N6 X5 q0 q1
    obtain ⟨W8, hW8⟩ : ∃ W8 : ByteArray, (⟨(Fr.chk h5).toArray⟩ : ByteArray) = W8 := ⟨_, rfl⟩
    have hV8 : V.extract 0 8 = W8 := by rw [HVE.out, hW8]
    have HWD : Hid (W8.data.toList = Fr.chk h5) := Lib.hid (by rw [← hW8])
    have HWS : Hid (W8.size = 8) := Lib.hid (by rw [← hW8]; exact Fr.chk_length _)
    clear hW8
    go_wp2_with (at_builtin; refine wpList_append_str rfl (.tmp 18) (.tmp 21) rfl (.slice a6 h5.length c6) W8 (by rfl) (by first | rfl | exact congrArg Value.string hV8) N8.out (by rw [HWS.out]; have := HL5.out; omega) ?_; intro a9 c9 w9 hN9; rw [HWD.out, ← HEN.out] at hN9; have N9 := Lib.hid hN9; clear hN9)
    go_ret
    exact ⟨_, rfl, N9.out⟩
end
end Go.Proofs.YtggiinfeiilogaaDoor
