/- The walk of Sha256State. -/
import Derived.Test.YtiakmpnmooobbaaDoorStR
import Derived.Test.YtiakmpnmooobbaaDoorPieces
import Derived.Deep.RegionHeld3
namespace Go.Proofs.YtiakmpnmooobbaaDoor
open Go.RowKit
theorem step_append_bytes {w : World} {F : Nat → Prop} {l : List UInt8} {ops : Array Oper} {o : Oper} {a : Act} {K : Act → World → Prop} {Q : Exit → Act → World → Prop} {E : Prop} (hgd : o.guard = none) (s x : Operand)
    (ho : o.op = .call { callee := .builtin .append, args := #[s, x], argTypes := #[22, 22] })
    (sv xv : Value) (m : List UInt8) (hs : a.eval s = sv) (hx : a.eval x = xv) (hown : OwnB w sv l) (hb : BV w F xv m) (hn : l.length + m.length ≤ 1000000000000)
    (h : ∀ (b : Option Addr) (c : Nat) (w' : World), OwnB w' (.slice b (l.length + m.length) c) (l ++ m) → w.grownBy w' sv.ownBlock → ((Value.slice b (l.length + m.length) c).ownBlock = sv.ownBlock ∨ (Value.slice b (l.length + m.length) c).ownBlock = some w.heap.size) →
      K (a.put o.dst (.slice b (l.length + m.length) c)) w') : if Region.wanted o (yielded ops a.tmps) = true then Oper.wp Tryd.prog o a w K Q else E := by
  have hw : Region.wanted o (yielded ops a.tmps) = true := by simp [Region.wanted, hgd]
  rw [if_pos hw]
  obtain ⟨b, c, w', hrun, hO, hg, hat⟩ := run_append_bytes hown hb hn o.type
  unfold Oper.wp
  simp only [execOp, ho, resolve, invoke, builtin, Sem.run_bind, Sem.run_pure, Result.andThen_ok, List.map_toArray, List.map_cons, List.map_nil, hs, hx, hrun]
  exact h b c w' hO hg hat
section
variable {W w : World} {bs bt s0 s1 : Nat} {l0 l1 m0 m1 l : List UInt8} {v0 v1 v : Value}
theorem StR.drew (h : StR W bs bt s0 s1 l0 l1 m0 m1 v0 v1 w) : StR W bs bt s0 s1 l0 l1 m0 m1 v0 v1 w.drew := h.grow (Below.refl _ _).drew
/-- A text made anew since w. -/
theorem NewB.text {wr : World} {sv : Value} (h : NewB w.heap.size w l sv wr) (hS : StR W bs bt s0 s1 l0 l1 m0 m1 v0 v1 w) : BV wr (StF bs bt s0 s1 wr.heap.size) sv l :=
  h.2.1.bv.mono (fun x hx => by
    have h1 := h.2.2.2 x hx
    have h2 := h.2.1.lt x hx
    have := hS.cs.lt
    have := hS.ct.lt
    have := hS.h0.lt
    have := hS.h1.lt
    exact ⟨h2, by omega, by omega, by omega, by omega⟩)
/-- The start. -/
theorem StR.start {w2 w3 : World} (hW : Below W.heap.size W w) (h0 : W.heap.size ≤ s0) (hb2 : Below w.heap.size w w2) (hS0 : ShaIs w2 s0 [] [] 56) (hb3 : Below w2.heap.size w2 w3) (h1 : w2.heap.size ≤ s1) (hS1 : ShaIs w3 s1 [] [] 56) :
    StR W w3.heap.size (w3.heap.size + 1 + 1 + 1) s0 s1 [] [] [] [] (.slice (some ⟨w3.heap.size + 1, 0, none⟩) 0 0) (.slice (some ⟨w3.heap.size + 1 + 1, 0, none⟩) 0 0)
      ((((w3.alloc (.cells #[.pointer (some ⟨s0, 0, none⟩), .pointer (some ⟨s1, 0, none⟩)] 35)).alloc (.cells #[] 5)).alloc (.cells #[] 5)).alloc (.cells #[.slice (some ⟨w3.heap.size + 1, 0, none⟩) 0 0, .slice (some ⟨w3.heap.size + 1 + 1, 0, none⟩) 0 0] 22)) := by
  have k0 := hS0.lt
  have k1 := hS1.lt
  have k2 := hb2.size
  have k3 := hb3.size
  have k4 := hW.size
  have hb : ∀ (o1 o2 o3 o4 : Obj), Below w3.heap.size w3 ((((w3.alloc o1).alloc o2).alloc o3).alloc o4) := fun o1 o2 o3 o4 => ((((Below.refl _ _).alloc (Nat.le_refl _) _).alloc (by simp) _).alloc (by simp; omega) _).alloc (by simp; omega) _
  have hbb := hb (.cells #[.pointer (some ⟨s0, 0, none⟩), .pointer (some ⟨s1, 0, none⟩)] 35) (.cells #[] 5) (.cells #[] 5) (.cells #[.slice (some ⟨w3.heap.size + 1, 0, none⟩) 0 0, .slice (some ⟨w3.heap.size + 1 + 1, 0, none⟩) 0 0] 22)
  refine ⟨(hW.trans (hb2.mono hW.size)).trans ((hb3.trans (hbb.mono hb3.size)).mono (Nat.le_trans k4 k2)), (((Blk.new w3 [.pointer (some ⟨s0, 0, none⟩), .pointer (some ⟨s1, 0, none⟩)] 35).alloc _).alloc _).alloc _, Blk.newAt _ [.slice (some ⟨w3.heap.size + 1, 0, none⟩) 0 0, .slice (some ⟨w3.heap.size + 1 + 1, 0, none⟩) 0 0] 22 (by simp),
    (hS0.of_same (hb3.block _ k0)).of_same (hbb.block _ (by omega)), hS1.of_same (hbb.block _ k1), ?_, ?_, by omega, by omega, by omega, by omega, by omega, by omega, by omega, by omega, by omega, by omega⟩
  · exact ⟨_, 0, rfl, Nat.le_refl _, Nat.zero_le _, (fun e => by cases e), fun h => absurd h (by simp)⟩
  · exact ⟨_, 0, rfl, Nat.le_refl _, Nat.zero_le _, (fun e => by cases e), fun h => absurd h (by simp)⟩
theorem StR.cells (h : StR W bs bt s0 s1 l0 l1 m0 m1 v0 v1 w) : StR W bs bt s0 s1 l0 l1 m0 m1 v0 v1 w ∧ w.cell? ⟨bs, 0, none⟩ = some (.pointer (some ⟨s0, 0, none⟩)) ∧ w.cell? ⟨bs, 1, none⟩ = some (.pointer (some ⟨s1, 0, none⟩)) ∧ w.cell? ⟨bt, 0, none⟩ = some v0 ∧ w.cell? ⟨bt, 1, none⟩ = some v1 :=
  ⟨h, h.cs.cell (i := 0) rfl, h.cs.cell (i := 1) rfl, h.ct.cell (i := 0) rfl, h.ct.cell (i := 1) rfl⟩
theorem StR.keep {w' : World} {Q : Prop} (h : StR W bs bt s0 s1 l0 l1 m0 m1 v0 v1 w ∧ Q) (hb : Below w.heap.size w w') : StR W bs bt s0 s1 l0 l1 m0 m1 v0 v1 w' ∧ w'.cell? ⟨bs, 0, none⟩ = some (.pointer (some ⟨s0, 0, none⟩)) ∧ w'.cell? ⟨bs, 1, none⟩ = some (.pointer (some ⟨s1, 0, none⟩)) ∧ w'.cell? ⟨bt, 0, none⟩ = some v0 ∧ w'.cell? ⟨bt, 1, none⟩ = some v1 :=
  (h.1.grow hb).cells
theorem StR.ofS {Q : Prop} (h : StR W bs bt s0 s1 l0 l1 m0 m1 v0 v1 w ∧ Q) : StR W bs bt s0 s1 l0 l1 m0 m1 v0 v1 w := h.1
end
theorem sum_at {w : World} {b : Nat} {l : List UInt8} {V : ByteArray} (hV : (⟨(Sha.sum l).toArray⟩ : ByteArray) = V) {T : TypeId} {rest : List Value} (h : ShaIs w b l rest T) (hg : Glob w) (hlen : l.length ≤ 1000000000) :
    Calls Tryd.prog 22 #[.pointer (some ⟨b, 0, none⟩)] w fun e w' => e = .returned (.string V) ∧ Below w.heap.size w w' := by
  rw [← hV]; exact shasum_any h hg hlen
theorem refsum_at {w : World} {F : Nat → Prop} {xv : Value} {l : List UInt8} {V : ByteArray} (hV : (⟨(Sha.sum l).toArray⟩ : ByteArray) = V) (hx : BV w F xv l) (hlen : l.length ≤ 1000000000) :
    Calls Tryd.prog 13 #[xv] w fun e w' => e = .returned (.string V) ∧ Below w.heap.size w w' := by
  rw [← hV]; exact refsum_any hx hlen
section
variable {W w : World} {bs bt s0 s1 : Nat} {l0 l1 m0 m1 l : List UInt8} {v0 v1 v : Value} {V : ByteArray} {Q : Prop}
theorem StR.sum0 (h : StR W bs bt s0 s1 l0 l1 m0 m1 v0 v1 w ∧ Q) (hg : Glob W) (hlen : l0.length ≤ 1000000000) (hV : (⟨(Sha.sum l0).toArray⟩ : ByteArray) = V) :
    Calls Tryd.prog 22 #[.pointer (some ⟨s0, 0, none⟩)] w fun e w' => e = .returned (.string V) ∧ Below w.heap.size w w' := sum_at hV h.1.h0 (hg.below h.1.below hg.lt) hlen
theorem StR.rsum0 (h : StR W bs bt s0 s1 l0 l1 m0 m1 v0 v1 w ∧ Q) (hlen : m0.length ≤ 1000000000) (hV : (⟨(Sha.sum m0).toArray⟩ : ByteArray) = V) :
    Calls Tryd.prog 13 #[v0] w fun e w' => e = .returned (.string V) ∧ Below w.heap.size w w' := refsum_at hV h.1.t0 hlen
theorem StR.len0 (h : StR W bs bt s0 s1 l0 l1 m0 m1 v0 v1 w ∧ Q) :
    Calls Tryd.prog 23 #[.pointer (some ⟨s0, 0, none⟩)] w fun e w' => e = .returned (.int .i64 (l0.length : Int)) ∧ w = w' := shalen_any h.1.h0
theorem StR.sum1 (h : StR W bs bt s0 s1 l0 l1 m0 m1 v0 v1 w ∧ Q) (hg : Glob W) (hlen : l1.length ≤ 1000000000) (hV : (⟨(Sha.sum l1).toArray⟩ : ByteArray) = V) :
    Calls Tryd.prog 22 #[.pointer (some ⟨s1, 0, none⟩)] w fun e w' => e = .returned (.string V) ∧ Below w.heap.size w w' := sum_at hV h.1.h1 (hg.below h.1.below hg.lt) hlen
theorem StR.rsum1 (h : StR W bs bt s0 s1 l0 l1 m0 m1 v0 v1 w ∧ Q) (hlen : m1.length ≤ 1000000000) (hV : (⟨(Sha.sum m1).toArray⟩ : ByteArray) = V) :
    Calls Tryd.prog 13 #[v1] w fun e w' => e = .returned (.string V) ∧ Below w.heap.size w w' := refsum_at hV h.1.t1 hlen
theorem StR.len1 (h : StR W bs bt s0 s1 l0 l1 m0 m1 v0 v1 w ∧ Q) :
    Calls Tryd.prog 23 #[.pointer (some ⟨s1, 0, none⟩)] w fun e w' => e = .returned (.int .i64 (l1.length : Int)) ∧ w = w' := shalen_any h.1.h1
end
set_option maxRecDepth 100000 in
set_option maxHeartbeats 8000000 in
theorem sha256State_walk (w : World) (hg : Glob w) (xv : Value) (l : List Op3) (hx : OpsV3 w (fun k => k < w.heap.size) xv l) (_ : True) :
    Calls Tryd.prog 10 #[xv] w fun e w' => e = .returned (.bool true) ∧ Below w.heap.size w w' := by
  obtain ⟨xa, xc, rfl, xc1, xc2, _⟩ := hx.get
  unfold maxLen at xc2
  have HG := Lib.hid hg; clear hg
  have HX := Lib.hid hx; clear hx
  go_enter Tryd.func10, Tryd.ntmps10
  go_wp2_with fail
  refine (awake_any w HG.out).mono ?_
  rintro e w1 ⟨rfl, hb1⟩
  have B1 := Lib.hid hb1; clear hb1
  go_wp2_with fail
  refine (few_any (HX.out.same (fun k hk => B1.out.block k hk))).mono ?_
  rintro e w2 ⟨rfl, ⟨hf, rfl⟩ | ⟨hf, rfl⟩⟩
  rotate_left
  · clear hf
    go_wp2_with fail
    refine (awake_any w1 (HG.out.below B1.out HG.out.lt)).mono ?_
    rintro e w2 ⟨rfl, hb2⟩
    go_wp2_with fail
    go_ret
    exact ⟨rfl, B1.out.trans (hb2.mono B1.out.size)⟩
  obtain ⟨hf1, hf2⟩ := hf
  have HXS := Lib.hid hf2
  clear hf2
  go_wp2_with fail
  refine (shanew_any (HG.out.below B1.out HG.out.lt)).mono ?_
  rintro e w2 ⟨s0, rfl, hs0, hb2, hS0⟩
  have G2 := Lib.hid ((HG.out.below B1.out HG.out.lt).below hb2 (by have := HG.out.lt; have := B1.out.size; omega))
  have Hs0 : Hid (w.heap.size ≤ s0) := by have := B1.out.size; show w.heap.size ≤ s0; omega
  have B2 := Lib.hid hb2
  have S0 := Lib.hid hS0
  clear hs0 hb2 hS0
  go_wp2_with fail
  refine (shanew_any G2.out).mono ?_
  rintro e w3 ⟨s1, rfl, hs1, hb3, hS1⟩
  have R0 := Lib.hid (StR.start B1.out Hs0.out B2.out S0.out hb3 (by omega) hS1)
  clear hs1 hb3 hS1 B1 B2 S0 Hs0 G2
  go_wp2_with fail
  generalize ((((w3.alloc (.cells #[.pointer (some ⟨s0, 0, none⟩), .pointer (some ⟨s1, 0, none⟩)] 35)).alloc (.cells #[] 5)).alloc (.cells #[] 5)).alloc (.cells #[.slice (some ⟨w3.heap.size + 1, 0, none⟩) 0 0, .slice (some ⟨w3.heap.size + 1 + 1, 0, none⟩) 0 0] 22)) = w4 at *
  generalize w3.heap.size + 1 + 1 + 1 = bt at *
  generalize (.slice (some ⟨w3.heap.size + 1, 0, none⟩) 0 0 : Value) = t0 at *
  generalize (.slice (some ⟨w3.heap.size + 1 + 1, 0, none⟩) 0 0 : Value) = t1 at *
  generalize w3.heap.size = bs at *
  have R1 := Lib.hid R0.out
  clear R0
  go_loopw [5] (fun i wr => ∃ (k s0 s1 : Nat) (l0 l1 : List UInt8) (v0 v1 : Value), k ≤ l.length ∧ i = .int .i64 (k : Int) ∧ StR w bs bt s0 s1 l0 l1 l0 l1 v0 v1 wr ∧ l0.length ≤ Xs (l.take k) ∧ l1.length ≤ Xs (l.take k)) (fun i _ => l.length - (intOf i).toNat)
  case atStart => exact ⟨0, s0, s1, [], [], t0, t1, by omega, rfl, R1.out, by simp, by simp⟩
  case round =>
    obtain ⟨k, s0, s1, l0, l1, v0, v1, hk, rfl, hR, hl0, hl1⟩ := hrel
    clear R1
    obtain ⟨a0, c0, rfl, _, e0, _⟩ := hR.t0.get
    obtain ⟨a1, c1, rfl, _, e1, _⟩ := hR.t1.get
    unfold maxLen at e0 e1
    have hxt := Xs_take_le l k
    have hb0 : l0.length ≤ 1000 := by have := HXS.out; omega
    have hb1 : l1.length ≤ 1000 := by have := HXS.out; omega
    have HR := Lib.hid hR
    have HL0 := Lib.hid hl0
    have HL1 := Lib.hid hl1
    clear hR hl0 hl1
    by_cases hlt : k < l.length
    · have ik : (k : Int) < (l.length : Int) := by omega
      obtain ⟨_, _, e2, _, _, hget⟩ := OpsV3.get HX.out
      obtain ⟨rfl, rfl⟩ : _ ∧ _ := by simpa using e2
      obtain ⟨ob, oo, dv, rfl, hob, hfit, hbv, hc0, hc1, hc2⟩ := hget k hlt
      have hxk := Xs_take l k hlt
      have hxt2 := Xs_take_le l (k + 1)
      obtain ⟨f0, f1, f2, f3, _⟩ := hfit
      obtain ⟨xv, kv, sv, hxe, hke, hse⟩ : ∃ xv kv sv, l[k].x = xv ∧ l[k].kind = kv ∧ l[k].state = sv := ⟨_, _, _, rfl, rfl, rfl⟩
      rw [hxe] at hbv hxk
      rw [hke] at hc1 f2 f3
      rw [hse] at hc0 f0 f1
      have hxl : xv.length ≤ 1000 := by have := HXS.out; omega
      have q0 := (HR.out.below.cell (p := ⟨ob, oo + k * 3, none⟩) hob).trans hc0
      have q1 := (HR.out.below.cell (p := ⟨ob, oo + k * 3 + 1, none⟩) hob).trans hc1
      have HC2 := Lib.hid hc2
      have HBV := Lib.hid hbv
      have HXK := Lib.hid hxk
      have Hob := Lib.hid hob
      clear hc0 hc1 hc2 hbv hxk hxe hke hse hget e2 hob
      by_cases hst : sv = 0
      · subst hst
        by_cases k1 : kv = 1
        · subst k1
          have c1 : wr.cell? ⟨bs, 0, none⟩ = some (.pointer (some ⟨s0, 0, none⟩)) := HR.out.cs.cell (i := 0) rfl
          have q2 := (HR.out.below.cell (p := ⟨ob, oo + k * 3 + 2, none⟩) Hob.out).trans HC2.out
          go_wp2_with fail
          go_still_tail 9, (by kernel_rfl)
          change wpList _ _ _ _ _ wr.drew
          have R4 := Lib.hid HR.out.drew
          clear q0 q1 q2 c1 HR
          generalize wr.drew = w4 at *
          go_wp2_with fail
          refine (shawrite_any R4.out.h0 (HBV.out.same (fun x hx => R4.out.below.block x hx)) (fun x hx => ⟨by have := R4.out.o0; omega, by have := R4.out.below.size; omega⟩) (HG.out.below R4.out.below HG.out.lt) (by have := R4.out.o0; have := HG.out.lt; omega) (by omega)).mono ?_
          rintro e w5 ⟨rfl, hst5, hS5⟩
          have R5 := Lib.hid (R4.out.wrote0 hst5 hS5)
          clear hst5 hS5 R4
          have q2 := (R5.out.below.cell (p := ⟨ob, oo + k * 3 + 2, none⟩) Hob.out).trans HC2.out
          have HQ2 := Lib.hid q2
          have ct : w5.cell? ⟨bt, 0, none⟩ = some (.slice a0 l0.length c0) := R5.out.ct.cell (i := 0) rfl
          have ft := R5.out.ct.free 0
          have lt := R5.out.ct.lt
          have hne : ob ≠ bt := by have := R5.out.ot; have := Hob.out; omega
          have hne2 : bt ≠ ob := Ne.symm hne
          have hob5 : ob < w5.heap.size := by have := R5.out.below.size; have := Hob.out; omega
          have Hob5 := Lib.hid hob5
          have X5 := Lib.hid (HBV.out.same (fun x hx => R5.out.below.block x hx))
          have N0 := Lib.hid (NewB.empty w5)
          have hkeep : ∀ w' : World, Below w5.heap.size w5 w' → w'.cell? ⟨bt, 0, none⟩ = some (.slice a0 l0.length c0) ∧ w'.frozen? ⟨bt, 0, none⟩ = false ∧ bt < w'.heap.size := fun w' hb => ⟨(R5.out.grow hb).ct.cell (i := 0) rfl, (R5.out.grow hb).ct.free 0, (R5.out.grow hb).ct.lt⟩
          have HK := Lib.hid hkeep
          clear hkeep hob5
          have q2a : (w5.alloc (.cells #[] 5)).cell? ⟨ob, oo + k * 3 + 2, none⟩ = some dv := (N0.out.1.cell (p := ⟨ob, oo + k * 3 + 2, none⟩) Hob5.out).trans q2
          have cta : (w5.alloc (.cells #[] 5)).cell? ⟨bt, 0, none⟩ = some (.slice a0 l0.length c0) := (N0.out.1.cell (p := ⟨bt, 0, none⟩) lt).trans ct
          go_wp2_with fail
          go_region_law
            (first
              | (refine step_append_bytes rfl (.tmp 52) (.tmp 56) rfl (.slice (some ⟨w5.heap.size, 0, none⟩) 0 0) (.slice a0 l0.length c0) l0 (by rfl) (by rfl) N0.out.drew.2.1 ((R5.out.t0.alloc (.cells #[] 5))) (by simp only [List.length_nil]; omega) ?_; intro a2 c2 w6 hO2 hg2 ho2; have N2 := Lib.hid (N0.out.drew.push hO2 hg2 ho2); simp only [List.length_nil, Nat.zero_add, List.nil_append] at N2 ⊢; clear hO2 hg2 ho2; have q26 := (N2.out.1.cell (p := ⟨ob, oo + k * 3 + 2, none⟩) Hob5.out).trans HQ2.out)
              | (refine step_append_bytes rfl (.tmp 57) (.tmp 62) rfl (.slice a2 l0.length c2) dv xv (by rfl) (by rfl) N2.out.2.1 (X5.out.grow N2.out.1) (by omega) ?_; intro a3 c3 w7 hO3 hg3 ho3; have N3 := Lib.hid (N2.out.push hO3 hg3 ho3); obtain ⟨ct7, ft7, lt7⟩ := HK.out w7 N3.out.1; clear hO3 hg3 ho3))
          all_goals
            have R8 := Lib.hid ((R5.out.grow N3.out.1).text0 (N3.out.text R5.out))
            clear N2 N3 N0 R5 HK X5 q2 q2a cta ct ft lt ct7 ft7 lt7 q26 HQ2
            generalize w7.setCell ⟨bt, 0, none⟩ (.slice a3 (l0.length + xv.length) c3) = w8 at *
            go_wp2_with fail
            go_roundw
            case rel => exact ⟨k + 1, s0, s1, l0 ++ xv, l1, _, _, by omega, by go_num, R8.out, by rw [List.length_append]; have := HL0.out; have := HXK.out; omega, by have := HL1.out; have := HXK.out; omega⟩
            case measure => simp [intOf]; omega
        by_cases k2 : kv = 2
        · subst k2
          have hS0 := HR.out.cells
          obtain ⟨V, hV⟩ : ∃ V : ByteArray, (⟨(Sha.sum l0).toArray⟩ : ByteArray) = V := ⟨_, rfl⟩
          have Hv := Lib.hid hV
          clear hV
          go_wp2_with fail
          go_region_held3 (fun w' => StR w bs bt s0 s1 l0 l1 l0 l1 (.slice a0 l0.length c0) (.slice a1 l1.length c1) w' ∧ w'.cell? ⟨bs, 0, none⟩ = some (.pointer (some ⟨s0, 0, none⟩)) ∧ w'.cell? ⟨bs, 1, none⟩ = some (.pointer (some ⟨s1, 0, none⟩)) ∧ w'.cell? ⟨bt, 0, none⟩ = some (.slice a0 l0.length c0) ∧ w'.cell? ⟨bt, 1, none⟩ = some (.slice a1 l1.length c1))
            (first
              | exact StR.keep (by assumption) hb
              | exact StR.keep (by assumption) (Below.refl _ _).drew)
            (first
              | (go_at_call 22; refine (StR.sum0 (by assumption) HG.out (by omega) Hv.out).mono ?_; rintro e w' ⟨rfl, hb⟩)
              | (go_at_call 13; refine (StR.rsum0 (by assumption) (by omega) Hv.out).mono ?_; rintro e w' ⟨rfl, hb⟩))
          all_goals
            have R8 := Lib.hid (StR.ofS (W := w) (bs := bs) (bt := bt) (s0 := s0) (s1 := s1) (l0 := l0) (l1 := l1) (m0 := l0) (m1 := l1) (v0 := .slice a0 l0.length c0) (v1 := .slice a1 l1.length c1) (by assumption))
            go_wp2_with fail
            go_roundw
            case rel => exact ⟨k + 1, s0, s1, l0, l1, _, _, by omega, by go_num, R8.out, by have := HL0.out; have := HXK.out; omega, by have := HL1.out; have := HXK.out; omega⟩
            case measure => simp [intOf]; omega
        by_cases k3 : kv = 3
        · subst k3
          have hS0 := HR.out.cells
          obtain ⟨V, hV⟩ : ∃ V : ByteArray, (⟨(Sha.sum l0).toArray⟩ : ByteArray) = V := ⟨_, rfl⟩
          have Hv := Lib.hid hV
          clear hV
          go_wp2_with fail
          go_region_held3 (fun w' => StR w bs bt s0 s1 l0 l1 l0 l1 (.slice a0 l0.length c0) (.slice a1 l1.length c1) w' ∧ w'.cell? ⟨bs, 0, none⟩ = some (.pointer (some ⟨s0, 0, none⟩)) ∧ w'.cell? ⟨bs, 1, none⟩ = some (.pointer (some ⟨s1, 0, none⟩)) ∧ w'.cell? ⟨bt, 0, none⟩ = some (.slice a0 l0.length c0) ∧ w'.cell? ⟨bt, 1, none⟩ = some (.slice a1 l1.length c1))
            (first
              | exact StR.keep (by assumption) (Below.refl _ _)
              | exact StR.keep (by assumption) (Below.refl _ _).drew)
            (first
              | (go_at_call 23; refine (StR.len0 (by assumption)).mono ?_; rintro e w' ⟨rfl, rfl⟩))
          all_goals
            have R8 := Lib.hid (StR.ofS (W := w) (bs := bs) (bt := bt) (s0 := s0) (s1 := s1) (l0 := l0) (l1 := l1) (m0 := l0) (m1 := l1) (v0 := .slice a0 l0.length c0) (v1 := .slice a1 l1.length c1) (by assumption))
            go_wp2_with fail
            go_roundw
            case rel => exact ⟨k + 1, s0, s1, l0, l1, _, _, by omega, by go_num, R8.out, by have := HL0.out; have := HXK.out; omega, by have := HL1.out; have := HXK.out; omega⟩
            case measure => simp [intOf]; omega
        by_cases k4 : kv = 4
        · subst k4
          have c1 : wr.cell? ⟨bs, 0, none⟩ = some (.pointer (some ⟨s0, 0, none⟩)) := HR.out.cs.cell (i := 0) rfl
          go_wp2_with fail
          refine (shaclone_any HR.out.h0).mono ?_
          rintro e w5 ⟨rfl, hb5, hS5, hz5⟩
          have R5 := Lib.hid ((HR.out.clone0 hb5 hS5 hz5))
          have g5 := HR.out.grow hb5
          have ck : w5.cell? ⟨bs, 1, none⟩ = some (.pointer (some ⟨s1, 0, none⟩)) := g5.cs.cell (i := 1) rfl
          have fk := g5.cs.free 1
          have lk := g5.cs.lt
          clear g5 hb5 hS5 hz5 c1 q0 q1
          obtain ⟨c, hc⟩ : ∃ c, wr.heap.size = c := ⟨_, rfl⟩
          rw [hc] at R5 ⊢
          clear hc
          have R6 := Lib.hid (R5.out.text1 R5.out.t0)
          have tj : (w5.setCell ⟨bs, 1, none⟩ (.pointer (some ⟨c, 0, none⟩))).cell? ⟨bt, 0, none⟩ = some (.slice a0 l0.length c0) := R5.out.ct.cell (i := 0) rfl
          have tk : (w5.setCell ⟨bs, 1, none⟩ (.pointer (some ⟨c, 0, none⟩))).cell? ⟨bt, 1, none⟩ = some (.slice a1 l1.length c1) := R5.out.ct.cell (i := 1) rfl
          have ftk := R5.out.ct.free 1
          have ltk := R5.out.ct.lt
          have ckk := R6.out.cs.cell (i := 1) rfl
          go_wp2_with fail
          go_roundw
          case rel => exact ⟨k + 1, s0, c, l0, l0, _, _, by omega, by go_num, R6.out, by have := HL0.out; have := HXK.out; omega, by have := HL0.out; have := HXK.out; omega⟩
          case measure => simp [intOf]; omega
        have z1 : (kv == 1) = false := beq_eq_false_iff_ne.2 k1
        have z2 : (kv == 2) = false := beq_eq_false_iff_ne.2 k2
        have z3 : (kv == 3) = false := beq_eq_false_iff_ne.2 k3
        have z4 : (kv == 4) = false := beq_eq_false_iff_ne.2 k4
        go_wp2_with fail
        go_roundw
        case rel => exact ⟨k + 1, s0, s1, l0, l1, _, _, by omega, by go_num, HR.out, by have := HL0.out; have := HXK.out; omega, by have := HL1.out; have := HXK.out; omega⟩
        case measure => simp [intOf]; omega
      · have hs1 : (sv != 0) = true := bne_iff_ne.2 hst
        have hs2 : (sv == 0) = false := beq_eq_false_iff_ne.2 hst
        clear hst
        by_cases k1 : kv = 1
        · subst k1
          have c1 : wr.cell? ⟨bs, 1, none⟩ = some (.pointer (some ⟨s1, 0, none⟩)) := HR.out.cs.cell (i := 1) rfl
          have q2 := (HR.out.below.cell (p := ⟨ob, oo + k * 3 + 2, none⟩) Hob.out).trans HC2.out
          go_wp2_with fail
          go_still_tail 9, (by kernel_rfl)
          change wpList _ _ _ _ _ wr.drew
          have R4 := Lib.hid HR.out.drew
          clear q0 q1 q2 c1 HR
          generalize wr.drew = w4 at *
          go_wp2_with fail
          refine (shawrite_any R4.out.h1 (HBV.out.same (fun x hx => R4.out.below.block x hx)) (fun x hx => ⟨by have := R4.out.o1; omega, by have := R4.out.below.size; omega⟩) (HG.out.below R4.out.below HG.out.lt) (by have := R4.out.o1; have := HG.out.lt; omega) (by omega)).mono ?_
          rintro e w5 ⟨rfl, hst5, hS5⟩
          have R5 := Lib.hid (R4.out.wrote1 hst5 hS5)
          clear hst5 hS5 R4
          have q2 := (R5.out.below.cell (p := ⟨ob, oo + k * 3 + 2, none⟩) Hob.out).trans HC2.out
          have HQ2 := Lib.hid q2
          have ct : w5.cell? ⟨bt, 1, none⟩ = some (.slice a1 l1.length c1) := R5.out.ct.cell (i := 1) rfl
          have ft := R5.out.ct.free 1
          have lt := R5.out.ct.lt
          have hne : ob ≠ bt := by have := R5.out.ot; have := Hob.out; omega
          have hne2 : bt ≠ ob := Ne.symm hne
          have hob5 : ob < w5.heap.size := by have := R5.out.below.size; have := Hob.out; omega
          have Hob5 := Lib.hid hob5
          have X5 := Lib.hid (HBV.out.same (fun x hx => R5.out.below.block x hx))
          have N0 := Lib.hid (NewB.empty w5)
          have hkeep : ∀ w' : World, Below w5.heap.size w5 w' → w'.cell? ⟨bt, 1, none⟩ = some (.slice a1 l1.length c1) ∧ w'.frozen? ⟨bt, 1, none⟩ = false ∧ bt < w'.heap.size := fun w' hb => ⟨(R5.out.grow hb).ct.cell (i := 1) rfl, (R5.out.grow hb).ct.free 1, (R5.out.grow hb).ct.lt⟩
          have HK := Lib.hid hkeep
          clear hkeep hob5
          have q2a : (w5.alloc (.cells #[] 5)).cell? ⟨ob, oo + k * 3 + 2, none⟩ = some dv := (N0.out.1.cell (p := ⟨ob, oo + k * 3 + 2, none⟩) Hob5.out).trans q2
          have cta : (w5.alloc (.cells #[] 5)).cell? ⟨bt, 1, none⟩ = some (.slice a1 l1.length c1) := (N0.out.1.cell (p := ⟨bt, 1, none⟩) lt).trans ct
          go_wp2_with fail
          go_region_law
            (first
              | (refine step_append_bytes rfl (.tmp 52) (.tmp 56) rfl (.slice (some ⟨w5.heap.size, 0, none⟩) 0 0) (.slice a1 l1.length c1) l1 (by rfl) (by rfl) N0.out.drew.2.1 ((R5.out.t1.alloc (.cells #[] 5))) (by simp only [List.length_nil]; omega) ?_; intro a2 c2 w6 hO2 hg2 ho2; have N2 := Lib.hid (N0.out.drew.push hO2 hg2 ho2); simp only [List.length_nil, Nat.zero_add, List.nil_append] at N2 ⊢; clear hO2 hg2 ho2; have q26 := (N2.out.1.cell (p := ⟨ob, oo + k * 3 + 2, none⟩) Hob5.out).trans HQ2.out)
              | (refine step_append_bytes rfl (.tmp 57) (.tmp 62) rfl (.slice a2 l1.length c2) dv xv (by rfl) (by rfl) N2.out.2.1 (X5.out.grow N2.out.1) (by omega) ?_; intro a3 c3 w7 hO3 hg3 ho3; have N3 := Lib.hid (N2.out.push hO3 hg3 ho3); obtain ⟨ct7, ft7, lt7⟩ := HK.out w7 N3.out.1; clear hO3 hg3 ho3))
          all_goals
            have R8 := Lib.hid ((R5.out.grow N3.out.1).text1 (N3.out.text R5.out))
            clear N2 N3 N0 R5 HK X5 q2 q2a cta ct ft lt ct7 ft7 lt7 q26 HQ2
            generalize w7.setCell ⟨bt, 1, none⟩ (.slice a3 (l1.length + xv.length) c3) = w8 at *
            go_wp2_with fail
            go_roundw
            case rel => exact ⟨k + 1, s0, s1, l0, l1 ++ xv, _, _, by omega, by go_num, R8.out, by have := HL0.out; have := HXK.out; omega, by rw [List.length_append]; have := HL1.out; have := HXK.out; omega⟩
            case measure => simp [intOf]; omega
        by_cases k2 : kv = 2
        · subst k2
          have hS0 := HR.out.cells
          obtain ⟨V, hV⟩ : ∃ V : ByteArray, (⟨(Sha.sum l1).toArray⟩ : ByteArray) = V := ⟨_, rfl⟩
          have Hv := Lib.hid hV
          clear hV
          go_wp2_with fail
          go_region_held3 (fun w' => StR w bs bt s0 s1 l0 l1 l0 l1 (.slice a0 l0.length c0) (.slice a1 l1.length c1) w' ∧ w'.cell? ⟨bs, 0, none⟩ = some (.pointer (some ⟨s0, 0, none⟩)) ∧ w'.cell? ⟨bs, 1, none⟩ = some (.pointer (some ⟨s1, 0, none⟩)) ∧ w'.cell? ⟨bt, 0, none⟩ = some (.slice a0 l0.length c0) ∧ w'.cell? ⟨bt, 1, none⟩ = some (.slice a1 l1.length c1))
            (first
              | exact StR.keep (by assumption) hb
              | exact StR.keep (by assumption) (Below.refl _ _).drew)
            (first
              | (go_at_call 22; refine (StR.sum1 (by assumption) HG.out (by omega) Hv.out).mono ?_; rintro e w' ⟨rfl, hb⟩)
              | (go_at_call 13; refine (StR.rsum1 (by assumption) (by omega) Hv.out).mono ?_; rintro e w' ⟨rfl, hb⟩))
          all_goals
            have R8 := Lib.hid (StR.ofS (W := w) (bs := bs) (bt := bt) (s0 := s0) (s1 := s1) (l0 := l0) (l1 := l1) (m0 := l0) (m1 := l1) (v0 := .slice a0 l0.length c0) (v1 := .slice a1 l1.length c1) (by assumption))
            go_wp2_with fail
            go_roundw
            case rel => exact ⟨k + 1, s0, s1, l0, l1, _, _, by omega, by go_num, R8.out, by have := HL0.out; have := HXK.out; omega, by have := HL1.out; have := HXK.out; omega⟩
            case measure => simp [intOf]; omega
        by_cases k3 : kv = 3
        · subst k3
          have hS0 := HR.out.cells
          obtain ⟨V, hV⟩ : ∃ V : ByteArray, (⟨(Sha.sum l1).toArray⟩ : ByteArray) = V := ⟨_, rfl⟩
          have Hv := Lib.hid hV
          clear hV
          go_wp2_with fail
          go_region_held3 (fun w' => StR w bs bt s0 s1 l0 l1 l0 l1 (.slice a0 l0.length c0) (.slice a1 l1.length c1) w' ∧ w'.cell? ⟨bs, 0, none⟩ = some (.pointer (some ⟨s0, 0, none⟩)) ∧ w'.cell? ⟨bs, 1, none⟩ = some (.pointer (some ⟨s1, 0, none⟩)) ∧ w'.cell? ⟨bt, 0, none⟩ = some (.slice a0 l0.length c0) ∧ w'.cell? ⟨bt, 1, none⟩ = some (.slice a1 l1.length c1))
            (first
              | exact StR.keep (by assumption) (Below.refl _ _)
              | exact StR.keep (by assumption) (Below.refl _ _).drew)
            (first
              | (go_at_call 23; refine (StR.len1 (by assumption)).mono ?_; rintro e w' ⟨rfl, rfl⟩))
          all_goals
            have R8 := Lib.hid (StR.ofS (W := w) (bs := bs) (bt := bt) (s0 := s0) (s1 := s1) (l0 := l0) (l1 := l1) (m0 := l0) (m1 := l1) (v0 := .slice a0 l0.length c0) (v1 := .slice a1 l1.length c1) (by assumption))
            go_wp2_with fail
            go_roundw
            case rel => exact ⟨k + 1, s0, s1, l0, l1, _, _, by omega, by go_num, R8.out, by have := HL0.out; have := HXK.out; omega, by have := HL1.out; have := HXK.out; omega⟩
            case measure => simp [intOf]; omega
        by_cases k4 : kv = 4
        · subst k4
          have c1 : wr.cell? ⟨bs, 1, none⟩ = some (.pointer (some ⟨s1, 0, none⟩)) := HR.out.cs.cell (i := 1) rfl
          go_wp2_with fail
          refine (shaclone_any HR.out.h1).mono ?_
          rintro e w5 ⟨rfl, hb5, hS5, hz5⟩
          have R5 := Lib.hid ((HR.out.clone1 hb5 hS5 hz5))
          have g5 := HR.out.grow hb5
          have ck : w5.cell? ⟨bs, 0, none⟩ = some (.pointer (some ⟨s0, 0, none⟩)) := g5.cs.cell (i := 0) rfl
          have fk := g5.cs.free 0
          have lk := g5.cs.lt
          clear g5 hb5 hS5 hz5 c1 q0 q1
          obtain ⟨c, hc⟩ : ∃ c, wr.heap.size = c := ⟨_, rfl⟩
          rw [hc] at R5 ⊢
          clear hc
          have R6 := Lib.hid (R5.out.text0 R5.out.t1)
          have tj : (w5.setCell ⟨bs, 0, none⟩ (.pointer (some ⟨c, 0, none⟩))).cell? ⟨bt, 1, none⟩ = some (.slice a1 l1.length c1) := R5.out.ct.cell (i := 1) rfl
          have tk : (w5.setCell ⟨bs, 0, none⟩ (.pointer (some ⟨c, 0, none⟩))).cell? ⟨bt, 0, none⟩ = some (.slice a0 l0.length c0) := R5.out.ct.cell (i := 0) rfl
          have ftk := R5.out.ct.free 0
          have ltk := R5.out.ct.lt
          have ckk := R6.out.cs.cell (i := 0) rfl
          go_wp2_with fail
          go_roundw
          case rel => exact ⟨k + 1, c, s1, l1, l1, _, _, by omega, by go_num, R6.out, by have := HL1.out; have := HXK.out; omega, by have := HL1.out; have := HXK.out; omega⟩
          case measure => simp [intOf]; omega
        have z1 : (kv == 1) = false := beq_eq_false_iff_ne.2 k1
        have z2 : (kv == 2) = false := beq_eq_false_iff_ne.2 k2
        have z3 : (kv == 3) = false := beq_eq_false_iff_ne.2 k3
        have z4 : (kv == 4) = false := beq_eq_false_iff_ne.2 k4
        go_wp2_with fail
        go_roundw
        case rel => exact ⟨k + 1, s0, s1, l0, l1, _, _, by omega, by go_num, HR.out, by have := HL0.out; have := HXK.out; omega, by have := HL1.out; have := HXK.out; omega⟩
        case measure => simp [intOf]; omega
    · have e8 : k = l.length := by omega
      rw [show (k : Int) = (l.length : Int) from by omega]
      clear e8 hk hlt HL0 HL1
      have hS0 := HR.out.cells
      obtain ⟨V, hV⟩ : ∃ V : ByteArray, (⟨(Sha.sum l0).toArray⟩ : ByteArray) = V := ⟨_, rfl⟩
      obtain ⟨V', hV'⟩ : ∃ V : ByteArray, (⟨(Sha.sum l1).toArray⟩ : ByteArray) = V := ⟨_, rfl⟩
      have Hv := Lib.hid hV
      have Hv' := Lib.hid hV'
      clear hV hV'
      go_wp2_with fail
      go_region_held3 (fun w' => StR w bs bt s0 s1 l0 l1 l0 l1 (.slice a0 l0.length c0) (.slice a1 l1.length c1) w' ∧ w'.cell? ⟨bs, 0, none⟩ = some (.pointer (some ⟨s0, 0, none⟩)) ∧ w'.cell? ⟨bs, 1, none⟩ = some (.pointer (some ⟨s1, 0, none⟩)) ∧ w'.cell? ⟨bt, 0, none⟩ = some (.slice a0 l0.length c0) ∧ w'.cell? ⟨bt, 1, none⟩ = some (.slice a1 l1.length c1))
        (first
          | exact StR.keep (by assumption) hb
          | exact StR.keep (by assumption) (Below.refl _ _).drew)
        (first
          | (go_at_call 22; refine (StR.sum0 (by assumption) HG.out (by omega) Hv.out).mono ?_; rintro e w' ⟨rfl, hb⟩)
          | (go_at_call 13; refine (StR.rsum0 (by assumption) (by omega) Hv.out).mono ?_; rintro e w' ⟨rfl, hb⟩)
          | (go_at_call 22; refine (StR.sum1 (by assumption) HG.out (by omega) Hv'.out).mono ?_; rintro e w' ⟨rfl, hb⟩)
          | (go_at_call 13; refine (StR.rsum1 (by assumption) (by omega) Hv'.out).mono ?_; rintro e w' ⟨rfl, hb⟩))
      all_goals
        have R8 := Lib.hid (StR.ofS (W := w) (bs := bs) (bt := bt) (s0 := s0) (s1 := s1) (l0 := l0) (l1 := l1) (m0 := l0) (m1 := l1) (v0 := .slice a0 l0.length c0) (v1 := .slice a1 l1.length c1) (by assumption))
        go_wp2_with fail
        go_ret
        exact ⟨rfl, R8.out.below⟩
end Go.Proofs.YtiakmpnmooobbaaDoor
