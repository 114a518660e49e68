/- The walk of FrameDecodes. -/
import Derived.Test.YtggiinfeiilogaaDoorFdI
import Derived.Test.YtggiinfeiilogaaDoorFrA
namespace Go.Proofs.YtggiinfeiilogaaDoor
open Go.RowKit
set_option linter.unusedSimpArgs false
abbrev FdS (w : World) (B C bx : Nat) (k : Int) (v x sv : Value) (a : Nat) (w' : World) : Prop :=
  Below w.heap.size w w' ∧ w'.cell? ⟨B, 0, none⟩ = some (.int .i64 k) ∧ w'.cell? ⟨B, 1, none⟩ = some v ∧ w'.cell? ⟨C, 0, none⟩ = some (.int .i64 k) ∧ w'.cell? ⟨C, 1, none⟩ = some x ∧ w'.cell? ⟨bx, 0, none⟩ = some sv ∧ w'.cell? ⟨bx, 1, none⟩ = some (.int .i64 (a : Int))
theorem FdS.next {w w' w2 : World} {B C bx a : Nat} {k : Int} {v x sv : Value} (hl : B < w.heap.size ∧ C < w.heap.size ∧ bx < w.heap.size) (h : FdS w B C bx k v x sv a w') (h2 : Below w'.heap.size w' w2) : FdS w B C bx k v x sv a w2 := by
  obtain ⟨h0, h1, h3, h4, h5, h6, h7⟩ := h
  have lt : ∀ {q : Nat}, q < w.heap.size → q < w'.heap.size := fun hq => Nat.lt_of_lt_of_le hq h0.size
  exact ⟨h0.trans (h2.mono h0.size), (h2.cell (p := ⟨B, 0, none⟩) (lt hl.1)).trans h1, (h2.cell (p := ⟨B, 1, none⟩) (lt hl.1)).trans h3, (h2.cell (p := ⟨C, 0, none⟩) (lt hl.2.1)).trans h4, (h2.cell (p := ⟨C, 1, none⟩) (lt hl.2.1)).trans h5, (h2.cell (p := ⟨bx, 0, none⟩) (lt hl.2.2)).trans h6, (h2.cell (p := ⟨bx, 1, none⟩) (lt hl.2.2)).trans h7⟩
set_option maxRecDepth 100000 in
set_option maxHeartbeats 4000000 in
theorem frameDecodes_walk (w : World) (hg : Glob w) (mv : Value) (L : List (List UInt8)) (hm : LV w (fun k => k < w.heap.size) mv L) :
    Calls Tryd.prog 6 #[mv] w fun e w' => e = .returned (.bool true) ∧ Below w.heap.size w w' := by
  obtain ⟨ma, mc, rfl, mc1, mc2, _⟩ := hm.get
  unfold maxLen at mc2
  have HG := Lib.hid hg
  have HM := Lib.hid hm
  clear hg hm
  go_enter Tryd.func6, Tryd.ntmps6
  go_wp2_with fail
  refine (awake37_any w HG.out).mono ?_
  rintro e w1 ⟨rfl, hb1⟩
  have B1 := Lib.hid hb1; clear hb1
  by_cases h2 : 12 < L.length
  · have i2 : (12 : Int) < (L.length : Int) := by omega
    go_wp2_with fail
    go_ret
    exact ⟨rfl, B1.out⟩
  have i2 : (L.length : Int) ≤ 12 := by omega
  clear h2
  go_wp2_with fail
  refine (newdec_any w1).mono ?_
  rintro e w2 ⟨rfl, hb2, hD2⟩
  have hF2 : From w.heap.size (fun k => w1.heap.size ≤ k ∧ k < w2.heap.size) := fun k hk => Nat.le_trans B1.out.size hk.1
  have hwb := B1.out.size
  generalize (fun k => w1.heap.size ≤ k ∧ k < w2.heap.size) = F2 at *
  generalize w1.heap.size = bd at *
  have B2 := Lib.hid (B1.out.trans (hb2.mono hwb))
  have D2 := Lib.hid hD2
  have FR2 := Lib.hid hF2
  clear hb2 hD2 hF2 B1
  go_wp2_with fail
  have hBX := Blk.new w2 [.slice none 0 0, .int .i64 0, .bool false] 53
  have hbz : Below w2.heap.size w2 (w2.alloc (.cells #[.slice none 0 0, .int .i64 0, .bool false] 53)) := (Below.refl _ _).alloc (Nat.le_refl _) _
  have J3 : Hid (DJ w (w2.alloc (.cells #[.slice none 0 0, .int .i64 0, .bool false] 53)) bd w2.heap.size (.slice none 0 0) [] 0 false (dst [] 0 false)) := Lib.hid ⟨B2.out.trans (hbz.mono B2.out.size), B2.out.size, F2, FR2.out, (fun h => by have := D2.out.2.1 _ h; omega), (fun g hg => by cases hg), D2.out.grow hbz, hBX, OwnB.nil _⟩
  clear hBX hbz D2 FR2 hwb
  generalize w2.alloc (.cells #[.slice none 0 0, .int .i64 0, .bool false] 53) = w3 at *
  generalize w2.heap.size = bx at *
  clear B2
  go_loopw [5] (fun s wr => ∃ (i : Nat) (S : List UInt8) (sv : Value) (a : Nat) (bad : Bool), i ≤ L.length ∧ s = .int .i64 (i : Int) ∧ S.length ≤ 400 * i ∧ a ≤ S.length ∧ DJ w wr bd bx sv S a bad (dst S a bad)) (fun s _ => L.length - (intOf s).toNat)
  case atStart => exact ⟨0, [], .slice none 0 0, 0, false, by omega, rfl, by simp, by simp, J3.out⟩
  case round =>
    obtain ⟨i, S, sv, a, bad, hi, rfl, hS, ha, hJ⟩ := hrel
    clear J3
    have J := Lib.hid hJ
    have HSL := Lib.hid (And.intro hS ha)
    have hLX := LV.same HM.out (fun x hx => hJ.1.block x hx)
    clear hJ hS ha
    by_cases hlt : i < L.length
    · have it : (i : Int) < (L.length : Int) := by omega
      obtain ⟨_, _, e1, _, _, hget⟩ := hLX.get
      obtain ⟨rfl, rfl⟩ : _ ∧ _ := by simpa using e1
      obtain ⟨pb, po, pv, rfl, hpb, pc, hpv⟩ := hget i hlt
      obtain ⟨x, hx⟩ : ∃ x, L[i] = x := ⟨_, rfl⟩
      rw [hx] at hpv
      obtain ⟨da, dc, rfl, dc1, dc2, _⟩ := hpv.get
      unfold maxLen at dc2
      have HPV := Lib.hid hpv
      have HPC := Lib.hid pc
      have HPB := Lib.hid hpb
      clear hget e1 hx hpv hLX hpb
      by_cases h400 : 400 < x.length
      · have i3 : (400 : Int) < (x.length : Int) := by omega
        go_wp2_with fail
        go_ret
        exact ⟨rfl, J.out.1⟩
      have i3 : (x.length : Int) ≤ 400 := by omega
      have HX4 := Lib.hid (show x.length ≤ 400 by omega)
      clear h400
      go_wp2_with fail
      refine (dj_feed J.out HPV.out (by rw [dst_pend]; have := HSL.out; have := HX4.out; omega)).mono ?_
      rintro e w6 ⟨rfl, hJ6⟩
      rw [dst_feed _ _ _ _ HSL.out.2] at hJ6
      have c6 : w6.cell? ⟨pb, po + i, none⟩ = some (.slice da x.length dc) := (hJ6.1.cell (p := ⟨pb, po + i, none⟩) HPB.out).trans ((J.out.1.cell (p := ⟨pb, po + i, none⟩) HPB.out).symm.trans HPC.out)
      have HPV6 : Hid (BV w6 (fun k => k < w.heap.size) (.slice da x.length dc) x) := Lib.hid (HPV.out.same (fun k hk => (hJ6.1.block k hk).trans (J.out.1.block k hk).symm))
      have J6 := Lib.hid hJ6
      clear hJ6 pc J
      go_upto_region 13 with fail
      have e0 := J6.out.ref.cell (i := 0) rfl
      have JD : Hid (DJ w w6.drew bd bx sv S a bad (dst (S ++ x) a bad)) := Lib.hid (J6.out.grow (Below.refl _ _).drew)
      have PD : Hid (BV w6.drew (fun k => k < w.heap.size) (.slice da x.length dc) x) := Lib.hid HPV6.out
      clear J6 HPV6
      go_cut [5] (fun s5 wx => ∃ v, s5 = .int .i64 (i : Int) ∧ DJ w wx bd bx v (S ++ x) a bad (dst (S ++ x) a bad))
      case first =>
        refine wp_region_any (by kernel_rfl) ?_
        change wpAny _ _ _ _ _ _ _ (World.drew _)
        refine wpAny_take (i := 0) (oi := ⟨some 38, _, _, _, _, _⟩) (v := .pointer (some ⟨bx, 0, none⟩)) rfl (by kernel_rfl) (by kernel_rfl) (by kernel_rfl) (fun _ _ _ h => h) (Or.inl ⟨by rfl, fun w => by go_simp⟩) ?_
        try simp only [Act.put, List.setIfInBounds_toArray, List.set_cons_zero, List.set_cons_succ]
        refine wpAny_take (i := 1) (oi := ⟨some 39, _, _, _, _, _⟩) (v := .pointer (some ⟨bx, 0, none⟩)) rfl (by kernel_rfl) (by kernel_rfl) (by kernel_rfl) (fun _ _ _ h => h) (Or.inl ⟨by rfl, fun w => by go_simp⟩) ?_
        try simp only [Act.put, List.setIfInBounds_toArray, List.set_cons_zero, List.set_cons_succ]
        refine wpAny_take (i := 2) (oi := ⟨some 40, _, _, _, _, _⟩) (v := .pointer (some ⟨bx, 0, none⟩)) rfl (by kernel_rfl) (by kernel_rfl) (by kernel_rfl) (fun _ _ _ h => h) (Or.inl ⟨by rfl, fun w => by go_simp⟩) ?_
        try simp only [Act.put, List.setIfInBounds_toArray, List.set_cons_zero, List.set_cons_succ]
        refine wpAny_take (i := 3) (oi := ⟨some 41, _, _, _, _, _⟩) (v := .pointer (some ⟨bx, 0, none⟩)) rfl (by kernel_rfl) (by kernel_rfl) (by kernel_rfl) (fun _ _ _ h => h) (Or.inl ⟨by rfl, fun w => by go_simp⟩) ?_
        try simp only [Act.put, List.setIfInBounds_toArray, List.set_cons_zero, List.set_cons_succ]
        refine wpAny_take (i := 5) (oi := ⟨some 43, _, _, _, _, _⟩) (v := .slice (some ⟨pb, po, none⟩) L.length mc) rfl (by kernel_rfl) (by kernel_rfl) (by kernel_rfl) (fun _ _ _ h => h) (Or.inl ⟨by rfl, fun w => by go_simp⟩) ?_
        try simp only [Act.put, List.setIfInBounds_toArray, List.set_cons_zero, List.set_cons_succ]
        refine wpAny_take (i := 6) (oi := ⟨some 44, _, _, _, _, _⟩) (v := .int .i64 (i : Int)) rfl (by kernel_rfl) (by kernel_rfl) (by kernel_rfl) (fun _ _ _ h => h) (Or.inl ⟨by rfl, fun w => by go_simp⟩) ?_
        try simp only [Act.put, List.setIfInBounds_toArray, List.set_cons_zero, List.set_cons_succ]
        refine wpAny_take (i := 7) (oi := ⟨some 45, _, _, _, _, _⟩) (v := .pointer (some ⟨pb, po + i, none⟩)) rfl (by kernel_rfl) (by kernel_rfl) (by kernel_rfl) (fun _ _ _ h => h) (Or.inl ⟨by rfl, fun w => by go_simp⟩) ?_
        try simp only [Act.put, List.setIfInBounds_toArray, List.set_cons_zero, List.set_cons_succ]
        refine wpAny_ready (rs := [4, 8]) (by kernel_rfl) (by simp) ?_
        refine AllReady.cons (o := ⟨some 42, _, _, _, _, _⟩) rfl (fun K hK => ?_) (AllReady.cons (o := ⟨some 46, _, _, _, _, _⟩) rfl (fun K hK => ?_) AllReady.nil)
        · go_simp
          refine hK _ _ ?_
          clear hK K
          try simp only [Act.put, List.setIfInBounds_toArray, List.set_cons_zero, List.set_cons_succ]
          refine wpAny_ready (rs := [8]) (by kernel_rfl) (by simp) ?_
          refine AllReady.cons (o := ⟨some 46, _, _, _, _, _⟩) rfl (fun K hK => ?_) AllReady.nil
          go_simp
          refine hK _ _ ?_
          clear hK K
          try simp only [Act.put, List.setIfInBounds_toArray, List.set_cons_zero, List.set_cons_succ]
          refine wpAny_ready (rs := [9]) (by kernel_rfl) (by simp) ?_
          refine AllReady.cons (o := ⟨some 47, _, _, _, _, _⟩) rfl (fun K hK => ?_) AllReady.nil
          refine step_append_bytes rfl (.tmp 42) (.tmp 46) rfl sv (.slice da x.length dc) x (by rfl) (by rfl) JD.out.own PD.out (by have := HSL.out; have := HX4.out; omega) ?_
          intro a5 c5 w5 hO5 hg5 ho5
          have JP := Lib.hid (JD.out.push hO5 hg5 ho5)
          have hb5 : RefD w5 bx sv a bad := Blk.of_same JD.out.ref (hg5.block bx JD.out.lt (fun e => JD.out.ne e.symm))
          have e5 := Blk.cell hb5 (i := 0) rfl
          have f5 := Blk.free hb5 0
          clear hb5 hO5 hg5 ho5
          refine hK _ _ ?_
          clear hK K
          try simp only [Act.put, List.setIfInBounds_toArray, List.set_cons_zero, List.set_cons_succ]
          refine wpAny_take (i := 10) (oi := ⟨some 48, _, _, _, _, _⟩) (v := .pointer (some ⟨bx, 0, none⟩)) rfl (by kernel_rfl) (by kernel_rfl) (by kernel_rfl) (fun _ _ _ h => h) (Or.inl ⟨by rfl, fun w => by go_simp⟩) ?_
          try simp only [Act.put, List.setIfInBounds_toArray, List.set_cons_zero, List.set_cons_succ]
          refine wpAny_take (i := 11) (oi := ⟨some 49, _, _, _, _, _⟩) (v := .pointer (some ⟨bx, 0, none⟩)) rfl (by kernel_rfl) (by kernel_rfl) (by kernel_rfl) (fun _ _ _ h => h) (Or.inl ⟨by rfl, fun w => by go_simp⟩) ?_
          try simp only [Act.put, List.setIfInBounds_toArray, List.set_cons_zero, List.set_cons_succ]
          refine wpAny_ready (rs := [12]) (by kernel_rfl) (by simp) ?_
          refine AllReady.cons (o := ⟨none, _, _, _, _, _⟩) rfl (fun K hK => ?_) AllReady.nil
          go_simp
          refine hK _ _ ?_
          clear hK K
          try simp only [Act.put, List.setIfInBounds_toArray, List.set_cons_zero, List.set_cons_succ]
          refine wpAny_done (by kernel_rfl) ?_ _
          go_wp2_with fail
          go_meet
          exact ⟨_, rfl, JP.out⟩
        · go_simp
          refine hK _ _ ?_
          clear hK K
          try simp only [Act.put, List.setIfInBounds_toArray, List.set_cons_zero, List.set_cons_succ]
          refine wpAny_ready (rs := [4]) (by kernel_rfl) (by simp) ?_
          refine AllReady.cons (o := ⟨some 42, _, _, _, _, _⟩) rfl (fun K hK => ?_) AllReady.nil
          go_simp
          refine hK _ _ ?_
          clear hK K
          try simp only [Act.put, List.setIfInBounds_toArray, List.set_cons_zero, List.set_cons_succ]
          refine wpAny_ready (rs := [9]) (by kernel_rfl) (by simp) ?_
          refine AllReady.cons (o := ⟨some 47, _, _, _, _, _⟩) rfl (fun K hK => ?_) AllReady.nil
          refine step_append_bytes rfl (.tmp 42) (.tmp 46) rfl sv (.slice da x.length dc) x (by rfl) (by rfl) JD.out.own PD.out (by have := HSL.out; have := HX4.out; omega) ?_
          intro a5 c5 w5 hO5 hg5 ho5
          have JP := Lib.hid (JD.out.push hO5 hg5 ho5)
          have hb5 : RefD w5 bx sv a bad := Blk.of_same JD.out.ref (hg5.block bx JD.out.lt (fun e => JD.out.ne e.symm))
          have e5 := Blk.cell hb5 (i := 0) rfl
          have f5 := Blk.free hb5 0
          clear hb5 hO5 hg5 ho5
          refine hK _ _ ?_
          clear hK K
          try simp only [Act.put, List.setIfInBounds_toArray, List.set_cons_zero, List.set_cons_succ]
          refine wpAny_take (i := 10) (oi := ⟨some 48, _, _, _, _, _⟩) (v := .pointer (some ⟨bx, 0, none⟩)) rfl (by kernel_rfl) (by kernel_rfl) (by kernel_rfl) (fun _ _ _ h => h) (Or.inl ⟨by rfl, fun w => by go_simp⟩) ?_
          try simp only [Act.put, List.setIfInBounds_toArray, List.set_cons_zero, List.set_cons_succ]
          refine wpAny_take (i := 11) (oi := ⟨some 49, _, _, _, _, _⟩) (v := .pointer (some ⟨bx, 0, none⟩)) rfl (by kernel_rfl) (by kernel_rfl) (by kernel_rfl) (fun _ _ _ h => h) (Or.inl ⟨by rfl, fun w => by go_simp⟩) ?_
          try simp only [Act.put, List.setIfInBounds_toArray, List.set_cons_zero, List.set_cons_succ]
          refine wpAny_ready (rs := [12]) (by kernel_rfl) (by simp) ?_
          refine AllReady.cons (o := ⟨none, _, _, _, _, _⟩) rfl (fun K hK => ?_) AllReady.nil
          go_simp
          refine hK _ _ ?_
          clear hK K
          try simp only [Act.put, List.setIfInBounds_toArray, List.set_cons_zero, List.set_cons_succ]
          refine wpAny_done (by kernel_rfl) ?_ _
          go_wp2_with fail
          go_meet
          exact ⟨_, rfl, JP.out⟩
      case rest =>
        obtain ⟨sv2, rfl, hJ7⟩ := hcut
        have J7 := Lib.hid hJ7
        clear hJ7 JD PD e0 c6
        obtain ⟨T, hT⟩ : ∃ T, S ++ x = T := ⟨_, rfl⟩
        have HT : Hid (T.length ≤ 4800 ∧ T.length ≤ 400 * (i + 1) ∧ a ≤ T.length) := Lib.hid (by have h1 := HSL.out; have h2 := HX4.out; rw [← hT, List.length_append]; omega)
        rw [hT] at J7
        clear hT HSL HX4 HPV HPC HPB
        go_wp2_with fail
        go_loopw [10] (fun s10 wr => ∃ (a2 : Nat) (bad2 : Bool), a2 ≤ T.length ∧ DJ w wr bd bx sv2 T a2 bad2 (dst T a2 bad2)) (fun _ wr => T.length - (intOf ((wr.cell? ⟨bx, 1, none⟩).getD undef)).toNat)
        case atStart => exact ⟨a, bad, HT.out.2.2, J7.out⟩
        case round =>
          obtain ⟨a2, bad2, ha2, hJ⟩ := hrel
          clear J7
          have J7 := Lib.hid hJ
          have HA2 := Lib.hid ha2
          have hmore := nx_more T a2 bad2 ha2
          have hle := nx_le T a2 bad2 ha2
          obtain ⟨⟨k, body, ok, er, a3, bad3⟩, hr⟩ : ∃ r, nx T a2 bad2 = r := ⟨_, rfl⟩
          rw [hr] at hmore hle
          have HR := Lib.hid hr
          have HMO := Lib.hid hmore
          have HA3 : Hid (a3 ≤ T.length) := Lib.hid hle
          clear hJ ha2 hr hmore hle
          go_wp2_with fail
          refine (dj_next1' HR.out J7.out HG.out HA2.out (by have := HT.out; omega)).mono ?_
          rintro e w8 ⟨bv, rfl, hbv, hJ8⟩
          obtain ⟨va, vc, rfl, vc1, vc2, _⟩ := hbv.get
          have V8 := Lib.hid hbv
          have J8 := Lib.hid hJ8
          clear hbv hJ8
          go_wp2_with fail
          have hb9 : Below w8.heap.size w8 (w8.alloc (.cells #[.int .i64 k, .slice va body.length vc] 32)) := (Below.refl _ _).alloc (Nat.le_refl _) _
          have C9 : Hid (Blk (w8.alloc (.cells #[.int .i64 k, .slice va body.length vc] 32)) w8.heap.size [.int .i64 k, .slice va body.length vc] 32) := Lib.hid (Blk.new w8 _ _)
          have V9 := Lib.hid (V8.out.grow hb9)
          have J9 := Lib.hid (J8.out.grow hb9)
          have hne6 : Hid (w8.heap.size ≠ bx) := Lib.hid (by have := J8.out.lt; omega)
          clear hb9 V8 J8
          generalize w8.alloc (.cells #[.int .i64 k, .slice va body.length vc] 32) = w9 at *
          obtain ⟨B, hB⟩ : ∃ B, w8.heap.size = B := ⟨_, rfl⟩
          rw [hB] at V9 C9 hne6 ⊢
          clear hB
          refine (dj_next2' HR.out J9.out HA2.out (by have := HT.out; omega)).mono ?_
          rintro e w10 ⟨bv2, rfl, hbv, hst, hJ10⟩
          obtain ⟨xa, xc, rfl, xc1, xc2, _⟩ := hbv.get
          have V10 := Lib.hid hbv
          have J10 := Lib.hid hJ10
          have C10 := Lib.hid (C9.out.of_same (hst.keep B C9.out.lt hne6.out))
          have U10 : Hid (∃ G, BV w10 G (.slice va body.length vc) body) := Lib.hid ⟨_, V9.out.same (fun q hq => hst.keep q (Nat.lt_trans hq.2 C9.out.lt) hq.1)⟩
          clear hbv hst hJ10 C9 V9 J9
          go_upto_region 16 with fail
          have hb11 : Below w10.heap.size w10 (w10.alloc (.cells #[.int .i64 k, .slice xa body.length xc] 32)) := (Below.refl _ _).alloc (Nat.le_refl _) _
          have D11 : Hid (Blk (w10.alloc (.cells #[.int .i64 k, .slice xa body.length xc] 32)) w10.heap.size [.int .i64 k, .slice xa body.length xc] 32) := Lib.hid (Blk.new w10 _ _)
          have C11 := Lib.hid (C10.out.of_same (hb11.block B C10.out.lt))
          have J11 := Lib.hid (J10.out.grow hb11)
          have V11 : Hid (∃ G, BV (w10.alloc (.cells #[.int .i64 k, .slice xa body.length xc] 32)) G (.slice xa body.length xc) body) := Lib.hid ⟨_, V10.out.grow hb11⟩
          have U11 : Hid (∃ G, BV (w10.alloc (.cells #[.int .i64 k, .slice xa body.length xc] 32)) G (.slice va body.length vc) body) := Lib.hid (by obtain ⟨G, h⟩ := U10.out; exact ⟨G, h.grow hb11⟩)
          clear hb11 V10 U10 J10 C10
          generalize w10.alloc (.cells #[.int .i64 k, .slice xa body.length xc] 32) = w11 at *
          generalize w10.heap.size = C at *
          obtain ⟨gC, hgC⟩ : ∃ G, BV w11 G (.slice xa body.length xc) body := V11.out
          obtain ⟨gB, hgB⟩ : ∃ G, BV w11 G (.slice va body.length vc) body := U11.out
          have HGC := Lib.hid hgC
          have HGB := Lib.hid hgB
          clear hgC hgB V11 U11
          obtain ⟨sa, sc, rfl, _⟩ := J11.out.own.form
          have HS : Hid (FdS w11 B C bx k (.slice va body.length vc) (.slice xa body.length xc) (.slice sa T.length sc) a3 w11.drew) := Lib.hid ⟨(Below.refl _ _).drew, C11.out.cell (i := 0) rfl, C11.out.cell (i := 1) rfl, D11.out.cell (i := 0) rfl, D11.out.cell (i := 1) rfl, J11.out.ref.cell (i := 0) rfl, J11.out.ref.cell (i := 1) rfl⟩
          have HLT : Hid (B < w11.heap.size ∧ C < w11.heap.size ∧ bx < w11.heap.size) := Lib.hid ⟨C11.out.lt, D11.out.lt, J11.out.lt⟩
          have b1 : (ok != ok) = false := bne_self_eq_false _
          have b2 : (er != er) = false := bne_self_eq_false _
          have k1 : IntKind.i64.wrap ((T.length : Int) - (a3 : Int)) = ((T.length - a3 : Nat) : Int) := by rw [IntKind.wrap_i64]; have := HT.out; have := HA3.out; omega
          refine wp_region_held_drew (S := (FdS w11 B C bx k (.slice va body.length vc) (.slice xa body.length xc) (.slice sa T.length sc) a3)) (by kernel_rfl) HS.out (fun hS => ?_)
          refine wpAnyH_take (i := 0) (oi := ⟨some 62, _, _, _, _, _⟩) (v := .bool ok) rfl (by kernel_rfl) (by kernel_rfl) (by kernel_rfl) (fun _ _ _ h => h) (Or.inl ⟨by rfl, fun w hSw => by obtain ⟨_, s1, s2, s3, s4, s5, s6⟩ := hSw; go_simp⟩) hS ?_
          try simp only [Act.put, List.setIfInBounds_toArray, List.set_cons_zero, List.set_cons_succ]
          refine wpAnyH_take (i := 1) (oi := ⟨some 63, _, _, _, _, _⟩) (v := .bool ok) rfl (by kernel_rfl) (by kernel_rfl) (by kernel_rfl) (fun _ _ _ h => h) (Or.inl ⟨by rfl, fun w hSw => by obtain ⟨_, s1, s2, s3, s4, s5, s6⟩ := hSw; go_simp⟩) hS ?_
          try simp only [Act.put, List.setIfInBounds_toArray, List.set_cons_zero, List.set_cons_succ]
          refine wpAnyH_take (i := 2) (oi := ⟨some 64, _, _, _, _, _⟩) (v := .bool false) rfl (by kernel_rfl) (by kernel_rfl) (by kernel_rfl) (fun _ _ _ h => h) (Or.inl ⟨by rfl, fun w hSw => by obtain ⟨_, s1, s2, s3, s4, s5, s6⟩ := hSw; go_simp⟩) hS ?_
          try simp only [Act.put, List.setIfInBounds_toArray, List.set_cons_zero, List.set_cons_succ]
          refine wpAnyH_take (i := 3) (oi := ⟨some 65, _, _, _, _, _⟩) (v := .bool false) rfl (by kernel_rfl) (by kernel_rfl) (by kernel_rfl) (fun _ _ _ h => h) (Or.inl ⟨by rfl, fun w hSw => by obtain ⟨_, s1, s2, s3, s4, s5, s6⟩ := hSw; go_simp⟩) hS ?_
          try simp only [Act.put, List.setIfInBounds_toArray, List.set_cons_zero, List.set_cons_succ]
          refine wpAnyH_take (i := 4) (oi := ⟨some 66, _, _, _, _, _⟩) (v := .int .i64 er) rfl (by kernel_rfl) (by kernel_rfl) (by kernel_rfl) (fun _ _ _ h => h) (Or.inl ⟨by rfl, fun w hSw => by obtain ⟨_, s1, s2, s3, s4, s5, s6⟩ := hSw; go_simp⟩) hS ?_
          try simp only [Act.put, List.setIfInBounds_toArray, List.set_cons_zero, List.set_cons_succ]
          refine wpAnyH_take (i := 5) (oi := ⟨some 67, _, _, _, _, _⟩) (v := .int .i64 er) rfl (by kernel_rfl) (by kernel_rfl) (by kernel_rfl) (fun _ _ _ h => h) (Or.inl ⟨by rfl, fun w hSw => by obtain ⟨_, s1, s2, s3, s4, s5, s6⟩ := hSw; go_simp⟩) hS ?_
          try simp only [Act.put, List.setIfInBounds_toArray, List.set_cons_zero, List.set_cons_succ]
          refine wpAnyH_take (i := 6) (oi := ⟨some 68, _, _, _, _, _⟩) (v := .bool false) rfl (by kernel_rfl) (by kernel_rfl) (by kernel_rfl) (fun _ _ _ h => h) (Or.inl ⟨by rfl, fun w hSw => by obtain ⟨_, s1, s2, s3, s4, s5, s6⟩ := hSw; go_simp⟩) hS ?_
          try simp only [Act.put, List.setIfInBounds_toArray, List.set_cons_zero, List.set_cons_succ]
          refine wpAnyH_take (i := 7) (oi := ⟨some 69, _, _, _, _, _⟩) (v := .bool false) rfl (by kernel_rfl) (by kernel_rfl) (by kernel_rfl) (fun _ _ _ h => h) (Or.inl ⟨by rfl, fun w hSw => by obtain ⟨_, s1, s2, s3, s4, s5, s6⟩ := hSw; go_simp⟩) hS ?_
          try simp only [Act.put, List.setIfInBounds_toArray, List.set_cons_zero, List.set_cons_succ]
          refine wpAnyH_take (i := 8) (oi := ⟨some 70, _, _, _, _, _⟩) (v := .bool false) rfl (by kernel_rfl) (by kernel_rfl) (by kernel_rfl) (fun _ _ _ h => h) (Or.inl ⟨by rfl, fun w hSw => by obtain ⟨_, s1, s2, s3, s4, s5, s6⟩ := hSw; go_simp⟩) hS ?_
          try simp only [Act.put, List.setIfInBounds_toArray, List.set_cons_zero, List.set_cons_succ]
          refine wpAnyH_take (i := 9) (oi := ⟨some 71, _, _, _, _, _⟩) (v := .agg #[.int .i64 k, .slice va body.length vc]) rfl (by kernel_rfl) (by kernel_rfl) (by kernel_rfl) (fun _ _ _ h => h) (Or.inl ⟨by rfl, fun w hSw => by obtain ⟨_, s1, s2, s3, s4, s5, s6⟩ := hSw; go_simp⟩) hS ?_
          try simp only [Act.put, List.setIfInBounds_toArray, List.set_cons_zero, List.set_cons_succ]
          refine wpAnyH_take (i := 10) (oi := ⟨some 72, _, _, _, _, _⟩) (v := .agg #[.int .i64 k, .slice xa body.length xc]) rfl (by kernel_rfl) (by kernel_rfl) (by kernel_rfl) (fun _ _ _ h => h) (Or.inl ⟨by rfl, fun w hSw => by obtain ⟨_, s1, s2, s3, s4, s5, s6⟩ := hSw; go_simp⟩) hS ?_
          try simp only [Act.put, List.setIfInBounds_toArray, List.set_cons_zero, List.set_cons_succ]
          refine wpAnyH_ready (rs := [11]) (by kernel_rfl) (by simp) ?_
          refine AllReadyH.cons (o := ⟨some 73, _, _, _, _, _⟩) rfl (fun K hK => ?_) AllReadyH.nil
          go_simp
          refine (msame_is (show BV w11.drew _ _ _ from HGB.out) (show BV w11.drew _ _ _ from HGC.out)).mono ?_
          rintro e w13 ⟨rfl, hb13⟩
          have hS1 := FdS.next HLT.out hS hb13
          refine hK.out _ _ hS1 (fun _ => ?_)
          clear hK K
          try simp only [Act.put, List.setIfInBounds_toArray, List.set_cons_zero, List.set_cons_succ]
          refine wpAnyH_take (i := 12) (oi := ⟨some 74, _, _, _, _, _⟩) (v := .bool false) rfl (by kernel_rfl) (by kernel_rfl) (by kernel_rfl) (fun _ _ _ h => h) (Or.inl ⟨by rfl, fun w hSw => by obtain ⟨_, s1, s2, s3, s4, s5, s6⟩ := hSw; go_simp⟩) hS1 ?_
          try simp only [Act.put, List.setIfInBounds_toArray, List.set_cons_zero, List.set_cons_succ]
          refine wpAnyH_take (i := 13) (oi := ⟨some 75, _, _, _, _, _⟩) (v := .bool false) rfl (by kernel_rfl) (by kernel_rfl) (by kernel_rfl) (fun _ _ _ h => h) (Or.inl ⟨by rfl, fun w hSw => by obtain ⟨_, s1, s2, s3, s4, s5, s6⟩ := hSw; go_simp⟩) hS1 ?_
          try simp only [Act.put, List.setIfInBounds_toArray, List.set_cons_zero, List.set_cons_succ]
          refine wpAnyH_take (i := 14) (oi := ⟨some 76, _, _, _, _, _⟩) (v := .bool false) rfl (by kernel_rfl) (by kernel_rfl) (by kernel_rfl) (fun _ _ _ h => h) (Or.inl ⟨by rfl, fun w hSw => by obtain ⟨_, s1, s2, s3, s4, s5, s6⟩ := hSw; go_simp⟩) hS1 ?_
          try simp only [Act.put, List.setIfInBounds_toArray, List.set_cons_zero, List.set_cons_succ]
          refine wpAnyH_take (i := 15) (oi := ⟨some 77, _, _, _, _, _⟩) (v := .pointer (some ⟨bd, 0, none⟩)) rfl (by kernel_rfl) (by kernel_rfl) (by kernel_rfl) (fun _ _ _ h => h) (Or.inl ⟨by rfl, fun w hSw => by obtain ⟨_, s1, s2, s3, s4, s5, s6⟩ := hSw; go_simp⟩) hS1 ?_
          try simp only [Act.put, List.setIfInBounds_toArray, List.set_cons_zero, List.set_cons_succ]
          refine wpAnyH_take (i := 17) (oi := ⟨some 79, _, _, _, _, _⟩) (v := .pointer (some ⟨bx, 0, none⟩)) rfl (by kernel_rfl) (by kernel_rfl) (by kernel_rfl) (fun _ _ _ h => h) (Or.inl ⟨by rfl, fun w hSw => by obtain ⟨_, s1, s2, s3, s4, s5, s6⟩ := hSw; go_simp⟩) hS1 ?_
          try simp only [Act.put, List.setIfInBounds_toArray, List.set_cons_zero, List.set_cons_succ]
          refine wpAnyH_take (i := 18) (oi := ⟨some 80, _, _, _, _, _⟩) (v := .pointer (some ⟨bx, 0, none⟩)) rfl (by kernel_rfl) (by kernel_rfl) (by kernel_rfl) (fun _ _ _ h => h) (Or.inl ⟨by rfl, fun w hSw => by obtain ⟨_, s1, s2, s3, s4, s5, s6⟩ := hSw; go_simp⟩) hS1 ?_
          try simp only [Act.put, List.setIfInBounds_toArray, List.set_cons_zero, List.set_cons_succ]
          refine wpAnyH_take (i := 19) (oi := ⟨some 81, _, _, _, _, _⟩) (v := .pointer (some ⟨bx, 0, none⟩)) rfl (by kernel_rfl) (by kernel_rfl) (by kernel_rfl) (fun _ _ _ h => h) (Or.inl ⟨by rfl, fun w hSw => by obtain ⟨_, s1, s2, s3, s4, s5, s6⟩ := hSw; go_simp⟩) hS1 ?_
          try simp only [Act.put, List.setIfInBounds_toArray, List.set_cons_zero, List.set_cons_succ]
          refine wpAnyH_take (i := 20) (oi := ⟨some 82, _, _, _, _, _⟩) (v := .slice sa T.length sc) rfl (by kernel_rfl) (by kernel_rfl) (by kernel_rfl) (fun _ _ _ h => h) (Or.inl ⟨by rfl, fun w hSw => by obtain ⟨_, s1, s2, s3, s4, s5, s6⟩ := hSw; go_simp⟩) hS1 ?_
          try simp only [Act.put, List.setIfInBounds_toArray, List.set_cons_zero, List.set_cons_succ]
          refine wpAnyH_take (i := 21) (oi := ⟨some 83, _, _, _, _, _⟩) (v := .int .i64 (T.length : Int)) rfl (by kernel_rfl) (by kernel_rfl) (by kernel_rfl) (fun _ _ _ h => h) (Or.inl ⟨by rfl, fun w hSw => by obtain ⟨_, s1, s2, s3, s4, s5, s6⟩ := hSw; go_simp⟩) hS1 ?_
          try simp only [Act.put, List.setIfInBounds_toArray, List.set_cons_zero, List.set_cons_succ]
          refine wpAnyH_take (i := 22) (oi := ⟨some 84, _, _, _, _, _⟩) (v := .pointer (some ⟨bx, 0, none⟩)) rfl (by kernel_rfl) (by kernel_rfl) (by kernel_rfl) (fun _ _ _ h => h) (Or.inl ⟨by rfl, fun w hSw => by obtain ⟨_, s1, s2, s3, s4, s5, s6⟩ := hSw; go_simp⟩) hS1 ?_
          try simp only [Act.put, List.setIfInBounds_toArray, List.set_cons_zero, List.set_cons_succ]
          refine wpAnyH_take (i := 23) (oi := ⟨some 85, _, _, _, _, _⟩) (v := .pointer (some ⟨bx, 0, none⟩)) rfl (by kernel_rfl) (by kernel_rfl) (by kernel_rfl) (fun _ _ _ h => h) (Or.inl ⟨by rfl, fun w hSw => by obtain ⟨_, s1, s2, s3, s4, s5, s6⟩ := hSw; go_simp⟩) hS1 ?_
          try simp only [Act.put, List.setIfInBounds_toArray, List.set_cons_zero, List.set_cons_succ]
          refine wpAnyH_take (i := 24) (oi := ⟨some 86, _, _, _, _, _⟩) (v := .pointer (some ⟨bx, 1, none⟩)) rfl (by kernel_rfl) (by kernel_rfl) (by kernel_rfl) (fun _ _ _ h => h) (Or.inl ⟨by rfl, fun w hSw => by obtain ⟨_, s1, s2, s3, s4, s5, s6⟩ := hSw; go_simp⟩) hS1 ?_
          try simp only [Act.put, List.setIfInBounds_toArray, List.set_cons_zero, List.set_cons_succ]
          refine wpAnyH_take (i := 25) (oi := ⟨some 87, _, _, _, _, _⟩) (v := .int .i64 (a3 : Int)) rfl (by kernel_rfl) (by kernel_rfl) (by kernel_rfl) (fun _ _ _ h => h) (Or.inl ⟨by rfl, fun w hSw => by obtain ⟨_, s1, s2, s3, s4, s5, s6⟩ := hSw; go_simp⟩) hS1 ?_
          try simp only [Act.put, List.setIfInBounds_toArray, List.set_cons_zero, List.set_cons_succ]
          refine wpAnyH_take (i := 26) (oi := ⟨some 88, _, _, _, _, _⟩) (v := .int .i64 ((T.length - a3 : Nat) : Int)) rfl (by kernel_rfl) (by kernel_rfl) (by kernel_rfl) (fun _ _ _ h => h) (Or.inl ⟨by rfl, fun w hSw => by obtain ⟨_, s1, s2, s3, s4, s5, s6⟩ := hSw; go_simp⟩) hS1 ?_
          try simp only [Act.put, List.setIfInBounds_toArray, List.set_cons_zero, List.set_cons_succ]
          refine wpAnyH_ready (rs := [16]) (by kernel_rfl) (by simp) ?_
          refine AllReadyH.cons (o := ⟨some 78, _, _, _, _, _⟩) rfl (fun K hK => ?_) AllReadyH.nil
          go_simp
          obtain ⟨FD, hFD⟩ := (J11.out.grow hS1.1).dec
          refine (pend_any hFD (by rw [dst_pend]; have := HT.out; omega)).mono ?_
          rintro e w14 ⟨rfl, nq, rfl⟩
          rw [dst_pend]
          have hS2 := FdS.next HLT.out hS1 (below_drewN2 (Below.refl _ _) nq)
          refine hK.out _ _ hS2 (fun _ => ?_)
          clear hK K
          try simp only [Act.put, List.setIfInBounds_toArray, List.set_cons_zero, List.set_cons_succ]
          refine wpAnyH_take (i := 27) (oi := ⟨some 89, _, _, _, _, _⟩) (v := .bool false) rfl (by kernel_rfl) (by kernel_rfl) (by kernel_rfl) (fun _ _ _ h => h) (Or.inl ⟨by rfl, fun w hSw => by obtain ⟨_, s1, s2, s3, s4, s5, s6⟩ := hSw; go_simp⟩) hS2 ?_
          try simp only [Act.put, List.setIfInBounds_toArray, List.set_cons_zero, List.set_cons_succ]
          refine wpAnyH_take (i := 28) (oi := ⟨some 90, _, _, _, _, _⟩) (v := .bool false) rfl (by kernel_rfl) (by kernel_rfl) (by kernel_rfl) (fun _ _ _ h => h) (Or.inl ⟨by rfl, fun w hSw => by obtain ⟨_, s1, s2, s3, s4, s5, s6⟩ := hSw; go_simp⟩) hS2 ?_
          try simp only [Act.put, List.setIfInBounds_toArray, List.set_cons_zero, List.set_cons_succ]
          refine wpAnyH_done (by kernel_rfl) ?_ _
          have J14 := Lib.hid (J11.out.grow hS2.1)
          have q7 := J7.out.ref.cell (i := 1) rfl
          have q14 := J14.out.ref.cell (i := 1) rfl
          clear hFD hS hS1 hS2 HS J11 hb13
          generalize w13.drewN nq = w14 at *
          cases ok with
          | false =>
            go_wp2_with fail
            go_roundw
            case rel => exact ⟨i + 1, T, _, a3, bad3, by omega, by go_num, HT.out.2.1, HA3.out, J14.out⟩
            case measure => simp [intOf]; omega
          | true =>
            go_wp2_with fail
            go_roundw
            case rel => exact ⟨a3, bad3, HA3.out, J14.out⟩
            case measure =>
              rw [q7, q14]
              have h1 : a2 < a3 := HMO.out rfl
              have h2 := HA3.out
              simp [intOf]; omega
    · have ige : ¬ (i : Int) < (L.length : Int) := by omega
      clear hLX
      go_wp2_with fail
      go_ret
      exact ⟨rfl, J.out.1⟩
end Go.Proofs.YtggiinfeiilogaaDoor
