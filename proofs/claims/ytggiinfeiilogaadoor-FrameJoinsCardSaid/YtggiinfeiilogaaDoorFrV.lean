/- Contract of the reference's Join. -/
import Derived.Test.YtggiinfeiilogaaDoorFrJ
import Derived.Test.YtggiinfeiilogaaDoorFrO
import Derived.Deep.RegionHeld3
import Derived.BigGuardPart
namespace Go.Proofs.YtggiinfeiilogaaDoor
open Go.RowKit
set_option linter.unusedSimpArgs false
section
variable {w w' : World} {F G : Nat → Prop} {v : Value} {L : List Fr.Msg} {B : Nat}
abbrev JnS (w1 : World) (p b o : Nat) (k k0 : Int) (xv : Value) (w' : World) : Prop :=
  Below w1.heap.size w1 w' ∧ w'.cell? ⟨p, 0, none⟩ = some (.int .i64 k) ∧ w'.cell? ⟨p, 1, none⟩ = some xv ∧ w'.cell? ⟨b, o, none⟩ = some (.int .i64 k0)
theorem JnS.start {w1 : World} {p b o : Nat} {k k0 : Int} {xv : Value} (h1 : Blk w1 p [.int .i64 k, xv] 32) (h2 : w1.cell? ⟨b, o, none⟩ = some (.int .i64 k0)) : JnS w1 p b o k k0 xv w1 := ⟨Below.refl _ _, h1.cell rfl, h1.cell rfl, h2⟩
theorem JnS.next {w1 w2 : World} {p b o : Nat} {k k0 : Int} {xv : Value} (h : JnS w1 p b o k k0 xv w') (h2 : Below w'.heap.size w' w2) : JnS w1 p b o k k0 xv w2 :=
  ⟨h.1.trans (h2.mono h.1.size), (h2.cell (p := ⟨p, 0, none⟩) (block_lt_of_cell h.2.1)).trans h.2.1, (h2.cell (p := ⟨p, 1, none⟩) (block_lt_of_cell h.2.2.1)).trans h.2.2.1, (h2.cell (p := ⟨b, o, none⟩) (block_lt_of_cell h.2.2.2)).trans h.2.2.2⟩
theorem JnS.check {w1 : World} {p b o : Nat} {k k0 : Int} {xv : Value} {l : List UInt8} {er : Int} (hx : BV w1 F xv l) (he : encErr k l = er) (h : JnS w1 p b o k k0 xv w') : Calls Tryd.prog 27 #[.agg #[.int .i64 k, xv]] w' fun e w'' => e = .returned (.int .i64 er) ∧ Below w'.heap.size w' w'' := by
  subst he; exact refcheck_any k (hx.grow h.1)
set_option maxRecDepth 100000 in
set_option maxHeartbeats 4000000 in
theorem refjoin_any (h : MsV w F v L) (hF : ∀ k, F k → k < w.heap.size) : Calls Tryd.prog 42 #[v] w (JoinPost w L) := by
  obtain ⟨a, c, rfl, h1, h2, _⟩ := h.get
  unfold maxLen at h2
  have H := Lib.hid h
  have HF := Lib.hid hF
  clear h hF
  by_cases hl0 : L.length = 0
  · have il : ((L.length : Int) == 0) = true := by rw [beq_iff_eq]; omega
    have HN : Hid (¬ Fr.jall L) := Lib.hid (fun h => by
      obtain ⟨_, m, hm, _⟩ := h
      rw [List.eq_nil_of_length_eq_zero hl0] at hm
      cases hm)
    clear hl0
    go_enter Tryd.func42, Tryd.ntmps42
    go_wp2_with fail
    go_ret3
    exact JoinPost.bad (Below.refl _ _) HN.out rfl
  have il0 : ((L.length : Int) == 0) = false := by rw [beq_eq_false_iff_ne]; omega
  have il1 : (0 : Int) < (L.length : Int) := by omega
  have hlp : 0 < L.length := by omega
  by_cases hl4 : 4096 < L.length
  · have il : (4096 : Int) < (L.length : Int) := by omega
    have HN : Hid (¬ Fr.jall L) := Lib.hid (fun h => by have := h.1; omega)
    clear hl0 hl4
    go_enter Tryd.func42, Tryd.ntmps42
    go_wp2_with fail
    go_ret3
    exact JoinPost.bad (Below.refl _ _) HN.out rfl
  have il4 : ¬ (4096 : Int) < (L.length : Int) := by omega
  have HL4 : Hid (L.length ≤ 4096) := Lib.hid (by omega)
  obtain ⟨m0, hm0⟩ : ∃ m0, L[0]'hlp = m0 := ⟨_, rfl⟩
  have hhead : L.head? = some m0 := by rw [← hm0, List.head?_eq_getElem?, List.getElem?_eq_getElem hlp]
  have HHEAD := Lib.hid hhead
  obtain ⟨_, _, e0, _, _, hc0⟩ := H.out.get
  obtain ⟨rfl, rfl⟩ : _ ∧ _ := by simpa using e0
  obtain ⟨b, o, x0, rfl, hbF, d0, _, _⟩ := hc0 0 hlp
  rw [hm0, Nat.zero_mul, Nat.add_zero] at d0
  obtain ⟨k0, hk0⟩ : ∃ k0, m0.1 = k0 := ⟨_, rfl⟩
  rw [hk0] at d0
  have HK0 := Lib.hid hk0
  have HD0 := Lib.hid d0
  have HM0 := Lib.hid hm0
  have N00 := Lib.hid (NewB.empty w)
  clear e0 hc0 hm0 hhead hk0 hl0 hl4
  go_enter Tryd.func42, Tryd.ntmps42
  go_wp2_with fail
  go_loopw [5, 6] (fun s5 s wr => ∃ i : Nat, i ≤ L.length ∧ s = .int .i64 (i : Int) ∧ (∀ j, (h : j < L.length) → j < i → Fr.jok k0 L.length j L[j] ∧ 0 ≤ k0 ∧ k0 ≤ 255) ∧ NewB w.heap.size w (Fr.jbody (L.take i)) s5 wr) (fun _ s _ => L.length - (intOf s).toNat)
  case atStart => exact ⟨0, by omega, rfl, fun j _ h => absurd h (by omega), N00.out⟩
  case round =>
    clear N00
    obtain ⟨i, hi, rfl, hall, hN⟩ := hrel
    have hjl := Fr.jbody_le (L.take i) (fun m hm => by
      obtain ⟨j, hj, rfl⟩ := List.getElem_of_mem hm
      rw [List.length_take] at hj
      rw [List.getElem_take]
      exact (hall j (by omega) (by omega)).1.2.2.1)
    have hjb : (Fr.jbody (L.take i)).length ≤ 300000000 := by
      have h1 : (L.take i).length ≤ L.length := by rw [List.length_take]; omega
      have := HL4.out
      omega
    obtain ⟨sa, sc, rfl, _, _, _, _⟩ := hN.2.1.form
    have HALL := Lib.hid hall
    have HNB := Lib.hid hN
    have HBW := Lib.hid hN.1
    have HJBL := Lib.hid hjb
    clear hall hN hjl hjb
    by_cases hlt : i < L.length
    · have it : (i : Int) < (L.length : Int) := by omega
      have hjs := Fr.jbody_succ L i hlt
      obtain ⟨_, _, e1, _, _, hc⟩ := (H.out.same (w' := wr) (fun k hk => HBW.out.block k (HF.out k hk))).get
      obtain ⟨rfl, rfl⟩ : _ ∧ _ := by simpa using e1
      obtain ⟨b', o', x, e2, _, c0, c1, hbv⟩ := hc i hlt
      simp only [Option.some.injEq, Addr.mk.injEq, and_true] at e2
      obtain ⟨rfl, rfl⟩ := e2
      obtain ⟨xa, xc, rfl, hx1, hx2, hxc⟩ := hbv.get
      unfold maxLen at hx2
      obtain ⟨m, hm⟩ : ∃ m, L[i] = m := ⟨_, rfl⟩
      rw [hm] at c0 c1 hbv hx1 hxc hjs
      obtain ⟨k, hk⟩ : ∃ k, m.1 = k := ⟨_, rfl⟩
      obtain ⟨q, hq⟩ : ∃ q, m.2.length = q := ⟨_, rfl⟩
      rw [hk] at c0
      rw [hq] at c1 hx1 hbv
      have dr : wr.cell? ⟨b, o, none⟩ = some (.int .i64 k0) := (HBW.out.cell (p := ⟨b, o, none⟩) (HF.out b hbF)).trans HD0.out
      have HJ : Hid (Fr.jall L → Fr.jok k0 L.length i m ∧ 0 ≤ k0 ∧ k0 ≤ 255) := Lib.hid (fun h => by
        obtain ⟨_, m', hm', q1, q2, q3⟩ := h
        rw [HHEAD.out] at hm'
        obtain rfl := Option.some.inj hm'
        have := q3 i hlt
        rw [hm, HK0.out] at this
        rw [HK0.out] at q1 q2
        exact ⟨this, q1, q2⟩)
      have HM := Lib.hid hm
      have HK := Lib.hid hk
      have HQ := Lib.hid hq
      have HJS := Lib.hid hjs
      have hb1 : Below wr.heap.size wr (wr.alloc (.cells #[.int .i64 k, .slice xa q xc] 32)) := (Below.refl _ _).alloc (Nat.le_refl _) _
      have HP1 : Hid (Blk (wr.alloc (.cells #[.int .i64 k, .slice xa q xc] 32)) wr.heap.size [.int .i64 k, .slice xa q xc] 32) := Lib.hid (Blk.new _ _ _)
      have HN1 := Lib.hid (HNB.out.later hb1)
      have X1 := Lib.hid (hbv.grow hb1)
      have dr1 := (hb1.cell (p := ⟨b, o, none⟩) (block_lt_of_cell dr)).trans dr
      have HDR1 := Lib.hid dr1
      clear hc hbv e1 hk hq dr hb1 hm hjs dr1
      go_wp2_with fail
      generalize wr.alloc (.cells #[.int .i64 k, .slice xa q xc] 32) = w1 at *
      have S1 := JnS.start HP1.out HDR1.out
      have her : encErr k m.2 = 1 ∨ encErr k m.2 = 2 ∨ encErr k m.2 = 0 := by
        unfold encErr
        split
        · split
          · exact .inr (.inr rfl)
          · exact .inr (.inl rfl)
        · exact .inl rfl
      have HNE : Hid (encErr k m.2 ≠ 0 → ¬ Fr.jall L) := Lib.hid (fun h0 h => h0 (by
        obtain ⟨h1, h2, h3⟩ := HJ.out h
        unfold encErr
        rw [if_pos (by rw [← HK.out, h1.1]; exact ⟨h2, h3⟩), if_pos h1.2.2.1]))
      rcases her with her | her | her
      · have HER := Lib.hid her
        have HN := Lib.hid (HNE.out (by rw [her]; decide))
        clear her hxc
        refine wp_region_held_drew (S := (fun w' => Below w1.heap.size w1 w' ∧ w'.cell? ⟨wr.heap.size, 0, none⟩ = some (.int .i64 k) ∧ w'.cell? ⟨wr.heap.size, 1, none⟩ = some (.slice xa q xc) ∧ w'.cell? ⟨b, o, none⟩ = some (.int .i64 k0))) (by kernel_rfl) (S1.next (Below.refl _ _).drew) (fun hS => ?_)
        refine wpAnyH_take (i := 0) (oi := ⟨some 28, _, _, _, _, _⟩) (v := .agg #[.int .i64 k, .slice xa q xc]) rfl (by kernel_rfl) (by kernel_rfl) (by kernel_rfl) (fun _ _ _ h => h) (Or.inl ⟨by rfl, fun w hSw => by obtain ⟨_, s1, s2, s3⟩ := hSw; go_simp⟩) hS ?_
        try simp only [Act.put, List.setIfInBounds_toArray, List.set_cons_zero, List.set_cons_succ]
        refine wpAnyH_ready (rs := [1]) (by kernel_rfl) (by simp) ?_
        refine AllReadyH.cons (o := ⟨some 29, _, _, _, _, _⟩) rfl (fun K hK => ?_) AllReadyH.nil
        go_simp
        refine (JnS.check X1.out HER.out hS).mono ?_
        rintro e w' ⟨rfl, hbq⟩
        have hS5 := JnS.next hS hbq
        refine hK.out _ _ hS5 (fun _ => ?_)
        clear hK K
        try simp only [Act.put, List.setIfInBounds_toArray, List.set_cons_zero, List.set_cons_succ]
        refine wpAnyH_take (i := 2) (oi := ⟨some 30, _, _, _, _, _⟩) (v := .bool true) rfl (by kernel_rfl) (by kernel_rfl) (by kernel_rfl) (fun _ _ _ h => h) (Or.inl ⟨by rfl, fun w hSw => by obtain ⟨_, s1, s2, s3⟩ := hSw; go_simp⟩) hS5 ?_
        try simp only [Act.put, List.setIfInBounds_toArray, List.set_cons_zero, List.set_cons_succ]
        refine wpAnyH_take (i := 3) (oi := ⟨some 31, _, _, _, _, _⟩) (v := .bool true) rfl (by kernel_rfl) (by kernel_rfl) (by kernel_rfl) (fun _ _ _ h => h) (Or.inl ⟨by rfl, fun w hSw => by obtain ⟨_, s1, s2, s3⟩ := hSw; go_simp⟩) hS5 ?_
        try simp only [Act.put, List.setIfInBounds_toArray, List.set_cons_zero, List.set_cons_succ]
        refine wpAnyH_take (i := 4) (oi := ⟨some 32, _, _, _, _, _⟩) (v := undef) rfl (by kernel_rfl) (by kernel_rfl) (by kernel_rfl) (fun _ _ _ h => h) (Or.inr ⟨by rfl, rfl⟩) hS5 ?_
        try simp only [Act.put, List.setIfInBounds_toArray, List.set_cons_zero, List.set_cons_succ]
        refine wpAnyH_take (i := 5) (oi := ⟨some 33, _, _, _, _, _⟩) (v := undef) rfl (by kernel_rfl) (by kernel_rfl) (by kernel_rfl) (fun _ _ _ h => h) (Or.inr ⟨by rfl, rfl⟩) hS5 ?_
        try simp only [Act.put, List.setIfInBounds_toArray, List.set_cons_zero, List.set_cons_succ]
        refine wpAnyH_take (i := 6) (oi := ⟨some 34, _, _, _, _, _⟩) (v := undef) rfl (by kernel_rfl) (by kernel_rfl) (by kernel_rfl) (fun _ _ _ h => h) (Or.inr ⟨by rfl, rfl⟩) hS5 ?_
        try simp only [Act.put, List.setIfInBounds_toArray, List.set_cons_zero, List.set_cons_succ]
        refine wpAnyH_take (i := 7) (oi := ⟨some 35, _, _, _, _, _⟩) (v := undef) rfl (by kernel_rfl) (by kernel_rfl) (by kernel_rfl) (fun _ _ _ h => h) (Or.inr ⟨by rfl, rfl⟩) hS5 ?_
        try simp only [Act.put, List.setIfInBounds_toArray, List.set_cons_zero, List.set_cons_succ]
        refine wpAnyH_take (i := 8) (oi := ⟨some 36, _, _, _, _, _⟩) (v := undef) rfl (by kernel_rfl) (by kernel_rfl) (by kernel_rfl) (fun _ _ _ h => h) (Or.inr ⟨by rfl, rfl⟩) hS5 ?_
        try simp only [Act.put, List.setIfInBounds_toArray, List.set_cons_zero, List.set_cons_succ]
        refine wpAnyH_take (i := 9) (oi := ⟨some 37, _, _, _, _, _⟩) (v := undef) rfl (by kernel_rfl) (by kernel_rfl) (by kernel_rfl) (fun _ _ _ h => h) (Or.inr ⟨by rfl, rfl⟩) hS5 ?_
        try simp only [Act.put, List.setIfInBounds_toArray, List.set_cons_zero, List.set_cons_succ]
        refine wpAnyH_take (i := 10) (oi := ⟨some 38, _, _, _, _, _⟩) (v := undef) rfl (by kernel_rfl) (by kernel_rfl) (by kernel_rfl) (fun _ _ _ h => h) (Or.inr ⟨by rfl, rfl⟩) hS5 ?_
        try simp only [Act.put, List.setIfInBounds_toArray, List.set_cons_zero, List.set_cons_succ]
        refine wpAnyH_take (i := 11) (oi := ⟨some 39, _, _, _, _, _⟩) (v := .bool true) rfl (by kernel_rfl) (by kernel_rfl) (by kernel_rfl) (fun _ _ _ h => h) (Or.inl ⟨by rfl, fun w hSw => by obtain ⟨_, s1, s2, s3⟩ := hSw; go_simp⟩) hS5 ?_
        try simp only [Act.put, List.setIfInBounds_toArray, List.set_cons_zero, List.set_cons_succ]
        refine wpAnyH_take (i := 12) (oi := ⟨some 40, _, _, _, _, _⟩) (v := .bool true) rfl (by kernel_rfl) (by kernel_rfl) (by kernel_rfl) (fun _ _ _ h => h) (Or.inl ⟨by rfl, fun w hSw => by obtain ⟨_, s1, s2, s3⟩ := hSw; go_simp⟩) hS5 ?_
        try simp only [Act.put, List.setIfInBounds_toArray, List.set_cons_zero, List.set_cons_succ]
        refine wpAnyH_take (i := 13) (oi := ⟨some 41, _, _, _, _, _⟩) (v := undef) rfl (by kernel_rfl) (by kernel_rfl) (by kernel_rfl) (fun _ _ _ h => h) (Or.inr ⟨by rfl, rfl⟩) hS5 ?_
        try simp only [Act.put, List.setIfInBounds_toArray, List.set_cons_zero, List.set_cons_succ]
        refine wpAnyH_take (i := 14) (oi := ⟨some 42, _, _, _, _, _⟩) (v := undef) rfl (by kernel_rfl) (by kernel_rfl) (by kernel_rfl) (fun _ _ _ h => h) (Or.inr ⟨by rfl, rfl⟩) hS5 ?_
        try simp only [Act.put, List.setIfInBounds_toArray, List.set_cons_zero, List.set_cons_succ]
        refine wpAnyH_take (i := 15) (oi := ⟨some 43, _, _, _, _, _⟩) (v := undef) rfl (by kernel_rfl) (by kernel_rfl) (by kernel_rfl) (fun _ _ _ h => h) (Or.inr ⟨by rfl, rfl⟩) hS5 ?_
        try simp only [Act.put, List.setIfInBounds_toArray, List.set_cons_zero, List.set_cons_succ]
        refine wpAnyH_take (i := 16) (oi := ⟨some 44, _, _, _, _, _⟩) (v := undef) rfl (by kernel_rfl) (by kernel_rfl) (by kernel_rfl) (fun _ _ _ h => h) (Or.inr ⟨by rfl, rfl⟩) hS5 ?_
        try simp only [Act.put, List.setIfInBounds_toArray, List.set_cons_zero, List.set_cons_succ]
        refine wpAnyH_take (i := 17) (oi := ⟨some 45, _, _, _, _, _⟩) (v := .bool true) rfl (by kernel_rfl) (by kernel_rfl) (by kernel_rfl) (fun _ _ _ h => h) (Or.inl ⟨by rfl, fun w hSw => by obtain ⟨_, s1, s2, s3⟩ := hSw; go_simp⟩) hS5 ?_
        try simp only [Act.put, List.setIfInBounds_toArray, List.set_cons_zero, List.set_cons_succ]
        refine wpAnyH_done (by kernel_rfl) ?_ _
        have HBZ := Lib.hid (HN1.out.1.trans (hS5.1.mono HN1.out.1.size))
        clear hS5 hS S1
        go_wp2_with fail
        go_ret3
        exact JoinPost.bad HBZ.out HN.out rfl
      · have HER := Lib.hid her
        have HN := Lib.hid (HNE.out (by rw [her]; decide))
        clear her hxc
        refine wp_region_held_drew (S := (fun w' => Below w1.heap.size w1 w' ∧ w'.cell? ⟨wr.heap.size, 0, none⟩ = some (.int .i64 k) ∧ w'.cell? ⟨wr.heap.size, 1, none⟩ = some (.slice xa q xc) ∧ w'.cell? ⟨b, o, none⟩ = some (.int .i64 k0))) (by kernel_rfl) (S1.next (Below.refl _ _).drew) (fun hS => ?_)
        refine wpAnyH_take (i := 0) (oi := ⟨some 28, _, _, _, _, _⟩) (v := .agg #[.int .i64 k, .slice xa q xc]) rfl (by kernel_rfl) (by kernel_rfl) (by kernel_rfl) (fun _ _ _ h => h) (Or.inl ⟨by rfl, fun w hSw => by obtain ⟨_, s1, s2, s3⟩ := hSw; go_simp⟩) hS ?_
        try simp only [Act.put, List.setIfInBounds_toArray, List.set_cons_zero, List.set_cons_succ]
        refine wpAnyH_ready (rs := [1]) (by kernel_rfl) (by simp) ?_
        refine AllReadyH.cons (o := ⟨some 29, _, _, _, _, _⟩) rfl (fun K hK => ?_) AllReadyH.nil
        go_simp
        refine (JnS.check X1.out HER.out hS).mono ?_
        rintro e w' ⟨rfl, hbq⟩
        have hS5 := JnS.next hS hbq
        refine hK.out _ _ hS5 (fun _ => ?_)
        clear hK K
        try simp only [Act.put, List.setIfInBounds_toArray, List.set_cons_zero, List.set_cons_succ]
        refine wpAnyH_take (i := 2) (oi := ⟨some 30, _, _, _, _, _⟩) (v := .bool true) rfl (by kernel_rfl) (by kernel_rfl) (by kernel_rfl) (fun _ _ _ h => h) (Or.inl ⟨by rfl, fun w hSw => by obtain ⟨_, s1, s2, s3⟩ := hSw; go_simp⟩) hS5 ?_
        try simp only [Act.put, List.setIfInBounds_toArray, List.set_cons_zero, List.set_cons_succ]
        refine wpAnyH_take (i := 3) (oi := ⟨some 31, _, _, _, _, _⟩) (v := .bool true) rfl (by kernel_rfl) (by kernel_rfl) (by kernel_rfl) (fun _ _ _ h => h) (Or.inl ⟨by rfl, fun w hSw => by obtain ⟨_, s1, s2, s3⟩ := hSw; go_simp⟩) hS5 ?_
        try simp only [Act.put, List.setIfInBounds_toArray, List.set_cons_zero, List.set_cons_succ]
        refine wpAnyH_take (i := 4) (oi := ⟨some 32, _, _, _, _, _⟩) (v := undef) rfl (by kernel_rfl) (by kernel_rfl) (by kernel_rfl) (fun _ _ _ h => h) (Or.inr ⟨by rfl, rfl⟩) hS5 ?_
        try simp only [Act.put, List.setIfInBounds_toArray, List.set_cons_zero, List.set_cons_succ]
        refine wpAnyH_take (i := 5) (oi := ⟨some 33, _, _, _, _, _⟩) (v := undef) rfl (by kernel_rfl) (by kernel_rfl) (by kernel_rfl) (fun _ _ _ h => h) (Or.inr ⟨by rfl, rfl⟩) hS5 ?_
        try simp only [Act.put, List.setIfInBounds_toArray, List.set_cons_zero, List.set_cons_succ]
        refine wpAnyH_take (i := 6) (oi := ⟨some 34, _, _, _, _, _⟩) (v := undef) rfl (by kernel_rfl) (by kernel_rfl) (by kernel_rfl) (fun _ _ _ h => h) (Or.inr ⟨by rfl, rfl⟩) hS5 ?_
        try simp only [Act.put, List.setIfInBounds_toArray, List.set_cons_zero, List.set_cons_succ]
        refine wpAnyH_take (i := 7) (oi := ⟨some 35, _, _, _, _, _⟩) (v := undef) rfl (by kernel_rfl) (by kernel_rfl) (by kernel_rfl) (fun _ _ _ h => h) (Or.inr ⟨by rfl, rfl⟩) hS5 ?_
        try simp only [Act.put, List.setIfInBounds_toArray, List.set_cons_zero, List.set_cons_succ]
        refine wpAnyH_take (i := 8) (oi := ⟨some 36, _, _, _, _, _⟩) (v := undef) rfl (by kernel_rfl) (by kernel_rfl) (by kernel_rfl) (fun _ _ _ h => h) (Or.inr ⟨by rfl, rfl⟩) hS5 ?_
        try simp only [Act.put, List.setIfInBounds_toArray, List.set_cons_zero, List.set_cons_succ]
        refine wpAnyH_take (i := 9) (oi := ⟨some 37, _, _, _, _, _⟩) (v := undef) rfl (by kernel_rfl) (by kernel_rfl) (by kernel_rfl) (fun _ _ _ h => h) (Or.inr ⟨by rfl, rfl⟩) hS5 ?_
        try simp only [Act.put, List.setIfInBounds_toArray, List.set_cons_zero, List.set_cons_succ]
        refine wpAnyH_take (i := 10) (oi := ⟨some 38, _, _, _, _, _⟩) (v := undef) rfl (by kernel_rfl) (by kernel_rfl) (by kernel_rfl) (fun _ _ _ h => h) (Or.inr ⟨by rfl, rfl⟩) hS5 ?_
        try simp only [Act.put, List.setIfInBounds_toArray, List.set_cons_zero, List.set_cons_succ]
        refine wpAnyH_take (i := 11) (oi := ⟨some 39, _, _, _, _, _⟩) (v := .bool true) rfl (by kernel_rfl) (by kernel_rfl) (by kernel_rfl) (fun _ _ _ h => h) (Or.inl ⟨by rfl, fun w hSw => by obtain ⟨_, s1, s2, s3⟩ := hSw; go_simp⟩) hS5 ?_
        try simp only [Act.put, List.setIfInBounds_toArray, List.set_cons_zero, List.set_cons_succ]
        refine wpAnyH_take (i := 12) (oi := ⟨some 40, _, _, _, _, _⟩) (v := .bool true) rfl (by kernel_rfl) (by kernel_rfl) (by kernel_rfl) (fun _ _ _ h => h) (Or.inl ⟨by rfl, fun w hSw => by obtain ⟨_, s1, s2, s3⟩ := hSw; go_simp⟩) hS5 ?_
        try simp only [Act.put, List.setIfInBounds_toArray, List.set_cons_zero, List.set_cons_succ]
        refine wpAnyH_take (i := 13) (oi := ⟨some 41, _, _, _, _, _⟩) (v := undef) rfl (by kernel_rfl) (by kernel_rfl) (by kernel_rfl) (fun _ _ _ h => h) (Or.inr ⟨by rfl, rfl⟩) hS5 ?_
        try simp only [Act.put, List.setIfInBounds_toArray, List.set_cons_zero, List.set_cons_succ]
        refine wpAnyH_take (i := 14) (oi := ⟨some 42, _, _, _, _, _⟩) (v := undef) rfl (by kernel_rfl) (by kernel_rfl) (by kernel_rfl) (fun _ _ _ h => h) (Or.inr ⟨by rfl, rfl⟩) hS5 ?_
        try simp only [Act.put, List.setIfInBounds_toArray, List.set_cons_zero, List.set_cons_succ]
        refine wpAnyH_take (i := 15) (oi := ⟨some 43, _, _, _, _, _⟩) (v := undef) rfl (by kernel_rfl) (by kernel_rfl) (by kernel_rfl) (fun _ _ _ h => h) (Or.inr ⟨by rfl, rfl⟩) hS5 ?_
        try simp only [Act.put, List.setIfInBounds_toArray, List.set_cons_zero, List.set_cons_succ]
        refine wpAnyH_take (i := 16) (oi := ⟨some 44, _, _, _, _, _⟩) (v := undef) rfl (by kernel_rfl) (by kernel_rfl) (by kernel_rfl) (fun _ _ _ h => h) (Or.inr ⟨by rfl, rfl⟩) hS5 ?_
        try simp only [Act.put, List.setIfInBounds_toArray, List.set_cons_zero, List.set_cons_succ]
        refine wpAnyH_take (i := 17) (oi := ⟨some 45, _, _, _, _, _⟩) (v := .bool true) rfl (by kernel_rfl) (by kernel_rfl) (by kernel_rfl) (fun _ _ _ h => h) (Or.inl ⟨by rfl, fun w hSw => by obtain ⟨_, s1, s2, s3⟩ := hSw; go_simp⟩) hS5 ?_
        try simp only [Act.put, List.setIfInBounds_toArray, List.set_cons_zero, List.set_cons_succ]
        refine wpAnyH_done (by kernel_rfl) ?_ _
        have HBZ := Lib.hid (HN1.out.1.trans (hS5.1.mono HN1.out.1.size))
        clear hS5 hS S1
        go_wp2_with fail
        go_ret3
        exact JoinPost.bad HBZ.out HN.out rfl
      have HER := Lib.hid her
      clear her
      by_cases hkk : k = k0
      rotate_left
      · have HN : Hid (¬ Fr.jall L) := Lib.hid (fun h => hkk (by rw [← HK.out]; exact (HJ.out h).1.1))
        have ik : (k == k0) = false := by rw [beq_eq_false_iff_ne]; exact hkk
        have ik2 : (k != k0) = true := by rw [bne, ik]; rfl
        clear hxc hkk
        refine wp_region_held_drew (S := (fun w' => Below w1.heap.size w1 w' ∧ w'.cell? ⟨wr.heap.size, 0, none⟩ = some (.int .i64 k) ∧ w'.cell? ⟨wr.heap.size, 1, none⟩ = some (.slice xa q xc) ∧ w'.cell? ⟨b, o, none⟩ = some (.int .i64 k0))) (by kernel_rfl) (S1.next (Below.refl _ _).drew) (fun hS => ?_)
        refine wpAnyH_take (i := 0) (oi := ⟨some 28, _, _, _, _, _⟩) (v := .agg #[.int .i64 k, .slice xa q xc]) rfl (by kernel_rfl) (by kernel_rfl) (by kernel_rfl) (fun _ _ _ h => h) (Or.inl ⟨by rfl, fun w hSw => by obtain ⟨_, s1, s2, s3⟩ := hSw; go_simp⟩) hS ?_
        try simp only [Act.put, List.setIfInBounds_toArray, List.set_cons_zero, List.set_cons_succ]
        refine wpAnyH_ready (rs := [1]) (by kernel_rfl) (by simp) ?_
        refine AllReadyH.cons (o := ⟨some 29, _, _, _, _, _⟩) rfl (fun K hK => ?_) AllReadyH.nil
        go_simp
        refine (JnS.check X1.out HER.out hS).mono ?_
        rintro e w' ⟨rfl, hbq⟩
        have hS5 := JnS.next hS hbq
        refine hK.out _ _ hS5 (fun _ => ?_)
        clear hK K
        try simp only [Act.put, List.setIfInBounds_toArray, List.set_cons_zero, List.set_cons_succ]
        refine wpAnyH_take (i := 2) (oi := ⟨some 30, _, _, _, _, _⟩) (v := .bool false) rfl (by kernel_rfl) (by kernel_rfl) (by kernel_rfl) (fun _ _ _ h => h) (Or.inl ⟨by rfl, fun w hSw => by obtain ⟨_, s1, s2, s3⟩ := hSw; go_simp⟩) hS5 ?_
        try simp only [Act.put, List.setIfInBounds_toArray, List.set_cons_zero, List.set_cons_succ]
        refine wpAnyH_take (i := 3) (oi := ⟨some 31, _, _, _, _, _⟩) (v := .bool false) rfl (by kernel_rfl) (by kernel_rfl) (by kernel_rfl) (fun _ _ _ h => h) (Or.inl ⟨by rfl, fun w hSw => by obtain ⟨_, s1, s2, s3⟩ := hSw; go_simp⟩) hS5 ?_
        try simp only [Act.put, List.setIfInBounds_toArray, List.set_cons_zero, List.set_cons_succ]
        refine wpAnyH_take (i := 4) (oi := ⟨some 32, _, _, _, _, _⟩) (v := .pointer (some ⟨wr.heap.size, 0, none⟩)) rfl (by kernel_rfl) (by kernel_rfl) (by kernel_rfl) (fun _ _ _ h => h) (Or.inl ⟨by rfl, fun w hSw => by obtain ⟨_, s1, s2, s3⟩ := hSw; go_simp⟩) hS5 ?_
        try simp only [Act.put, List.setIfInBounds_toArray, List.set_cons_zero, List.set_cons_succ]
        refine wpAnyH_take (i := 5) (oi := ⟨some 33, _, _, _, _, _⟩) (v := .int .i64 k) rfl (by kernel_rfl) (by kernel_rfl) (by kernel_rfl) (fun _ _ _ h => h) (Or.inl ⟨by rfl, fun w hSw => by obtain ⟨_, s1, s2, s3⟩ := hSw; go_simp⟩) hS5 ?_
        try simp only [Act.put, List.setIfInBounds_toArray, List.set_cons_zero, List.set_cons_succ]
        refine wpAnyH_take (i := 6) (oi := ⟨some 34, _, _, _, _, _⟩) (v := .slice (some ⟨b, o, none⟩) L.length c) rfl (by kernel_rfl) (by kernel_rfl) (by kernel_rfl) (fun _ _ _ h => h) (Or.inl ⟨by rfl, fun w hSw => by obtain ⟨_, s1, s2, s3⟩ := hSw; go_simp⟩) hS5 ?_
        try simp only [Act.put, List.setIfInBounds_toArray, List.set_cons_zero, List.set_cons_succ]
        refine wpAnyH_take (i := 7) (oi := ⟨some 35, _, _, _, _, _⟩) (v := .pointer (some ⟨b, o, none⟩)) rfl (by kernel_rfl) (by kernel_rfl) (by kernel_rfl) (fun _ _ _ h => h) (Or.inl ⟨by rfl, fun w hSw => by obtain ⟨_, s1, s2, s3⟩ := hSw; go_simp⟩) hS5 ?_
        try simp only [Act.put, List.setIfInBounds_toArray, List.set_cons_zero, List.set_cons_succ]
        refine wpAnyH_take (i := 8) (oi := ⟨some 36, _, _, _, _, _⟩) (v := .pointer (some ⟨b, o, none⟩)) rfl (by kernel_rfl) (by kernel_rfl) (by kernel_rfl) (fun _ _ _ h => h) (Or.inl ⟨by rfl, fun w hSw => by obtain ⟨_, s1, s2, s3⟩ := hSw; go_simp⟩) hS5 ?_
        try simp only [Act.put, List.setIfInBounds_toArray, List.set_cons_zero, List.set_cons_succ]
        refine wpAnyH_take (i := 9) (oi := ⟨some 37, _, _, _, _, _⟩) (v := .int .i64 k0) rfl (by kernel_rfl) (by kernel_rfl) (by kernel_rfl) (fun _ _ _ h => h) (Or.inl ⟨by rfl, fun w hSw => by obtain ⟨_, s1, s2, s3⟩ := hSw; go_simp⟩) hS5 ?_
        try simp only [Act.put, List.setIfInBounds_toArray, List.set_cons_zero, List.set_cons_succ]
        refine wpAnyH_take (i := 10) (oi := ⟨some 38, _, _, _, _, _⟩) (v := .bool true) rfl (by kernel_rfl) (by kernel_rfl) (by kernel_rfl) (fun _ _ _ h => h) (Or.inl ⟨by rfl, fun w hSw => by obtain ⟨_, s1, s2, s3⟩ := hSw; go_simp⟩) hS5 ?_
        try simp only [Act.put, List.setIfInBounds_toArray, List.set_cons_zero, List.set_cons_succ]
        refine wpAnyH_take (i := 11) (oi := ⟨some 39, _, _, _, _, _⟩) (v := .bool true) rfl (by kernel_rfl) (by kernel_rfl) (by kernel_rfl) (fun _ _ _ h => h) (Or.inl ⟨by rfl, fun w hSw => by obtain ⟨_, s1, s2, s3⟩ := hSw; go_simp⟩) hS5 ?_
        try simp only [Act.put, List.setIfInBounds_toArray, List.set_cons_zero, List.set_cons_succ]
        refine wpAnyH_take (i := 12) (oi := ⟨some 40, _, _, _, _, _⟩) (v := .bool true) rfl (by kernel_rfl) (by kernel_rfl) (by kernel_rfl) (fun _ _ _ h => h) (Or.inl ⟨by rfl, fun w hSw => by obtain ⟨_, s1, s2, s3⟩ := hSw; go_simp⟩) hS5 ?_
        try simp only [Act.put, List.setIfInBounds_toArray, List.set_cons_zero, List.set_cons_succ]
        refine wpAnyH_take (i := 13) (oi := ⟨some 41, _, _, _, _, _⟩) (v := undef) rfl (by kernel_rfl) (by kernel_rfl) (by kernel_rfl) (fun _ _ _ h => h) (Or.inr ⟨by rfl, rfl⟩) hS5 ?_
        try simp only [Act.put, List.setIfInBounds_toArray, List.set_cons_zero, List.set_cons_succ]
        refine wpAnyH_take (i := 14) (oi := ⟨some 42, _, _, _, _, _⟩) (v := undef) rfl (by kernel_rfl) (by kernel_rfl) (by kernel_rfl) (fun _ _ _ h => h) (Or.inr ⟨by rfl, rfl⟩) hS5 ?_
        try simp only [Act.put, List.setIfInBounds_toArray, List.set_cons_zero, List.set_cons_succ]
        refine wpAnyH_take (i := 15) (oi := ⟨some 43, _, _, _, _, _⟩) (v := undef) rfl (by kernel_rfl) (by kernel_rfl) (by kernel_rfl) (fun _ _ _ h => h) (Or.inr ⟨by rfl, rfl⟩) hS5 ?_
        try simp only [Act.put, List.setIfInBounds_toArray, List.set_cons_zero, List.set_cons_succ]
        refine wpAnyH_take (i := 16) (oi := ⟨some 44, _, _, _, _, _⟩) (v := undef) rfl (by kernel_rfl) (by kernel_rfl) (by kernel_rfl) (fun _ _ _ h => h) (Or.inr ⟨by rfl, rfl⟩) hS5 ?_
        try simp only [Act.put, List.setIfInBounds_toArray, List.set_cons_zero, List.set_cons_succ]
        refine wpAnyH_take (i := 17) (oi := ⟨some 45, _, _, _, _, _⟩) (v := .bool true) rfl (by kernel_rfl) (by kernel_rfl) (by kernel_rfl) (fun _ _ _ h => h) (Or.inl ⟨by rfl, fun w hSw => by obtain ⟨_, s1, s2, s3⟩ := hSw; go_simp⟩) hS5 ?_
        try simp only [Act.put, List.setIfInBounds_toArray, List.set_cons_zero, List.set_cons_succ]
        refine wpAnyH_done (by kernel_rfl) ?_ _
        have HBZ := Lib.hid (HN1.out.1.trans (hS5.1.mono HN1.out.1.size))
        clear hS5 hS S1
        go_wp2_with fail
        go_ret3
        exact JoinPost.bad HBZ.out HN.out rfl
      obtain rfl := hkk
      have ik : (k == k) = true := by rw [beq_iff_eq]
      have ik2 : (k != k) = false := by rw [bne, ik]; rfl
      by_cases hq0 : q = 0
      · have HN : Hid (¬ Fr.jall L) := Lib.hid (fun h => by have := (HJ.out h).1.2.1; rw [HQ.out] at this; omega)
        have iq : ((q : Int) == 0) = true := by rw [beq_iff_eq]; omega
        clear hxc hq0
        refine wp_region_held_drew (S := (fun w' => Below w1.heap.size w1 w' ∧ w'.cell? ⟨wr.heap.size, 0, none⟩ = some (.int .i64 k) ∧ w'.cell? ⟨wr.heap.size, 1, none⟩ = some (.slice xa q xc) ∧ w'.cell? ⟨b, o, none⟩ = some (.int .i64 k))) (by kernel_rfl) (S1.next (Below.refl _ _).drew) (fun hS => ?_)
        refine wpAnyH_take (i := 0) (oi := ⟨some 28, _, _, _, _, _⟩) (v := .agg #[.int .i64 k, .slice xa q xc]) rfl (by kernel_rfl) (by kernel_rfl) (by kernel_rfl) (fun _ _ _ h => h) (Or.inl ⟨by rfl, fun w hSw => by obtain ⟨_, s1, s2, s3⟩ := hSw; go_simp⟩) hS ?_
        try simp only [Act.put, List.setIfInBounds_toArray, List.set_cons_zero, List.set_cons_succ]
        refine wpAnyH_ready (rs := [1]) (by kernel_rfl) (by simp) ?_
        refine AllReadyH.cons (o := ⟨some 29, _, _, _, _, _⟩) rfl (fun K hK => ?_) AllReadyH.nil
        go_simp
        refine (JnS.check X1.out HER.out hS).mono ?_
        rintro e w' ⟨rfl, hbq⟩
        have hS5 := JnS.next hS hbq
        refine hK.out _ _ hS5 (fun _ => ?_)
        clear hK K
        try simp only [Act.put, List.setIfInBounds_toArray, List.set_cons_zero, List.set_cons_succ]
        refine wpAnyH_take (i := 2) (oi := ⟨some 30, _, _, _, _, _⟩) (v := .bool false) rfl (by kernel_rfl) (by kernel_rfl) (by kernel_rfl) (fun _ _ _ h => h) (Or.inl ⟨by rfl, fun w hSw => by obtain ⟨_, s1, s2, s3⟩ := hSw; go_simp⟩) hS5 ?_
        try simp only [Act.put, List.setIfInBounds_toArray, List.set_cons_zero, List.set_cons_succ]
        refine wpAnyH_take (i := 3) (oi := ⟨some 31, _, _, _, _, _⟩) (v := .bool false) rfl (by kernel_rfl) (by kernel_rfl) (by kernel_rfl) (fun _ _ _ h => h) (Or.inl ⟨by rfl, fun w hSw => by obtain ⟨_, s1, s2, s3⟩ := hSw; go_simp⟩) hS5 ?_
        try simp only [Act.put, List.setIfInBounds_toArray, List.set_cons_zero, List.set_cons_succ]
        refine wpAnyH_take (i := 4) (oi := ⟨some 32, _, _, _, _, _⟩) (v := .pointer (some ⟨wr.heap.size, 0, none⟩)) rfl (by kernel_rfl) (by kernel_rfl) (by kernel_rfl) (fun _ _ _ h => h) (Or.inl ⟨by rfl, fun w hSw => by obtain ⟨_, s1, s2, s3⟩ := hSw; go_simp⟩) hS5 ?_
        try simp only [Act.put, List.setIfInBounds_toArray, List.set_cons_zero, List.set_cons_succ]
        refine wpAnyH_take (i := 5) (oi := ⟨some 33, _, _, _, _, _⟩) (v := .int .i64 k) rfl (by kernel_rfl) (by kernel_rfl) (by kernel_rfl) (fun _ _ _ h => h) (Or.inl ⟨by rfl, fun w hSw => by obtain ⟨_, s1, s2, s3⟩ := hSw; go_simp⟩) hS5 ?_
        try simp only [Act.put, List.setIfInBounds_toArray, List.set_cons_zero, List.set_cons_succ]
        refine wpAnyH_take (i := 6) (oi := ⟨some 34, _, _, _, _, _⟩) (v := .slice (some ⟨b, o, none⟩) L.length c) rfl (by kernel_rfl) (by kernel_rfl) (by kernel_rfl) (fun _ _ _ h => h) (Or.inl ⟨by rfl, fun w hSw => by obtain ⟨_, s1, s2, s3⟩ := hSw; go_simp⟩) hS5 ?_
        try simp only [Act.put, List.setIfInBounds_toArray, List.set_cons_zero, List.set_cons_succ]
        refine wpAnyH_take (i := 7) (oi := ⟨some 35, _, _, _, _, _⟩) (v := .pointer (some ⟨b, o, none⟩)) rfl (by kernel_rfl) (by kernel_rfl) (by kernel_rfl) (fun _ _ _ h => h) (Or.inl ⟨by rfl, fun w hSw => by obtain ⟨_, s1, s2, s3⟩ := hSw; go_simp⟩) hS5 ?_
        try simp only [Act.put, List.setIfInBounds_toArray, List.set_cons_zero, List.set_cons_succ]
        refine wpAnyH_take (i := 8) (oi := ⟨some 36, _, _, _, _, _⟩) (v := .pointer (some ⟨b, o, none⟩)) rfl (by kernel_rfl) (by kernel_rfl) (by kernel_rfl) (fun _ _ _ h => h) (Or.inl ⟨by rfl, fun w hSw => by obtain ⟨_, s1, s2, s3⟩ := hSw; go_simp⟩) hS5 ?_
        try simp only [Act.put, List.setIfInBounds_toArray, List.set_cons_zero, List.set_cons_succ]
        refine wpAnyH_take (i := 9) (oi := ⟨some 37, _, _, _, _, _⟩) (v := .int .i64 k) rfl (by kernel_rfl) (by kernel_rfl) (by kernel_rfl) (fun _ _ _ h => h) (Or.inl ⟨by rfl, fun w hSw => by obtain ⟨_, s1, s2, s3⟩ := hSw; go_simp⟩) hS5 ?_
        try simp only [Act.put, List.setIfInBounds_toArray, List.set_cons_zero, List.set_cons_succ]
        refine wpAnyH_take (i := 10) (oi := ⟨some 38, _, _, _, _, _⟩) (v := .bool false) rfl (by kernel_rfl) (by kernel_rfl) (by kernel_rfl) (fun _ _ _ h => h) (Or.inl ⟨by rfl, fun w hSw => by obtain ⟨_, s1, s2, s3⟩ := hSw; go_simp⟩) hS5 ?_
        try simp only [Act.put, List.setIfInBounds_toArray, List.set_cons_zero, List.set_cons_succ]
        refine wpAnyH_take (i := 11) (oi := ⟨some 39, _, _, _, _, _⟩) (v := .bool false) rfl (by kernel_rfl) (by kernel_rfl) (by kernel_rfl) (fun _ _ _ h => h) (Or.inl ⟨by rfl, fun w hSw => by obtain ⟨_, s1, s2, s3⟩ := hSw; go_simp⟩) hS5 ?_
        try simp only [Act.put, List.setIfInBounds_toArray, List.set_cons_zero, List.set_cons_succ]
        refine wpAnyH_take (i := 12) (oi := ⟨some 40, _, _, _, _, _⟩) (v := .bool false) rfl (by kernel_rfl) (by kernel_rfl) (by kernel_rfl) (fun _ _ _ h => h) (Or.inl ⟨by rfl, fun w hSw => by obtain ⟨_, s1, s2, s3⟩ := hSw; go_simp⟩) hS5 ?_
        try simp only [Act.put, List.setIfInBounds_toArray, List.set_cons_zero, List.set_cons_succ]
        refine wpAnyH_take (i := 13) (oi := ⟨some 41, _, _, _, _, _⟩) (v := .pointer (some ⟨wr.heap.size, 1, none⟩)) rfl (by kernel_rfl) (by kernel_rfl) (by kernel_rfl) (fun _ _ _ h => h) (Or.inl ⟨by rfl, fun w hSw => by obtain ⟨_, s1, s2, s3⟩ := hSw; go_simp⟩) hS5 ?_
        try simp only [Act.put, List.setIfInBounds_toArray, List.set_cons_zero, List.set_cons_succ]
        refine wpAnyH_take (i := 14) (oi := ⟨some 42, _, _, _, _, _⟩) (v := .slice xa q xc) rfl (by kernel_rfl) (by kernel_rfl) (by kernel_rfl) (fun _ _ _ h => h) (Or.inl ⟨by rfl, fun w hSw => by obtain ⟨_, s1, s2, s3⟩ := hSw; go_simp⟩) hS5 ?_
        try simp only [Act.put, List.setIfInBounds_toArray, List.set_cons_zero, List.set_cons_succ]
        refine wpAnyH_take (i := 15) (oi := ⟨some 43, _, _, _, _, _⟩) (v := .int .i64 (q : Int)) rfl (by kernel_rfl) (by kernel_rfl) (by kernel_rfl) (fun _ _ _ h => h) (Or.inl ⟨by rfl, fun w hSw => by obtain ⟨_, s1, s2, s3⟩ := hSw; go_simp⟩) hS5 ?_
        try simp only [Act.put, List.setIfInBounds_toArray, List.set_cons_zero, List.set_cons_succ]
        refine wpAnyH_take (i := 16) (oi := ⟨some 44, _, _, _, _, _⟩) (v := .bool true) rfl (by kernel_rfl) (by kernel_rfl) (by kernel_rfl) (fun _ _ _ h => h) (Or.inl ⟨by rfl, fun w hSw => by obtain ⟨_, s1, s2, s3⟩ := hSw; go_simp⟩) hS5 ?_
        try simp only [Act.put, List.setIfInBounds_toArray, List.set_cons_zero, List.set_cons_succ]
        refine wpAnyH_take (i := 17) (oi := ⟨some 45, _, _, _, _, _⟩) (v := .bool true) rfl (by kernel_rfl) (by kernel_rfl) (by kernel_rfl) (fun _ _ _ h => h) (Or.inl ⟨by rfl, fun w hSw => by obtain ⟨_, s1, s2, s3⟩ := hSw; go_simp⟩) hS5 ?_
        try simp only [Act.put, List.setIfInBounds_toArray, List.set_cons_zero, List.set_cons_succ]
        refine wpAnyH_done (by kernel_rfl) ?_ _
        have HBZ := Lib.hid (HN1.out.1.trans (hS5.1.mono HN1.out.1.size))
        clear hS5 hS S1
        go_wp2_with fail
        go_ret3
        exact JoinPost.bad HBZ.out HN.out rfl
      have iq : ((q : Int) == 0) = false := by rw [beq_eq_false_iff_ne]; omega
      obtain ⟨xb, xo, rfl, _, cx0⟩ := hxc 0 (by have := HQ.out; omega)
      obtain ⟨y, hy⟩ : ∃ y, m.2[0]'(by have := HQ.out; omega) = y := ⟨_, rfl⟩
      rw [hy, Nat.add_zero] at cx0
      have hy2 : m.2.getD 0 0 = y := by rw [List.getD_eq_getElem?_getD, List.getElem?_eq_getElem (by have := HQ.out; omega), hy]; rfl
      have HY := Lib.hid hy2
      have HCX : Hid (∀ w', Below w1.heap.size w1 w' → w'.cell? ⟨xb, xo, none⟩ = some (.int .u8 (y.toNat : Int))) := Lib.hid (fun w' hb => by
        obtain ⟨a', c', e, _, _, h⟩ := (X1.out.grow hb).get
        obtain ⟨b', o', e3, _, h⟩ := h 0 (by have := HQ.out; omega)
        injection e with e4 e5 e6
        rw [e3] at e4
        have e4 := Option.some.inj e4
        injection e4 with e7 e8
        subst e7; subst e8
        rw [Nat.add_zero, hy] at h
        exact h)
      have iy : (y.toNat : Int) ≤ 255 := by have := y.toNat_lt; omega
      have HQ0 := Lib.hid hq0
      have HQL : Hid (q ≤ 65536) := Lib.hid (by have := ((encErr_ok (k := k) (body := m.2)).1 HER.out).2.2; rw [← HQ.out]; exact this)
      clear cx0 hxc hy hy2 hq0
      refine wp_region_held_drew (S := (fun w' => Below w1.heap.size w1 w' ∧ w'.cell? ⟨wr.heap.size, 0, none⟩ = some (.int .i64 k) ∧ w'.cell? ⟨wr.heap.size, 1, none⟩ = some (.slice (some ⟨xb, xo, none⟩) q xc) ∧ w'.cell? ⟨b, o, none⟩ = some (.int .i64 k))) (by kernel_rfl) (S1.next (Below.refl _ _).drew) (fun hS => ?_)
      refine wpAnyH_take (i := 0) (oi := ⟨some 28, _, _, _, _, _⟩) (v := .agg #[.int .i64 k, .slice (some ⟨xb, xo, none⟩) q xc]) rfl (by kernel_rfl) (by kernel_rfl) (by kernel_rfl) (fun _ _ _ h => h) (Or.inl ⟨by rfl, fun w hSw => by obtain ⟨_, s1, s2, s3⟩ := hSw; go_simp⟩) hS ?_
      try simp only [Act.put, List.setIfInBounds_toArray, List.set_cons_zero, List.set_cons_succ]
      refine wpAnyH_ready (rs := [1]) (by kernel_rfl) (by simp) ?_
      refine AllReadyH.cons (o := ⟨some 29, _, _, _, _, _⟩) rfl (fun K hK => ?_) AllReadyH.nil
      go_simp
      refine (JnS.check X1.out HER.out hS).mono ?_
      rintro e w' ⟨rfl, hbq⟩
      have hS5 := JnS.next hS hbq
      refine hK.out _ _ hS5 (fun _ => ?_)
      clear hK K
      try simp only [Act.put, List.setIfInBounds_toArray, List.set_cons_zero, List.set_cons_succ]
      refine wpAnyH_take (i := 2) (oi := ⟨some 30, _, _, _, _, _⟩) (v := .bool false) rfl (by kernel_rfl) (by kernel_rfl) (by kernel_rfl) (fun _ _ _ h => h) (Or.inl ⟨by rfl, fun w hSw => by obtain ⟨_, s1, s2, s3⟩ := hSw; go_simp⟩) hS5 ?_
      try simp only [Act.put, List.setIfInBounds_toArray, List.set_cons_zero, List.set_cons_succ]
      refine wpAnyH_take (i := 3) (oi := ⟨some 31, _, _, _, _, _⟩) (v := .bool false) rfl (by kernel_rfl) (by kernel_rfl) (by kernel_rfl) (fun _ _ _ h => h) (Or.inl ⟨by rfl, fun w hSw => by obtain ⟨_, s1, s2, s3⟩ := hSw; go_simp⟩) hS5 ?_
      try simp only [Act.put, List.setIfInBounds_toArray, List.set_cons_zero, List.set_cons_succ]
      refine wpAnyH_take (i := 4) (oi := ⟨some 32, _, _, _, _, _⟩) (v := .pointer (some ⟨wr.heap.size, 0, none⟩)) rfl (by kernel_rfl) (by kernel_rfl) (by kernel_rfl) (fun _ _ _ h => h) (Or.inl ⟨by rfl, fun w hSw => by obtain ⟨_, s1, s2, s3⟩ := hSw; go_simp⟩) hS5 ?_
      try simp only [Act.put, List.setIfInBounds_toArray, List.set_cons_zero, List.set_cons_succ]
      refine wpAnyH_take (i := 5) (oi := ⟨some 33, _, _, _, _, _⟩) (v := .int .i64 k) rfl (by kernel_rfl) (by kernel_rfl) (by kernel_rfl) (fun _ _ _ h => h) (Or.inl ⟨by rfl, fun w hSw => by obtain ⟨_, s1, s2, s3⟩ := hSw; go_simp⟩) hS5 ?_
      try simp only [Act.put, List.setIfInBounds_toArray, List.set_cons_zero, List.set_cons_succ]
      refine wpAnyH_take (i := 6) (oi := ⟨some 34, _, _, _, _, _⟩) (v := .slice (some ⟨b, o, none⟩) L.length c) rfl (by kernel_rfl) (by kernel_rfl) (by kernel_rfl) (fun _ _ _ h => h) (Or.inl ⟨by rfl, fun w hSw => by obtain ⟨_, s1, s2, s3⟩ := hSw; go_simp⟩) hS5 ?_
      try simp only [Act.put, List.setIfInBounds_toArray, List.set_cons_zero, List.set_cons_succ]
      refine wpAnyH_take (i := 7) (oi := ⟨some 35, _, _, _, _, _⟩) (v := .pointer (some ⟨b, o, none⟩)) rfl (by kernel_rfl) (by kernel_rfl) (by kernel_rfl) (fun _ _ _ h => h) (Or.inl ⟨by rfl, fun w hSw => by obtain ⟨_, s1, s2, s3⟩ := hSw; go_simp⟩) hS5 ?_
      try simp only [Act.put, List.setIfInBounds_toArray, List.set_cons_zero, List.set_cons_succ]
      refine wpAnyH_take (i := 8) (oi := ⟨some 36, _, _, _, _, _⟩) (v := .pointer (some ⟨b, o, none⟩)) rfl (by kernel_rfl) (by kernel_rfl) (by kernel_rfl) (fun _ _ _ h => h) (Or.inl ⟨by rfl, fun w hSw => by obtain ⟨_, s1, s2, s3⟩ := hSw; go_simp⟩) hS5 ?_
      try simp only [Act.put, List.setIfInBounds_toArray, List.set_cons_zero, List.set_cons_succ]
      refine wpAnyH_take (i := 9) (oi := ⟨some 37, _, _, _, _, _⟩) (v := .int .i64 k) rfl (by kernel_rfl) (by kernel_rfl) (by kernel_rfl) (fun _ _ _ h => h) (Or.inl ⟨by rfl, fun w hSw => by obtain ⟨_, s1, s2, s3⟩ := hSw; go_simp⟩) hS5 ?_
      try simp only [Act.put, List.setIfInBounds_toArray, List.set_cons_zero, List.set_cons_succ]
      refine wpAnyH_take (i := 10) (oi := ⟨some 38, _, _, _, _, _⟩) (v := .bool false) rfl (by kernel_rfl) (by kernel_rfl) (by kernel_rfl) (fun _ _ _ h => h) (Or.inl ⟨by rfl, fun w hSw => by obtain ⟨_, s1, s2, s3⟩ := hSw; go_simp⟩) hS5 ?_
      try simp only [Act.put, List.setIfInBounds_toArray, List.set_cons_zero, List.set_cons_succ]
      refine wpAnyH_take (i := 11) (oi := ⟨some 39, _, _, _, _, _⟩) (v := .bool false) rfl (by kernel_rfl) (by kernel_rfl) (by kernel_rfl) (fun _ _ _ h => h) (Or.inl ⟨by rfl, fun w hSw => by obtain ⟨_, s1, s2, s3⟩ := hSw; go_simp⟩) hS5 ?_
      try simp only [Act.put, List.setIfInBounds_toArray, List.set_cons_zero, List.set_cons_succ]
      refine wpAnyH_take (i := 12) (oi := ⟨some 40, _, _, _, _, _⟩) (v := .bool false) rfl (by kernel_rfl) (by kernel_rfl) (by kernel_rfl) (fun _ _ _ h => h) (Or.inl ⟨by rfl, fun w hSw => by obtain ⟨_, s1, s2, s3⟩ := hSw; go_simp⟩) hS5 ?_
      try simp only [Act.put, List.setIfInBounds_toArray, List.set_cons_zero, List.set_cons_succ]
      refine wpAnyH_take (i := 13) (oi := ⟨some 41, _, _, _, _, _⟩) (v := .pointer (some ⟨wr.heap.size, 1, none⟩)) rfl (by kernel_rfl) (by kernel_rfl) (by kernel_rfl) (fun _ _ _ h => h) (Or.inl ⟨by rfl, fun w hSw => by obtain ⟨_, s1, s2, s3⟩ := hSw; go_simp⟩) hS5 ?_
      try simp only [Act.put, List.setIfInBounds_toArray, List.set_cons_zero, List.set_cons_succ]
      refine wpAnyH_take (i := 14) (oi := ⟨some 42, _, _, _, _, _⟩) (v := .slice (some ⟨xb, xo, none⟩) q xc) rfl (by kernel_rfl) (by kernel_rfl) (by kernel_rfl) (fun _ _ _ h => h) (Or.inl ⟨by rfl, fun w hSw => by obtain ⟨_, s1, s2, s3⟩ := hSw; go_simp⟩) hS5 ?_
      try simp only [Act.put, List.setIfInBounds_toArray, List.set_cons_zero, List.set_cons_succ]
      refine wpAnyH_take (i := 15) (oi := ⟨some 43, _, _, _, _, _⟩) (v := .int .i64 (q : Int)) rfl (by kernel_rfl) (by kernel_rfl) (by kernel_rfl) (fun _ _ _ h => h) (Or.inl ⟨by rfl, fun w hSw => by obtain ⟨_, s1, s2, s3⟩ := hSw; go_simp⟩) hS5 ?_
      try simp only [Act.put, List.setIfInBounds_toArray, List.set_cons_zero, List.set_cons_succ]
      refine wpAnyH_take (i := 16) (oi := ⟨some 44, _, _, _, _, _⟩) (v := .bool false) rfl (by kernel_rfl) (by kernel_rfl) (by kernel_rfl) (fun _ _ _ h => h) (Or.inl ⟨by rfl, fun w hSw => by obtain ⟨_, s1, s2, s3⟩ := hSw; go_simp⟩) hS5 ?_
      try simp only [Act.put, List.setIfInBounds_toArray, List.set_cons_zero, List.set_cons_succ]
      refine wpAnyH_take (i := 17) (oi := ⟨some 45, _, _, _, _, _⟩) (v := .bool false) rfl (by kernel_rfl) (by kernel_rfl) (by kernel_rfl) (fun _ _ _ h => h) (Or.inl ⟨by rfl, fun w hSw => by obtain ⟨_, s1, s2, s3⟩ := hSw; go_simp⟩) hS5 ?_
      try simp only [Act.put, List.setIfInBounds_toArray, List.set_cons_zero, List.set_cons_succ]
      refine wpAnyH_done (by kernel_rfl) ?_ _
      have HBZ := Lib.hid (HN1.out.1.trans (hS5.1.mono HN1.out.1.size))
      have p1 := hS5.2.2.1
      have cx := HCX.out w' hS5.1
      have N5 := Lib.hid (HN1.out.later hS5.1)
      have X5 := X1.out.grow hS5.1
      have hfrom := X5.from HQ.out (show 1 ≤ q by have := HQ0.out; omega)
      have hdl : (m.2.drop 1).length = q - 1 := by rw [List.length_drop, HQ.out]
      obtain ⟨Dr, hDr⟩ : ∃ Dr, m.2.drop 1 = Dr := ⟨_, rfl⟩
      have hjs := HJS.out
      rw [hDr] at hfrom hdl hjs
      have HJS2 := Lib.hid hjs
      have HDL := Lib.hid hdl
      have HFROM := Lib.hid hfrom
      have iq1 : (1 : Int) ≤ (q : Int) := by have := HQ0.out; omega
      have iq2 : (1 : Int) ≤ (xc : Int) := by omega
      clear hS5 hS S1 ik ik2 iq X5 hfrom hdl hDr hjs
      by_cases hll : i + 1 = L.length
      · have il : ((i : Int) == (L.length : Int) - 1) = true := by rw [beq_iff_eq]; omega
        by_cases hyy : y = 0
        · subst hyy
          have iyb : (((0 : UInt8).toNat : Int) != 0) = false := by decide
          have HWANT : Hid (m.2.getD 0 0 = if i + 1 = L.length then 0 else 1) := Lib.hid (by rw [HY.out, if_pos hll])
          by_cases hxc1 : xc = 1
          · have X2 := Lib.hid (HFROM.out.1 hxc1)
            subst hxc1
            obtain rfl : q = 1 := by omega
            go_wp2_with (at_builtin; refine wpList_append_bytes rfl (.tmp 57) (.tmp 60) rfl (.slice sa (Fr.jbody (L.take i)).length sc) _ Dr (by rfl) (by rfl) N5.out.2.1 X2.out (by have := HJBL.out; have := HDL.out; have := HQL.out; omega) ?_; intro a5 c5 w5 hO5 hg5 ho5; have N6 := Lib.hid (N5.out.push hO5 hg5 ho5); clear hO5 hg5 ho5)
            refine ⟨⟨i + 1, by omega, by go_num, fun j hj hj2 => ?_, by rw [HJS2.out]; exact N6.out⟩, by simp [intOf]; omega⟩
            by_cases hji : j < i
            · exact HALL.out j hj hji
            · obtain rfl : j = i := by omega
              rw [HM.out]
              have her := HER.out
              have hek : 0 ≤ m.1 ∧ m.1 ≤ 255 := by
                have h := (encErr_ok (k := k) (body := m.2)).1 her
                rw [HK.out]; exact ⟨h.1, h.2.1⟩
              have hel : m.2.length ≤ 65536 := ((encErr_ok (k := k) (body := m.2)).1 her).2.2
              exact ⟨⟨HK.out, by rw [HQ.out]; have := HQ0.out; omega, hel, HWANT.out⟩, by rw [← HK.out]; exact hek.1, by rw [← HK.out]; exact hek.2⟩
          · have X2 := Lib.hid (HFROM.out.2 xb xo rfl)
            go_wp2_with (at_builtin; refine wpList_append_bytes rfl (.tmp 57) (.tmp 60) rfl (.slice sa (Fr.jbody (L.take i)).length sc) _ Dr (by rfl) (by rfl) N5.out.2.1 X2.out (by have := HJBL.out; have := HDL.out; have := HQL.out; omega) ?_; intro a5 c5 w5 hO5 hg5 ho5; have N6 := Lib.hid (N5.out.push hO5 hg5 ho5); clear hO5 hg5 ho5)
            refine ⟨⟨i + 1, by omega, by go_num, fun j hj hj2 => ?_, by rw [HJS2.out]; exact N6.out⟩, by simp [intOf]; omega⟩
            by_cases hji : j < i
            · exact HALL.out j hj hji
            · obtain rfl : j = i := by omega
              rw [HM.out]
              have her := HER.out
              have hek : 0 ≤ m.1 ∧ m.1 ≤ 255 := by
                have h := (encErr_ok (k := k) (body := m.2)).1 her
                rw [HK.out]; exact ⟨h.1, h.2.1⟩
              have hel : m.2.length ≤ 65536 := ((encErr_ok (k := k) (body := m.2)).1 her).2.2
              exact ⟨⟨HK.out, by rw [HQ.out]; have := HQ0.out; omega, hel, HWANT.out⟩, by rw [← HK.out]; exact hek.1, by rw [← HK.out]; exact hek.2⟩
        · have iyn : ¬ (y.toNat : Int) = 0 := fun e => hyy (UInt8.toNat_inj.1 (by have : y.toNat = 0 := by omega
                                                                                  rw [this]; rfl))
          have iyb : ((y.toNat : Int) != 0) = true := by rw [bne, beq_eq_false_iff_ne.2 iyn]; rfl
          have HN : Hid (¬ Fr.jall L) := Lib.hid (fun h => hyy (by have := (HJ.out h).1.2.2.2; rw [HY.out, if_pos hll] at this; exact this))
          go_wp2_with fail
          go_ret3
          exact JoinPost.bad HBZ.out HN.out rfl
      · have il : ((i : Int) == (L.length : Int) - 1) = false := by rw [beq_eq_false_iff_ne]; omega
        by_cases hyy : y = 1
        · subst hyy
          have iyb : (((1 : UInt8).toNat : Int) != 1) = false := by decide
          have HWANT : Hid (m.2.getD 0 0 = if i + 1 = L.length then 0 else 1) := Lib.hid (by rw [HY.out, if_neg hll])
          by_cases hxc1 : xc = 1
          · have X2 := Lib.hid (HFROM.out.1 hxc1)
            subst hxc1
            obtain rfl : q = 1 := by omega
            go_wp2_with (at_builtin; refine wpList_append_bytes rfl (.tmp 57) (.tmp 60) rfl (.slice sa (Fr.jbody (L.take i)).length sc) _ Dr (by rfl) (by rfl) N5.out.2.1 X2.out (by have := HJBL.out; have := HDL.out; have := HQL.out; omega) ?_; intro a5 c5 w5 hO5 hg5 ho5; have N6 := Lib.hid (N5.out.push hO5 hg5 ho5); clear hO5 hg5 ho5)
            refine ⟨⟨i + 1, by omega, by go_num, fun j hj hj2 => ?_, by rw [HJS2.out]; exact N6.out⟩, by simp [intOf]; omega⟩
            by_cases hji : j < i
            · exact HALL.out j hj hji
            · obtain rfl : j = i := by omega
              rw [HM.out]
              have her := HER.out
              have hek : 0 ≤ m.1 ∧ m.1 ≤ 255 := by
                have h := (encErr_ok (k := k) (body := m.2)).1 her
                rw [HK.out]; exact ⟨h.1, h.2.1⟩
              have hel : m.2.length ≤ 65536 := ((encErr_ok (k := k) (body := m.2)).1 her).2.2
              exact ⟨⟨HK.out, by rw [HQ.out]; have := HQ0.out; omega, hel, HWANT.out⟩, by rw [← HK.out]; exact hek.1, by rw [← HK.out]; exact hek.2⟩
          · have X2 := Lib.hid (HFROM.out.2 xb xo rfl)
            go_wp2_with (at_builtin; refine wpList_append_bytes rfl (.tmp 57) (.tmp 60) rfl (.slice sa (Fr.jbody (L.take i)).length sc) _ Dr (by rfl) (by rfl) N5.out.2.1 X2.out (by have := HJBL.out; have := HDL.out; have := HQL.out; omega) ?_; intro a5 c5 w5 hO5 hg5 ho5; have N6 := Lib.hid (N5.out.push hO5 hg5 ho5); clear hO5 hg5 ho5)
            refine ⟨⟨i + 1, by omega, by go_num, fun j hj hj2 => ?_, by rw [HJS2.out]; exact N6.out⟩, by simp [intOf]; omega⟩
            by_cases hji : j < i
            · exact HALL.out j hj hji
            · obtain rfl : j = i := by omega
              rw [HM.out]
              have her := HER.out
              have hek : 0 ≤ m.1 ∧ m.1 ≤ 255 := by
                have h := (encErr_ok (k := k) (body := m.2)).1 her
                rw [HK.out]; exact ⟨h.1, h.2.1⟩
              have hel : m.2.length ≤ 65536 := ((encErr_ok (k := k) (body := m.2)).1 her).2.2
              exact ⟨⟨HK.out, by rw [HQ.out]; have := HQ0.out; omega, hel, HWANT.out⟩, by rw [← HK.out]; exact hek.1, by rw [← HK.out]; exact hek.2⟩
        · have iyn : ¬ (y.toNat : Int) = 1 := fun e => hyy (UInt8.toNat_inj.1 (by have : y.toNat = 1 := by omega
                                                                                  rw [this]; rfl))
          have iyb : ((y.toNat : Int) != 1) = true := by rw [bne, beq_eq_false_iff_ne.2 iyn]; rfl
          have HN : Hid (¬ Fr.jall L) := Lib.hid (fun h => hyy (by have := (HJ.out h).1.2.2.2; rw [HY.out, if_neg hll] at this; exact this))
          go_wp2_with fail
          go_ret3
          exact JoinPost.bad HBZ.out HN.out rfl
    · have ige : ¬ (i : Int) < (L.length : Int) := by omega
      obtain rfl : i = L.length := by omega
      rw [List.take_length] at HNB
      have h0 := HALL.out 0 hlp hlp
      have HJA : Hid (Fr.jall L) := Lib.hid ⟨HL4.out, m0, HHEAD.out, by rw [HK0.out]; exact h0.2.1, by rw [HK0.out]; exact h0.2.2, fun j hj => by rw [HK0.out]; exact (HALL.out j hj hj).1⟩
      have dr : wr.cell? ⟨b, o, none⟩ = some (.int .i64 k0) := (HNB.out.1.cell (p := ⟨b, o, none⟩) (HF.out b hbF)).trans HD0.out
      clear h0
      go_wp2_with fail
      go_ret3
      refine ⟨HNB.out.1, fun _ => ⟨m0, HHEAD.out, _, ?_, HNB.out⟩, fun h => absurd HJA.out h⟩
      rw [HK0.out]
      rfl
end
end Go.Proofs.YtggiinfeiilogaaDoor
