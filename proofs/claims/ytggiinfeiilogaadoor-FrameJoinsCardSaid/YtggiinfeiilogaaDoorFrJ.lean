/- Contract of Join. -/
import Derived.Test.YtggiinfeiilogaaDoorFrU
import Derived.BigQuiet
import Derived.Deep.QuietTactic
namespace Go.Proofs.YtggiinfeiilogaaDoor
open Go.RowKit
namespace Fr
def jok (k0 : Int) (n i : Nat) (m : Msg) : Prop := m.1 = k0 ∧ 0 < m.2.length ∧ m.2.length ≤ 65536 ∧ m.2.getD 0 0 = if i + 1 = n then 0 else 1
def jall (L : List Msg) : Prop := L.length ≤ 4096 ∧ ∃ m ∈ L.head?, 0 ≤ m.1 ∧ m.1 ≤ 255 ∧ ∀ i, (h : i < L.length) → jok m.1 L.length i L[i]
def jbody (L : List Msg) : List UInt8 := L.flatMap fun m => m.2.drop 1
theorem jbody_succ (L : List Msg) (i : Nat) (h : i < L.length) : jbody (L.take (i + 1)) = jbody (L.take i) ++ L[i].2.drop 1 := by
  unfold jbody; rw [List.take_succ_eq_append_getElem h, List.flatMap_append]; simp
theorem jbody_le (L : List Msg) (h : ∀ m ∈ L, m.2.length ≤ 65536) : (jbody L).length ≤ 65536 * L.length := by
  induction L with
  | nil => simp [jbody]
  | cons m L ih =>
    have h1 := ih (fun x hx => h x (by simp [hx]))
    have h2 := h m (by simp)
    unfold jbody at *
    rw [List.flatMap_cons, List.length_append, List.length_drop, List.length_cons]
    omega
end Fr
/-- What Join returns. -/
def JoinPost (w : World) (L : List Fr.Msg) (e : Ending) (w' : World) : Prop :=
  Below w.heap.size w w' ∧ (Fr.jall L → ∃ m ∈ L.head?, ∃ sv, e = .returned (.tuple #[.int .i64 m.1, sv, .int .i64 0]) ∧ NewB w.heap.size w (Fr.jbody L) sv w') ∧ (¬ Fr.jall L → e = .returned (.tuple #[.int .i64 0, .slice none 0 0, .int .i64 3]))
section
variable {w w' : World} {F G : Nat → Prop} {v : Value} {L : List Fr.Msg} {B : Nat}
theorem JoinPost.bad {e : Ending} (hb : Below w.heap.size w w') (hn : ¬ Fr.jall L) (he : e = .returned (.tuple #[.int .i64 0, .slice none 0 0, .int .i64 3])) : JoinPost w L e w' := ⟨hb, fun h => absurd h hn, fun _ => he⟩
set_option maxRecDepth 100000 in
set_option maxHeartbeats 4000000 in
theorem join_any (h : MsV w F v L) (hF : ∀ k, F k → k < w.heap.size) : Calls Tryd.prog 41 #[v] w (JoinPost w L) := by
  obtain ⟨a, c, rfl, h1, h2, _⟩ := h.get
  unfold maxLen at h2
  have H := Lib.hid h
  have HF := Lib.hid hF
  clear h hF
  by_cases hl0 : L.length = 0
  · have il : ((L.length : Int) == 0) = true := by rw [beq_iff_eq]; omega
    have HN : Hid (¬ Fr.jall L) := Lib.hid (fun h => by
      obtain ⟨_, m, hm, _⟩ := h
      rw [List.eq_nil_of_length_eq_zero hl0] at hm
      cases hm)
    clear hl0
    go_enter Tryd.func41, Tryd.ntmps41
    go_wp2_with fail
    go_ret3
    exact JoinPost.bad (Below.refl _ _) HN.out rfl
  have il0 : ((L.length : Int) == 0) = false := by rw [beq_eq_false_iff_ne]; omega
  have il1 : (0 : Int) < (L.length : Int) := by omega
  have hlp : 0 < L.length := by omega
  by_cases hl4 : 4096 < L.length
  · have il : (4096 : Int) < (L.length : Int) := by omega
    have HN : Hid (¬ Fr.jall L) := Lib.hid (fun h => by have := h.1; omega)
    clear hl0 hl4
    go_enter Tryd.func41, Tryd.ntmps41
    go_wp2_with fail
    go_ret3
    exact JoinPost.bad (Below.refl _ _) HN.out rfl
  have il4 : ¬ (4096 : Int) < (L.length : Int) := by omega
  have HL4 : Hid (L.length ≤ 4096) := Lib.hid (by omega)
  obtain ⟨m0, hm0⟩ : ∃ m0, L[0]'hlp = m0 := ⟨_, rfl⟩
  have hhead : L.head? = some m0 := by rw [← hm0, List.head?_eq_getElem?, List.getElem?_eq_getElem hlp]
  have HHEAD := Lib.hid hhead
  obtain ⟨_, _, e0, _, _, hc0⟩ := H.out.get
  obtain ⟨rfl, rfl⟩ : _ ∧ _ := by simpa using e0
  obtain ⟨b, o, x0, rfl, hbF, d0, _, _⟩ := hc0 0 hlp
  rw [hm0, Nat.zero_mul, Nat.add_zero] at d0
  obtain ⟨k0, hk0⟩ : ∃ k0, m0.1 = k0 := ⟨_, rfl⟩
  rw [hk0] at d0
  have HK0 := Lib.hid hk0
  have HD0 := Lib.hid d0
  clear e0 hc0 hm0 hhead hk0 hl0 hl4
  by_cases hkk : 0 ≤ k0 ∧ k0 ≤ 255
  case neg =>
    have HD := Lib.hid (decide_eq_false hkk)
    have HN : Hid (¬ Fr.jall L) := Lib.hid (fun h => by
      obtain ⟨_, m, hm, q1, q2, _⟩ := h
      rw [HHEAD.out] at hm
      obtain rfl := Option.some.inj hm
      rw [HK0.out] at q1 q2
      exact hkk ⟨q1, q2⟩)
    clear hkk
    go_enter Tryd.func41, Tryd.ntmps41
    go_wp2_with fail
    refine (fkind_any w k0).mono ?_
    rintro e w' ⟨rfl, rfl⟩
    rw [HD.out]
    go_wp2_with fail
    go_ret3
    exact JoinPost.bad (Below.refl _ _) HN.out rfl
  have HD := Lib.hid (decide_eq_true hkk)
  have HKK := Lib.hid hkk
  clear hkk
  go_enter Tryd.func41, Tryd.ntmps41
  go_wp2_with fail
  refine (fkind_any w k0).mono ?_
  rintro e w' ⟨rfl, rfl⟩
  rw [HD.out]
  go_wp2_with fail
  go_loopw [3, 28] (fun s3 s wr => ∃ i : Nat, i ≤ L.length ∧ s = .int .i64 (i : Int) ∧ s3 = .slice none 0 0 ∧ (∀ j, (h : j < L.length) → j < i → Fr.jok k0 L.length j L[j]) ∧ Below w.heap.size w wr) (fun _ s _ => L.length - (intOf s).toNat)
  case atStart => exact ⟨0, by omega, rfl, rfl, fun j _ h => absurd h (by omega), Below.refl _ _⟩
  case round =>
    obtain ⟨i, hi, rfl, rfl, hall, hbw⟩ := hrel
    have HALL := Lib.hid hall
    have HBW := Lib.hid hbw
    clear hall hbw
    by_cases hlt : i < L.length
    · have it : (i : Int) < (L.length : Int) := by omega
      obtain ⟨_, _, e1, _, _, hc⟩ := (H.out.same (w' := wr) (fun k hk => HBW.out.block k (HF.out k hk))).get
      obtain ⟨rfl, rfl⟩ : _ ∧ _ := by simpa using e1
      obtain ⟨b', o', x, e2, _, c0, c1, hbv⟩ := hc i hlt
      simp only [Option.some.injEq, Addr.mk.injEq, and_true] at e2
      obtain ⟨rfl, rfl⟩ := e2
      obtain ⟨xa, xc, rfl, hx1, hx2, hxc⟩ := hbv.get
      unfold maxLen at hx2
      obtain ⟨m, hm⟩ : ∃ m, L[i] = m := ⟨_, rfl⟩
      rw [hm] at c0 c1 hbv hx1 hxc
      obtain ⟨k, hk⟩ : ∃ k, m.1 = k := ⟨_, rfl⟩
      obtain ⟨q, hq⟩ : ∃ q, m.2.length = q := ⟨_, rfl⟩
      rw [hk] at c0
      rw [hq] at c1 hx1
      have dr : wr.cell? ⟨b, o, none⟩ = some (.int .i64 k0) := (HBW.out.cell (p := ⟨b, o, none⟩) (HF.out b hbF)).trans HD0.out
      have HJ : Hid (Fr.jall L → Fr.jok k0 L.length i m) := Lib.hid (fun h => by
        obtain ⟨_, m', hm', _, _, q3⟩ := h
        rw [HHEAD.out] at hm'
        obtain rfl := Option.some.inj hm'
        have := q3 i hlt
        rw [hm, HK0.out] at this
        exact this)
      obtain ⟨w1, hw1⟩ : ∃ w1, wr.alloc (.cells #[.int .i64 k, .slice xa q xc] 32) = w1 := ⟨_, rfl⟩
      have hb1 : Below wr.heap.size wr w1 := by rw [← hw1]; exact (Below.refl _ _).alloc (Nat.le_refl _) _
      have P1 : Blk w1 wr.heap.size [.int .i64 k, .slice xa q xc] 32 := by rw [← hw1]; exact Blk.new _ _ _
      have HB1 := Lib.hid (HBW.out.trans (hb1.mono HBW.out.size))
      have X1 := Lib.hid (hbv.grow hb1)
      have HP1 := Lib.hid P1
      have dr1 := (hb1.cell (p := ⟨b, o, none⟩) (block_lt_of_cell dr)).trans dr
      have HM := Lib.hid hm
      have HK := Lib.hid hk
      have HQ := Lib.hid hq
      have HDR1 := Lib.hid dr1
      clear hc hbv e1 hk hq dr P1 hb1 hm
      go_wp2_with fail
      clear hw1 dr1
      have p0 := HP1.out.cell (i := 0) rfl
      have p1 := HP1.out.cell (i := 1) rfl
      have dr1 := HDR1.out
      by_cases hkk : k = k0
      case neg =>
        have hkb : (k == k0) = false := beq_eq_false_iff_ne.2 hkk
        have hkn : (k != k0) = true := by rw [bne, hkb]; rfl
        have HN : Hid (¬ Fr.jall L) := Lib.hid (fun h => hkk (by have := (HJ.out h).1; rw [← HK.out]; exact this))
        go_quiet (fail)
        go_wp2_with fail
        go_ret3
        exact JoinPost.bad (below_drewN2 HB1.out _) HN.out rfl
      subst hkk
      by_cases hq0 : q = 0
      · subst hq0
        have HN : Hid (¬ Fr.jall L) := Lib.hid (fun h => by have := (HJ.out h).2.1; have := HQ.out; omega)
        go_quiet (fail)
        go_wp2_with fail
        go_ret3
        exact JoinPost.bad (below_drewN2 HB1.out _) HN.out rfl
      have iq0 : ((q : Int) == 0) = false := by rw [beq_eq_false_iff_ne]; omega
      have iqp : (0 : Int) < (q : Int) := by omega
      by_cases hq6 : 65536 < q
      · have iq6 : (65536 : Int) < (q : Int) := by omega
        have HN : Hid (¬ Fr.jall L) := Lib.hid (fun h => by have := (HJ.out h).2.2.1; have := HQ.out; omega)
        go_quiet (fail)
        go_wp2_with fail
        go_ret3
        exact JoinPost.bad (below_drewN2 HB1.out _) HN.out rfl
      have iq6 : ¬ (65536 : Int) < (q : Int) := by omega
      obtain ⟨xb, xo, rfl, _, cx0⟩ := hxc 0 (by have := HQ.out; omega)
      obtain ⟨y, hy⟩ : ∃ y, m.2[0]'(by have := HQ.out; omega) = y := ⟨_, rfl⟩
      rw [hy, Nat.add_zero] at cx0
      have hy2 : m.2.getD 0 0 = y := by rw [List.getD_eq_getElem?_getD, List.getElem?_eq_getElem (by have := HQ.out; omega), hy]; rfl
      have HY := Lib.hid hy2
      have cx1 : w1.cell? ⟨xb, xo, none⟩ = some (.int .u8 (y.toNat : Int)) := by
        obtain ⟨a', c', e, _, _, h⟩ := X1.out.get
        obtain ⟨b', o', e3, _, h⟩ := h 0 (by have := HQ.out; omega)
        injection e with e4 e5 e6
        rw [e3] at e4
        have e4 := Option.some.inj e4
        injection e4 with e7 e8
        subst e7; subst e8
        rw [Nat.add_zero, hy] at h
        exact h
      have iy : (y.toNat : Int) ≤ 255 := by have := y.toNat_lt; omega
      clear cx0 hxc hy hy2
      by_cases hll : i + 1 = L.length
      · have il : ((i : Int) == (L.length : Int) - 1) = true := by rw [beq_iff_eq]; omega
        by_cases hyy : y = 0
        · subst hyy
          have iyb : (((0 : UInt8).toNat : Int) != 0) = false := by decide
          have HY2 := Lib.hid HY.out
          go_quiet (fail)
          go_wp2_with fail
          go_roundw
          case rel =>
            refine ⟨i + 1, by omega, by go_num, rfl, fun j hj hj2 => ?_, below_drewN2 HB1.out _⟩
            by_cases hji : j < i
            · exact HALL.out j hj hji
            · obtain rfl : j = i := by omega
              rw [HM.out]
              exact ⟨HK.out, by rw [HQ.out]; omega, by rw [HQ.out]; omega, by rw [HY2.out, if_pos hll]⟩
          case measure => simp [intOf]; omega
        · have iyn : ¬ (y.toNat : Int) = 0 := fun e => hyy (UInt8.toNat_inj.1 (by have : y.toNat = 0 := by omega
                                                                                  rw [this]; rfl))
          have iyb : ((y.toNat : Int) != 0) = true := by rw [bne, beq_eq_false_iff_ne.2 iyn]; rfl
          have HN : Hid (¬ Fr.jall L) := Lib.hid (fun h => hyy (by have := (HJ.out h).2.2.2; rw [HY.out, if_pos hll] at this; exact this))
          go_quiet (fail)
          go_wp2_with fail
          go_ret3
          exact JoinPost.bad (below_drewN2 HB1.out _) HN.out rfl
      · have il : ((i : Int) == (L.length : Int) - 1) = false := by rw [beq_eq_false_iff_ne]; omega
        by_cases hyy : y = 1
        · subst hyy
          have iyb : (((1 : UInt8).toNat : Int) != 1) = false := by decide
          have HY2 := Lib.hid HY.out
          go_quiet (fail)
          go_wp2_with fail
          go_roundw
          case rel =>
            refine ⟨i + 1, by omega, by go_num, rfl, fun j hj hj2 => ?_, below_drewN2 HB1.out _⟩
            by_cases hji : j < i
            · exact HALL.out j hj hji
            · obtain rfl : j = i := by omega
              rw [HM.out]
              exact ⟨HK.out, by rw [HQ.out]; omega, by rw [HQ.out]; omega, by rw [HY2.out, if_neg hll]⟩
          case measure => simp [intOf]; omega
        · have iyn : ¬ (y.toNat : Int) = 1 := fun e => hyy (UInt8.toNat_inj.1 (by have : y.toNat = 1 := by omega
                                                                                  rw [this]; rfl))
          have iyb : ((y.toNat : Int) != 1) = true := by rw [bne, beq_eq_false_iff_ne.2 iyn]; rfl
          have HN : Hid (¬ Fr.jall L) := Lib.hid (fun h => hyy (by have := (HJ.out h).2.2.2; rw [HY.out, if_neg hll] at this; exact this))
          go_quiet (fail)
          go_wp2_with fail
          go_ret3
          exact JoinPost.bad (below_drewN2 HB1.out _) HN.out rfl
    · have ige : ¬ (i : Int) < (L.length : Int) := by omega
      have HJA : Hid (Fr.jall L) := Lib.hid ⟨HL4.out, m0, HHEAD.out, by rw [HK0.out]; exact HKK.out.1, by rw [HK0.out]; exact HKK.out.2, fun j hj => by rw [HK0.out]; exact HALL.out j hj (by omega)⟩
      have HSM : Hid (∀ j, (h : j < L.length) → 0 < L[j].2.length ∧ L[j].2.length ≤ 65536) := Lib.hid (fun j hj => ⟨(HALL.out j hj (by omega)).2.1, (HALL.out j hj (by omega)).2.2.1⟩)
      have N0 : Hid (NewB w.heap.size w (Fr.jbody (L.take 0)) (.slice none 0 0) wr) := Lib.hid ⟨HBW.out, (NewB.none wr).2.1, HBW.out.size, fun g e => by cases e⟩
      clear HALL
      go_wp2_with fail
      go_loopw [3, 66] (fun s3 s wz => ∃ i : Nat, i ≤ L.length ∧ s = .int .i64 (i : Int) ∧ NewB w.heap.size w (Fr.jbody (L.take i)) s3 wz) (fun _ s _ => L.length - (intOf s).toNat)
      case atStart => exact ⟨0, by omega, rfl, N0.out⟩
      case round =>
        clear N0
        obtain ⟨i, hi, rfl, hN⟩ := hrel
        have hjl := Fr.jbody_le (L.take i) (fun m hm => by
          obtain ⟨j, hj, rfl⟩ := List.getElem_of_mem (List.mem_of_mem_take hm)
          exact (HSM.out j hj).2)
        have hjb : (Fr.jbody (L.take i)).length ≤ 300000000 := by
          have h1 : (L.take i).length ≤ L.length := by rw [List.length_take]; omega
          have := HL4.out
          omega
        obtain ⟨sa, sc, rfl, _, _, _, _⟩ := hN.2.1.form
        have HN := Lib.hid hN
        have HJB := Lib.hid hjb
        clear hN hjl hjb
        by_cases hlt : i < L.length
        · have it : (i : Int) < (L.length : Int) := by omega
          obtain ⟨_, _, e1, _, _, hc⟩ := (H.out.same (w' := wr) (fun k hk => HN.out.1.block k (HF.out k hk))).get
          obtain ⟨rfl, rfl⟩ : _ ∧ _ := by simpa using e1
          obtain ⟨b', o', x, e2, _, c0, c1, hbv⟩ := hc i hlt
          simp only [Option.some.injEq, Addr.mk.injEq, and_true] at e2
          obtain ⟨rfl, rfl⟩ := e2
          obtain ⟨xa, xc, rfl, hx1, hx2, hxc⟩ := hbv.get
          unfold maxLen at hx2
          have hpos := HSM.out i hlt
          have hjs := Fr.jbody_succ L i hlt
          obtain ⟨m, hm⟩ : ∃ m, L[i] = m := ⟨_, rfl⟩
          rw [hm] at c0 c1 hbv hx1 hxc hpos hjs
          obtain ⟨xb, xo, rfl, _, _⟩ := hxc 0 hpos.1
          obtain ⟨q, hq⟩ : ∃ q, m.2.length = q := ⟨_, rfl⟩
          rw [hq] at c1 hx1 hpos
          have hz : Below wr.heap.size wr (wr.alloc (.cells #[.int .i64 m.1, .slice (some ⟨xb, xo, none⟩) q xc] 32)) := (Below.refl _ _).alloc (Nat.le_refl _) _
          have hb2 := hbv.grow hz
          rw [hq] at hb2
          have hfrom := hb2.from hq (show 1 ≤ q by omega)
          have N1 := Lib.hid (HN.out.later hz)
          have iq1 : (1 : Int) ≤ (q : Int) := by omega
          have iq2 : (1 : Int) ≤ (xc : Int) := by omega
          have hdl : (m.2.drop 1).length = q - 1 := by rw [List.length_drop, hq]
          obtain ⟨Dr, hDr⟩ : ∃ Dr, m.2.drop 1 = Dr := ⟨_, rfl⟩
          rw [hDr] at hfrom hdl hjs
          have HJS := Lib.hid hjs
          have HDL := Lib.hid hdl
          have HPOS := Lib.hid hpos
          by_cases hxc1 : xc = 1
          · have X2 := Lib.hid (hfrom.1 hxc1)
            subst hxc1
            obtain rfl : q = 1 := by omega
            clear hfrom hbv hb2 hz hc e1 hm hq hpos hjs hdl hDr hxc
            go_wp2_with (at_builtin; refine wpList_append_bytes rfl (.tmp 70) (.tmp 73) rfl (.slice sa (Fr.jbody (L.take i)).length sc) _ Dr (by rfl) (by rfl) N1.out.2.1 X2.out (by have := HJB.out; have := HDL.out; omega) ?_; intro a5 c5 w5 hO5 hg5 ho5; have N5 := Lib.hid (N1.out.push hO5 hg5 ho5); clear hO5 hg5 ho5)
            refine ⟨⟨i + 1, by omega, by go_num, by rw [HJS.out]; exact N5.out⟩, by simp [intOf]; omega⟩
          · have X2 := Lib.hid (hfrom.2 xb xo rfl)
            clear hfrom hbv hb2 hz hc e1 hm hq hpos hjs hdl hDr hxc
            go_wp2_with (at_builtin; refine wpList_append_bytes rfl (.tmp 70) (.tmp 73) rfl (.slice sa (Fr.jbody (L.take i)).length sc) _ Dr (by rfl) (by rfl) N1.out.2.1 X2.out (by have := HJB.out; have := HDL.out; have := HPOS.out; omega) ?_; intro a5 c5 w5 hO5 hg5 ho5; have N5 := Lib.hid (N1.out.push hO5 hg5 ho5); clear hO5 hg5 ho5)
            refine ⟨⟨i + 1, by omega, by go_num, by rw [HJS.out]; exact N5.out⟩, by simp [intOf]; omega⟩
        · have ige : ¬ (i : Int) < (L.length : Int) := by omega
          obtain rfl : i = L.length := by omega
          rw [List.take_length] at HN
          have dr : wr.cell? ⟨b, o, none⟩ = some (.int .i64 k0) := (HN.out.1.cell (p := ⟨b, o, none⟩) (HF.out b hbF)).trans HD0.out
          go_wp2_with fail
          go_ret3
          refine ⟨HN.out.1, fun _ => ⟨m0, HHEAD.out, _, ?_, HN.out⟩, fun h => absurd HJA.out h⟩
          rw [HK0.out]
          rfl
end
end Go.Proofs.YtggiinfeiilogaaDoor
