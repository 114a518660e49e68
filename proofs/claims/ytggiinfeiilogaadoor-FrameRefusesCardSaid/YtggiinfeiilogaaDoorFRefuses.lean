/- The walk of FrameRefuses. -/
import Derived.Test.YtggiinfeiilogaaDoorFrT
import Derived.Test.YtggiinfeiilogaaDoorFrY
import Derived.StillTailTactics
import Derived.Deep.RegionHeld3
import Derived.BigQuiet
import Derived.Deep.QuietTactic
namespace Go.Proofs.YtggiinfeiilogaaDoor
open Go.RowKit
set_option linter.unusedSimpArgs false
theorem shaof_from {W w' : World} {xv : Value} {x : List UInt8} {V : ByteArray} (hX : BV W (fun k => k < W.heap.size) xv x) (hg : Glob W) (hV : (⟨(Sha.sum x).toArray⟩ : ByteArray) = V) (hlen : x.length ≤ 1000000000) (h : Below W.heap.size W w') :
    Calls Tryd.prog 37 #[xv] w' fun e w'' => e = .returned (.string V) ∧ Below w'.heap.size w' w'' := by
  subst hV
  exact shaof_any ((hX.grow h).mono (fun k hk => Nat.lt_of_lt_of_le hk h.size)) (hg.below h hg.lt) hlen
theorem NewB.drewN {B : Nat} {w wr : World} {acc : List UInt8} {sv : Value} (h : NewB B w acc sv wr) (n : Nat) : NewB B w acc sv (wr.drewN n) :=
  ⟨below_drewN2 h.1 n, h.2.1.same (F := fun _ => True) (fun _ _ => rfl) (fun _ _ => trivial), h.2.2.1, h.2.2.2⟩
set_option maxRecDepth 100000 in
set_option maxHeartbeats 4000000 in
theorem frameRefuses_walk (w : World) (hg : Glob w) (lv : Value) (L : List Fr.Msg) (hl : MsV w (fun k => k < w.heap.size) lv L) (z : Int) (hz1 : -9223372036854775808 ≤ z) (hz2 : z ≤ 9223372036854775807) (av : Value) (A : List Int) (ha : IntsV w (fun k => k < w.heap.size) av A) (x : UInt8) :
    Calls Tryd.prog 8 #[lv, .int .i64 z, av, .int .u8 (x.toNat : Int)] w fun e w' => e = .returned (.bool true) ∧ Below w.heap.size w w' := by
  obtain ⟨la, lc, rfl, lc1, lc2, _⟩ := hl.get
  obtain ⟨aa, ac, rfl, ac1, ac2, _⟩ := SV.get ha
  unfold maxLen at lc2 ac2
  have HG := Lib.hid hg
  have HL := Lib.hid hl
  have HA := Lib.hid ha
  clear hg hl ha
  go_enter Tryd.func8, Tryd.ntmps8
  go_wp2_with fail
  refine (awake37_any w HG.out).mono ?_
  rintro e w1 ⟨rfl, hb1⟩
  have B1 := Lib.hid hb1; clear hb1
  go_wp2_with fail
  refine (few_any (HL.out.same (w' := w1) (fun k hk => B1.out.block k hk))).mono ?_
  rintro e w2 ⟨⟨bb, rfl, hfew⟩, rfl⟩
  cases bb with
  | false =>
    go_wp2_with fail
    go_ret
    exact ⟨rfl, B1.out⟩
  | true =>
  have HFEW := Lib.hid (hfew rfl)
  clear hfew
  by_cases h10 : 10 < A.length
  · have i10 : (10 : Int) < (A.length : Int) := by omega
    go_wp2_with fail
    go_ret
    exact ⟨rfl, B1.out⟩
  have i10 : (A.length : Int) ≤ 10 := by omega
  clear h10
  by_cases hzz : z < 0
  · go_wp2_with fail
    go_ret
    exact ⟨rfl, B1.out⟩
  obtain ⟨n, rfl⟩ := Int.eq_ofNat_of_zero_le (by omega : 0 ≤ z)
  have i0n : (0 : Int) ≤ (n : Int) := by omega
  clear hzz hz1 hz2
  by_cases hnl : L.length ≤ n
  · have inl : (L.length : Int) ≤ (n : Int) := by omega
    go_wp2_with fail
    go_ret
    exact ⟨rfl, B1.out⟩
  have hn : n < L.length := by omega
  have inl : (n : Int) < (L.length : Int) := by omega
  clear hnl
  go_wp2_with fail
  have hGw1 := HG.out.below B1.out HG.out.lt
  refine (streamed_any (HL.out.same (w' := w1) (fun k hk => B1.out.block k hk)) (fun k hk => Nat.lt_of_lt_of_le hk B1.out.size) hGw1 (by have := HFEW.out.1; omega)).mono ?_
  rintro e w2 ⟨sv, bb, rfl, hb2, hok⟩
  have B2 := Lib.hid (B1.out.trans (hb2.mono B1.out.size))
  have HOK := Lib.hid (show bb = true → (∀ m ∈ L, Fr.ok m) ∧ NewB w.heap.size w (Fr.stream L) sv w2 from fun h => ⟨(hok h).1, (hok h).2.rebase B1.out B1.out.size⟩)
  clear hok hb2 hGw1
  have ilc : (n : Int) ≤ (lc : Int) := by omega
  obtain ⟨_, _, e1, _, _, hget⟩ := (HL.out.same (w' := w2) (fun k hk => B2.out.block k hk)).get
  obtain ⟨rfl, rfl⟩ : _ ∧ _ := by simpa using e1
  obtain ⟨lb, lo, lx, rfl, hlb, -, -, -⟩ := hget n hn
  have HLB := Lib.hid hlb
  clear hget e1 hlb
  go_wp2_with fail
  have L2 := Lib.hid ((HL.out.same (w' := w2) (fun k hk => B2.out.block k hk)).take (k := n) (by omega))
  have htl : (L.take n).length = n := by rw [List.length_take]; omega
  refine (streamed_any L2.out (fun k hk => Nat.lt_of_lt_of_le hk B2.out.size) (HG.out.below B2.out HG.out.lt) (by have := HFEW.out.1; omega)).mono ?_
  rintro e w3 ⟨sv2, bb2, rfl, hb3, hok2⟩
  have B3 := Lib.hid (B2.out.trans (hb3.mono B2.out.size))
  have HOK2 := Lib.hid (show bb2 = true → NewB w.heap.size w (Fr.stream (L.take n)) sv2 w3 from fun h => (hok2 h).2.rebase B2.out B2.out.size)
  have HOK1 := Lib.hid (show bb = true → (∀ m ∈ L, Fr.ok m) ∧ NewB w.heap.size w (Fr.stream L) sv w3 from fun h => ⟨(HOK.out h).1, (HOK.out h).2.later hb3⟩)
  clear hok2 hb3 HOK htl L2
  have HL3 := Lib.hid (HL.out.same (w' := w3) (fun k hk => B3.out.block k hk))
  obtain ⟨_, _, e1, _, _, hget⟩ := HL3.out.get
  obtain ⟨rfl, rfl⟩ : _ ∧ _ := by simpa using e1
  obtain ⟨lb', lo', lx, e2, -, l0, l1, lbv⟩ := hget n hn
  simp only [Option.some.injEq, Addr.mk.injEq, and_true] at e2
  obtain ⟨rfl, rfl⟩ := e2
  obtain ⟨m, hm⟩ : ∃ m, L[n] = m := ⟨_, rfl⟩
  rw [hm] at l0 lbv
  obtain ⟨lxa, lxc, rfl, _⟩ := lbv.get
  have HM := Lib.hid hm
  have LBV := Lib.hid lbv
  have hbl : m.2.length ≤ 300 := by rw [← hm]; exact HFEW.out.2 _ (List.getElem_mem hn)
  obtain ⟨bl, hbl2⟩ : ∃ bl, m.2.length = bl := ⟨_, rfl⟩
  rw [hbl2] at l1 hbl
  have HBL := Lib.hid hbl2
  have ibl : (bl : Int) ≤ 300 := by omega
  clear hget e1 hm lbv hbl2 hbl
  go_wp2_with fail
  have LBV' : BV w3 (fun k => k < w.heap.size) (.slice lxa bl lxc) m.2 := by have := LBV.out; rw [HBL.out] at this; exact this
  refine (fenc_any LBV' (fun k hk => Nat.lt_of_lt_of_le hk B3.out.size) (HG.out.below B3.out HG.out.lt)).mono ?_
  rintro e w4 ⟨mv, rfl, hN4⟩
  have B4 := Lib.hid (B3.out.trans (hN4.1.mono B3.out.size))
  have HN4 := Lib.hid hN4
  clear hN4 LBV' l0 l1
  cases bb with
  | false =>
    go_wp2_with fail
    go_ret
    exact ⟨rfl, B4.out⟩
  | true =>
  cases bb2 with
  | false =>
    go_wp2_with fail
    go_ret
    exact ⟨rfl, B4.out⟩
  | true =>
  obtain ⟨hall, hN1⟩ := HOK1.out rfl
  have hN2 := HOK2.out rfl
  have hok : Fr.ok m := hall m (by rw [← HM.out]; exact List.getElem_mem hn)
  have he : encErr m.1 m.2 = 0 := encErr_ok.2 hok
  have hN4 := HN4.out
  rw [he, if_pos rfl] at hN4
  rw [he]
  have HALL := Lib.hid hall
  have N1 := Lib.hid (hN1.later hN4.1)
  have N2 := Lib.hid (hN2.later hN4.1)
  have N4 := Lib.hid (hN4.rebase B3.out B3.out.size)
  have hel := Fr.encM_length m
  have hpl := Fr.preB_length L n m
  have hsl := stream_le L hall
  have hst := Fr.stream_at L n hn
  rw [HM.out] at hst
  have hnum := Fr.num_le (n := bl) (by omega)
  have hcost : Fr.cost m.2.length = bl + (Fr.num bl).length + 9 := by rw [HBL.out]; unfold Fr.cost; omega
  have htl2 : (Fr.stream L).length = (Fr.preB L n m).length + bl + (Fr.postB L n m).length := by rw [hst]; simp only [List.length_append, HBL.out]
  have hpost : (Fr.postB L n m).length = 8 + (Fr.stream (L.drop (n + 1))).length := by unfold Fr.postB; rw [List.length_append, Fr.chk_length]
  obtain ⟨S, hS⟩ : ∃ S, Fr.stream L = S := ⟨_, rfl⟩
  obtain ⟨S2, hS2⟩ : ∃ S2, Fr.stream (L.take n) = S2 := ⟨_, rfl⟩
  obtain ⟨M, hM⟩ : ∃ M, Fr.encM m = M := ⟨_, rfl⟩
  obtain ⟨P, hP⟩ : ∃ P, Fr.preB L n m = P := ⟨_, rfl⟩
  obtain ⟨T, hT⟩ : ∃ T, Fr.postB L n m = T := ⟨_, rfl⟩
  rw [hS] at N1 hsl hst htl2
  rw [hS2] at N2 hpl
  rw [hM] at N4 hel
  rw [hP] at hpl hst htl2
  rw [hT] at hst htl2 hpost
  have hsb : S.length ≤ 1000000 := by have := HFEW.out.1; omega
  obtain ⟨sa, sc, rfl, _, _, _, _⟩ := N1.out.2.1.form
  obtain ⟨ta, tc, rfl, _, _, _, _⟩ := N2.out.2.1.form
  obtain ⟨ma, mc, rfl, hmc, _, _, _⟩ := N4.out.2.1.form
  have HMC := Lib.hid hmc
  obtain ⟨N, hN⟩ : ∃ N, S.length = N := ⟨_, rfl⟩
  obtain ⟨fr, hfr⟩ : ∃ fr, S2.length = fr := ⟨_, rfl⟩
  obtain ⟨ml, hml⟩ : ∃ ml, M.length = ml := ⟨_, rfl⟩
  obtain ⟨pl, hpl2⟩ : ∃ pl, P.length = pl := ⟨_, rfl⟩
  rw [hN] at N1 hsb htl2 ⊢
  rw [hfr] at N2 hpl ⊢
  rw [hml] at N4 hel HMC ⊢
  rw [hpl2] at hpl htl2
  have HNUM : Hid (ml = bl + (Fr.num bl).length + 9 ∧ (Fr.num bl).length ≤ 3 ∧ pl + 8 + bl = fr + ml ∧ N = pl + bl + T.length ∧ N ≤ 1000000 ∧ bl ≤ 300 ∧ T.length = 8 + (Fr.stream (L.drop (n + 1))).length) := Lib.hid ⟨by omega, hnum, by have := HBL.out; omega, htl2, hsb, by omega, hpost⟩
  have HSN : Hid (S.length ≤ 1000000) := Lib.hid (by rw [hN]; exact hsb)
  have HST := Lib.hid hst
  have HS := Lib.hid hS
  have HS2 := Lib.hid hS2
  have HMM := Lib.hid hM
  have HP := Lib.hid hP
  have HT := Lib.hid hT
  have HNN := Lib.hid hN
  have HFR := Lib.hid hfr
  have HML := Lib.hid hml
  have HPL := Lib.hid hpl2
  have jf : (fr : Int) ≤ 1000000 := by have := HNUM.out; omega
  have jm : (ml : Int) ≤ 400 := by have := HNUM.out; omega
  have jm2 : (10 : Int) ≤ (ml : Int) := by have := HNUM.out; have := Fr.num_pos bl; omega
  have jb2 : (bl : Int) + 10 ≤ (ml : Int) := by have := HNUM.out; have := Fr.num_pos bl; omega
  have HL4 := Lib.hid (HL.out.same (w' := w4) (fun k hk => B4.out.block k hk))
  obtain ⟨_, _, e1, _, _, hget⟩ := HL4.out.get
  obtain ⟨rfl, rfl⟩ : _ ∧ _ := by simpa using e1
  obtain ⟨lb', lo', lx, e2, -, -, l1, lbv⟩ := hget n hn
  simp only [Option.some.injEq, Addr.mk.injEq, and_true] at e2
  obtain ⟨rfl, rfl⟩ := e2
  rw [HM.out] at lbv
  obtain ⟨lxa', lxc', rfl, _⟩ := lbv.get
  rw [HBL.out] at l1
  have C0 := Lib.hid (NewB.empty w4)
  have X4 := Lib.hid (N1.out.bvs.alloc (.cells #[] 5))
  clear hget e1 lbv hall hN1 hN2 hok he hN4 hel hpl hsl hst hnum hcost htl2 hpost hS hS2 hM hP hT hsb hmc hN hfr hml hpl2 HOK1 HOK2 HN4 HL3 LBV
  go_wp2_with (at_builtin; refine wpList_append_bytes rfl (.tmp 89) (.tmp 90) rfl (.slice (some ⟨w4.heap.size, 0, none⟩) 0 0) _ S (by rfl) (by rfl) C0.out.2.1 X4.out (by have := HSN.out; simp only [List.length_nil]; omega) ?_; intro a3 c3 w5 hO3 hg3 ho3; rw [List.length_nil, Nat.zero_add] at ho3 hO3 ⊢; rw [List.nil_append] at hO3; have C3 := Lib.hid (C0.out.push (m := S) hO3 hg3 ho3); clear hO3 hg3 ho3)
  rw [List.nil_append, HNN.out] at C3
  rw [HNN.out]
  rw [show (fr : Int) + (ml : Int) - 8 - (bl : Int) = (pl : Int) from by have := HNUM.out; omega]
  have R3 : Hid (NewB w4.heap.size w4 (P ++ m.2 ++ T) (.slice a3 N c3) w5) := by rw [HST.out] at C3; exact C3
  have V1 : Hid (BV w4 (fun k => k < w4.heap.size) (.slice sa N sc) S) := Lib.hid N1.out.bvs
  have V4 : Hid (BV w4 (fun k => k < w4.heap.size) (.slice ma ml mc) M) := Lib.hid N4.out.bvs
  have jN : (N : Int) ≤ 1000000 := by have := HNUM.out; omega
  have jp : (pl : Int) + (bl : Int) + 8 ≤ (N : Int) := by have := HNUM.out; omega
  have HLX := Lib.hid l1
  clear X4 C0 N1 N4 N2 C3 l1
  go_loopw [18] (fun s18 wr => ∃ (i : Nat) (cur : List UInt8), i ≤ A.length ∧ s18 = .int .i64 (i : Int) ∧ cur.length = bl ∧ NewB w4.heap.size w4 (P ++ cur ++ T) (.slice a3 N c3) wr) (fun s18 _ => A.length - (intOf s18).toNat)
  case atStart => exact ⟨0, m.2, by omega, rfl, HBL.out, R3.out⟩
  case round =>
    clear R3
    obtain ⟨i, cur, hi, rfl, hcl, hC⟩ := hrel
    have HCL := Lib.hid hcl
    have HC := Lib.hid hC
    have HBW := Lib.hid (B4.out.trans (hC.1.mono B4.out.size))
    clear hcl hC
    by_cases hlt : i < A.length
    · have it : (i : Int) < (A.length : Int) := by omega
      obtain ⟨_, _, e1, _, _, hget⟩ := SV.get (SV.same HA.out (fun k hk => HBW.out.block k hk))
      obtain ⟨rfl, rfl⟩ : _ ∧ _ := by simpa using e1
      obtain ⟨ab, ao, rfl, hab, hac⟩ := hget i hlt
      obtain ⟨z, hz⟩ : ∃ z, A[i] = z := ⟨_, rfl⟩
      rw [hz] at hac
      obtain ⟨z', hz'⟩ : ∃ z' : Unit, z' = () := ⟨(), rfl⟩
      have hlx : wr.cell? ⟨lb, lo + n * 2 + 1, none⟩ = some (.slice lxa' bl lxc') := (HC.out.1.cell (p := ⟨lb, lo + n * 2 + 1, none⟩) (by have := HLB.out; have := B4.out.size; show lb < w4.heap.size; omega)).trans HLX.out
      clear hget e1 hz hz' z'
      by_cases hz0 : z < 0
      · have hzb : decide ((0 : Int) ≤ z) = false := by rw [decide_eq_false_iff_not]; omega
        go_wp2_with fail
        go_quiet (fail)
        go_wp2_with fail
        go_roundw
        case rel => exact ⟨i + 1, cur, by omega, by go_num, HCL.out, HC.out.drewN _⟩
        case measure => simp [intOf]; omega
      obtain ⟨p, rfl⟩ := Int.eq_ofNat_of_zero_le (by omega : 0 ≤ z)
      have iz : (0 : Int) ≤ (p : Int) := by omega
      clear hz0
      by_cases hpn : p < bl
      · have ip : (p : Int) < (bl : Int) := by omega
        go_wp2_with fail
        go_quiet (fail)
        go_wp2_with fail
        have HC2 := Lib.hid (HC.out.drewN nq)
        have hac2 : (wr.drewN nq).cell? ⟨ab, ao + i, none⟩ = some (.int .i64 (p : Int)) := hac
        generalize wr.drewN nq = wq at *
        have hcl2 : (P ++ cur ++ T).length = N := by have := HNUM.out; simp only [List.length_append, HCL.out, HPL.out]; omega
        obtain ⟨g, cc, hv, q1, q2, hgl, hcell, hfr, hset⟩ := NewB_cells HC2.out (by rw [hcl2]; omega)
        rw [hcl2] at hv q1
        have hcell := fun i hi => hcell i (by rw [hcl2]; exact hi)
        have hset := fun i x hi => hset i x (by rw [hcl2]; exact hi)
        obtain ⟨rfl, -, rfl⟩ := Value.slice.inj hv
        have hpN : pl + p < N := by omega
        have hcp := hcell (pl + p) hpN
        have hfp := hfr (pl + p)
        have hgm := Fr.get_mid P cur T p (by rw [HCL.out]; exact hpn)
        obtain ⟨y, hy⟩ : ∃ y, cur[p]'(by rw [HCL.out]; exact hpn) = y := ⟨_, rfl⟩
        have hgy : (P ++ cur ++ T)[pl + p]'(by rw [hcl2]; exact hpN) = y := by rw [← hy, ← hgm]; congr 1; rw [HPL.out]
        rw [hgy] at hcp
        have hxor := xor8 y x
        have hst := hset (pl + p) (y ^^^ x) hpN
        have hsm := Fr.set_mid P cur T p (y ^^^ x) (by rw [HCL.out]; exact hpn)
        rw [HPL.out] at hsm
        rw [hsm] at hst
        have HSET := Lib.hid hst
        have HAB := Lib.hid hab
        have HGB : Hid (w4.heap.size ≤ g) := Lib.hid (HC2.out.2.2.2 g rfl)
        unfold maxLen at q2
        clear hcell hfr hset hv hy hgy hgm hst hsm hcl2 hlx
        have n1 : ¬ ab = g := fun e => by have := HGB.out; have := HAB.out; have := B4.out.size; omega
        have n2 : ¬ g = ab := fun e => n1 e.symm
        have k1 : IntKind.i64.wrap ((pl : Int) + (p : Int)) = (pl : Int) + (p : Int) := by rw [IntKind.wrap_i64]; omega
        have k2 : ((pl : Int) + (p : Int)).toNat = pl + p := by omega
        have k3 : (pl : Int) + (p : Int) < (N : Int) := by omega
        have k4 : (0 : Int) ≤ (pl : Int) + (p : Int) := by omega
        go_still_tail 19, (by kernel_rfl)
        go_wp2_with fail
        have hN := HSET.out
        rw [UInt8.toNat_xor] at hN
        refine ⟨⟨i + 1, cur.set p (y ^^^ x), by omega, by go_num, by rw [List.length_set, HCL.out], hN.drew⟩, by simp [intOf]; omega⟩
      · have ip : ¬ (p : Int) < (bl : Int) := by omega
        have ipb : decide ((p : Int) < (bl : Int)) = false := by rw [decide_eq_false_iff_not]; exact ip
        go_wp2_with fail
        go_quiet (fail)
        go_wp2_with fail
        go_roundw
        case rel => exact ⟨i + 1, cur, by omega, by go_num, HCL.out, HC.out.drewN _⟩
        case measure => simp [intOf]; omega
    · have ige : ¬ (i : Int) < (A.length : Int) := by omega
      have hcl2 : (P ++ cur ++ T).length = N := by have := HNUM.out; simp only [List.length_append, HCL.out, HPL.out]; omega
      have VC := Lib.hid HC.out.bvs
      have VS := Lib.hid (V1.out.same (w' := wr) (fun k hk => HC.out.1.block k hk))
      have hc1 := VC.out.convS
      have hc2 := VS.out.convS
      obtain ⟨X1, hX1⟩ : ∃ X : ByteArray, (⟨(P ++ cur ++ T).toArray⟩ : ByteArray) = X := ⟨_, rfl⟩
      obtain ⟨X2, hX2⟩ : ∃ X : ByteArray, (⟨S.toArray⟩ : ByteArray) = X := ⟨_, rfl⟩
      rw [hX1] at hc1
      rw [hX2] at hc2
      have HC2L := Lib.hid hcl2
      clear hX1 hX2 hcl2
      go_wp2_with fail
      · go_ret
        exact ⟨rfl, HBW.out⟩
      clear hc1 hc2
      have VM := Lib.hid (V4.out.same (w' := wr) (fun k hk => HC.out.1.block k hk))
      refine (newdec_any wr).mono ?_
      rintro e w6 ⟨rfl, hb6, hD6⟩
      have hwb := HBW.out.size
      have hF6 : From w.heap.size (fun k => wr.heap.size ≤ k ∧ k < w6.heap.size) := fun k hk => Nat.le_trans hwb hk.1
      have hF6w : From wr.heap.size (fun k => wr.heap.size ≤ k ∧ k < w6.heap.size) := fun k hk => hk.1
      generalize (fun k => wr.heap.size ≤ k ∧ k < w6.heap.size) = F6 at *
      have B6 := Lib.hid (HBW.out.trans (hb6.mono hwb))
      have D6 := Lib.hid hD6
      have FR6 := Lib.hid hF6
      have FW6 := Lib.hid hF6w
      have BW6 := Lib.hid hb6
      have VC6 := Lib.hid (VC.out.grow hb6)
      obtain ⟨b, hbd⟩ : ∃ b, wr.heap.size = b := ⟨_, rfl⟩
      have HBD := Lib.hid hbd
      rw [hbd] at D6 ⊢
      clear hb6 hD6 hF6 hF6w hwb hbd
      go_wp2_with fail
      have hcv : BV w6 (fun k => k < wr.heap.size) (.slice a3 (P ++ cur ++ T).length c3) (P ++ cur ++ T) := by have := VC6.out; rw [HC2L.out]; exact this
      rw [HC2L.out] at hcv
      refine (feed_any D6.out hcv (by rw [HC2L.out]; simp only [Fr.D.pend, List.length_nil]; omega)).mono ?_
      rintro e w7 ⟨rfl, hst7, hD7⟩
      have B7 := Lib.hid (B6.out.trans (hst7.below FR6.out B6.out.size))
      have BW7 := Lib.hid (BW6.out.trans (hst7.below FW6.out BW6.out.size))
      have FR7 := Lib.hid (Plus.froms (w := w6) (w' := w7) FR6.out B6.out.size)
      have FW7 := Lib.hid (Plus.froms (w := w6) (w' := w7) FW6.out BW6.out.size)
      have hD7' : DecAt w7 b (Plus F6 w6 w7) (.live (P ++ cur ++ T)) := hD7
      generalize Plus F6 w6 w7 = F7 at *
      have D7 := Lib.hid hD7'
      clear hst7 hD7 hD7' hcv
      go_wp2_with fail
      refine (drained_any D7.out (HG.out.below B7.out HG.out.lt) (fun k hk => by have := FR7.out k hk; have := HG.out.lt; omega) (by rw [HC2L.out]; omega)).mono ?_
      rintro e w8 ⟨ms, d, gv, er, rfl, hdr, hst8, hD8, hM8, _, her⟩
      have B8 := Lib.hid (B7.out.trans (hst8.below FR7.out B7.out.size))
      have BW8 := Lib.hid (BW7.out.trans (hst8.below FW7.out BW7.out.size))
      have href : Fr.Refused L n m cur ms d := by
        have h := Fr.refused L n hn HALL.out cur (by rw [HM.out, HCL.out, HBL.out]) (by rw [HM.out, HP.out, HT.out]; exact hdr)
        rw [HM.out] at h
        exact h
      obtain ⟨hrl, hrt, hrc⟩ := href
      have M8 := Lib.hid hM8.msv
      obtain ⟨ga, gc, rfl, gc1, gc2⟩ := hM8.shape
      unfold maxLen at gc2
      have D8 := Lib.hid hD8
      have HRT := Lib.hid hrt
      have HRC := Lib.hid hrc
      have HER := Lib.hid her
      have irl : ¬ (ms.length : Int) < (n : Int) := by omega
      have irl2 : ¬ ms.length < n := by omega
      have L8 := Lib.hid (HL.out.same (w' := w8) (fun k hk => B8.out.block k hk))
      clear hdr hst8 hD8 hM8 hrt hrc her
      go_wp2_with fail
      go_loopw [22] (fun s wr => ∃ j : Nat, j ≤ n ∧ s = .int .i64 (j : Int) ∧ Below w8.heap.size w8 wr) (fun s _ => n - (intOf s).toNat)
      case atStart => exact ⟨0, by omega, rfl, Below.refl _ _⟩
      case round =>
        obtain ⟨j, hj, rfl, hbz⟩ := hrel
        have HBZ := Lib.hid hbz
        clear hbz
        by_cases hjl : j < n
        · have ij : (j : Int) < (n : Int) := by omega
          obtain ⟨_, _, e1, _, _, hget1⟩ := (M8.out.grow HBZ.out).get
          obtain ⟨rfl, rfl⟩ : _ ∧ _ := by simpa using e1
          obtain ⟨gb, go, gx, rfl, _, g0, g1, gbv⟩ := hget1 j (by omega)
          obtain ⟨_, _, e2, _, _, hget2⟩ := (L8.out.grow HBZ.out).get
          obtain ⟨rfl, rfl⟩ : _ ∧ _ := by simpa using e2
          obtain ⟨lb', lo', lx', e3, _, l0, l1, lbv⟩ := hget2 j (by omega)
          simp only [Option.some.injEq, Addr.mk.injEq, and_true] at e3
          obtain ⟨rfl, rfl⟩ := e3
          have hmeq : ms[j]'(by omega) = L[j]'(by omega) := by
            have e3 : (ms.take n)[j]? = (L.take n)[j]? := by rw [HRT.out]
            rw [List.getElem?_take, List.getElem?_take, if_pos hjl, if_pos hjl, List.getElem?_eq_getElem (by omega), List.getElem?_eq_getElem (by omega)] at e3
            exact Option.some.inj e3
          rw [hmeq] at g0 gbv
          obtain ⟨m', hm'⟩ : ∃ m', L[j]'(by omega) = m' := ⟨_, rfl⟩
          rw [hm'] at g0 gbv l0 lbv
          obtain ⟨gxa, gxc, rfl, _⟩ := gbv.get
          obtain ⟨lxa2, lxc2, rfl, _⟩ := lbv.get
          have im1 : (j : Int) < (ms.length : Int) := by omega
          have im2 : (j : Int) < (L.length : Int) := by omega
          have GBV := Lib.hid gbv
          have LBV := Lib.hid lbv
          clear hget1 hget2 e1 e2 gbv lbv hmeq hm'
          go_wp2_with fail
          go_still_tail 8, (by kernel_rfl)
          go_wp2_with fail
          refine (msame_is (show BV wr.drew _ _ _ from GBV.out) (show BV wr.drew _ _ _ from LBV.out)).mono ?_
          rintro e w9 ⟨rfl, hb9⟩
          have HB9 := Lib.hid (HBZ.out.trans ((show Below wr.heap.size wr w9 from ⟨hb9.1, hb9.2, hb9.3, hb9.4, hb9.5⟩).mono HBZ.out.size))
          clear hb9
          go_wp2_with fail
          go_roundw
          case rel => exact ⟨j + 1, by omega, by go_num, HB9.out⟩
          case measure => simp [intOf]; omega
        · have ij : ¬ (j : Int) < (n : Int) := by omega
          rcases HRC.out with ⟨hgt, hchk⟩ | ⟨heq, hd⟩
          rotate_left
          · have her2 : er = 9 := by
              rcases HER.out with ⟨_, r, h⟩ | ⟨h, _⟩
              · rw [hd] at h; cases h
              · exact h
            subst her2
            subst hd
            have ieq : ((ms.length : Int) == (n : Int)) = true := by rw [beq_iff_eq]; omega
            have DZ := Lib.hid (D8.out.grow HBZ.out)
            have hpd : (Fr.D.dead (Fr.cost m.2.length + (Fr.stream (L.drop (n + 1))).length)).pend = N - fr := by
              have h1 := HNUM.out
              have h2 := Fr.encM_length m
              rw [HMM.out, HML.out] at h2
              simp only [Fr.D.pend]
              omega
            have HPD := Lib.hid hpd
            have iNf : ((N - fr : Nat) : Int) = (N : Int) - (fr : Int) := by have := HNUM.out; omega
            have INF := Lib.hid iNf
            clear hpd iNf heq
            go_wp2_with fail
            refine (pend_any DZ.out (by rw [HPD.out]; omega)).mono ?_
            rintro e w9 ⟨rfl, n9, rfl⟩
            rw [HPD.out, INF.out]
            go_wp2_with fail
            go_ret
            exact ⟨rfl, B8.out.trans ((below_drewN2 HBZ.out n9).mono B8.out.size)⟩
          have hnot : (er == 9 && ((ms.length : Int) == (n : Int))) = false := by
            have : ((ms.length : Int) == (n : Int)) = false := by rw [beq_eq_false_iff_ne]; omega
            rw [this, Bool.and_false]
          have ieq : ((ms.length : Int) == (n : Int)) = false := by rw [beq_eq_false_iff_ne]; omega
          obtain ⟨g, cc, hv, q1, q2, hgl, -, -, -⟩ := NewB_cells HC.out (by rw [HC2L.out]; omega)
          rw [HC2L.out] at hv q1
          obtain ⟨rfl, -, rfl⟩ := Value.slice.inj hv
          unfold maxLen at q2
          have BWZ := Lib.hid (BW8.out.trans (HBZ.out.mono BW8.out.size))
          obtain ⟨q, hq⟩ : ∃ q, ml = q + 8 := ⟨ml - 8, by have := HNUM.out; omega⟩
          obtain ⟨fm, hfm⟩ : ∃ fm, fr + ml = fm := ⟨_, rfl⟩
          obtain ⟨fq, hfq⟩ : ∃ fq, fr + q = fq := ⟨_, rfl⟩
          have hhl := Fr.head_length (Fr.kb m.1) m.2
          have hhl2 := Fr.head_length (Fr.kb m.1) cur
          have hq1 : (Fr.head (Fr.kb m.1) m.2).length = q := by rw [hhl, HBL.out]; have := HNUM.out; omega
          have hq2 : (Fr.head (Fr.kb m.1) cur).length = q := by rw [hhl2, HCL.out]; have := HNUM.out; omega
          have YA : Hid (BV wr (fun k => k < wr.heap.size) (.slice ma q mc) (Fr.head (Fr.kb m.1) m.2)) := Lib.hid (by
            have h := BV.take (k := q) (VM.out.grow BWZ.out) (by omega)
            rw [← HMM.out, show Fr.encM m = Fr.head (Fr.kb m.1) m.2 ++ Fr.chk (Fr.head (Fr.kb m.1) m.2) from rfl, List.take_left' hq1] at h
            exact h.mono (fun k hk => by have := HC.out.1.size; have := BWZ.out.size; omega))
          have YB : Hid (BV wr (fun k => k < wr.heap.size) (.slice (some ⟨g, fr, none⟩) q (c3 - fr)) (Fr.head (Fr.kb m.1) cur)) := Lib.hid (by
            have h := (VC.out.grow BWZ.out).subAt (lo := fr) (k := q) HC2L.out (by have := HNUM.out; omega)
            have e : P ++ cur ++ T = S2 ++ (Fr.head (Fr.kb m.1) cur ++ T) := by
              rw [← HP.out, ← HS2.out]
              unfold Fr.preB Fr.head
              rw [HCL.out, HBL.out]
              simp [List.append_assoc]
            rw [e, List.drop_left' HFR.out, List.take_left' hq2, Nat.zero_add] at h
            exact h.mono (fun k hk => by have := BWZ.out.size; omega))
          obtain ⟨VA, hVA⟩ : ∃ V : ByteArray, (⟨(Sha.sum (Fr.head (Fr.kb m.1) m.2)).toArray⟩ : ByteArray) = V := ⟨_, rfl⟩
          obtain ⟨VB, hVB⟩ : ∃ V : ByteArray, (⟨(Sha.sum (Fr.head (Fr.kb m.1) cur)).toArray⟩ : ByteArray) = V := ⟨_, rfl⟩
          have hsA : VA.size = 32 := by rw [← hVA]; exact Fr.sum_len _
          have hsB : VB.size = 32 := by rw [← hVB]; exact Fr.sum_len _
          have hxA : VA.extract 0 8 = ⟨(Fr.chk (Fr.head (Fr.kb m.1) m.2)).toArray⟩ := by rw [← hVA, extract8]; rfl
          have hxB : VB.extract 0 8 = ⟨(Fr.chk (Fr.head (Fr.kb m.1) m.2)).toArray⟩ := by rw [← hVB, extract8, ← hchk]; rfl
          have HVA := Lib.hid hVA
          have HVB := Lib.hid hVB
          have HSA := Lib.hid hsA
          have HSB := Lib.hid hsB
          have HXA := Lib.hid hxA
          have HXB := Lib.hid hxB
          have HQA : Hid ((Fr.head (Fr.kb m.1) m.2).length ≤ 1000000000) := Lib.hid (by rw [hq1]; omega)
          have HQB : Hid ((Fr.head (Fr.kb m.1) cur).length ≤ 1000000000) := Lib.hid (by rw [hq2]; omega)
          have GZ := Lib.hid (HG.out.below (B8.out.trans (HBZ.out.mono B8.out.size)) HG.out.lt)
          have hmcq : q ≤ mc := by have := HMC.out; omega
          have hfqc : fq ≤ c3 := by have := HNUM.out; omega
          have j1 : (q : Int) ≤ (mc : Int) := by omega
          have j2 : (fr : Int) ≤ (fq : Int) := by omega
          have j3 : (fq : Int) ≤ (c3 : Int) := by omega
          have j4 : ¬ c3 = fr := by have := HNUM.out; omega
          have j5 : fq - fr = q := by omega
          have k1 : IntKind.i64.wrap ((ml : Int) - 8) = (q : Int) := by rw [IntKind.wrap_i64]; omega
          have k2 : IntKind.i64.wrap ((fr : Int) + (ml : Int)) = (fm : Int) := by rw [IntKind.wrap_i64]; omega
          have k3 : IntKind.i64.wrap ((fm : Int) - 8) = (fq : Int) := by rw [IntKind.wrap_i64]; omega
          clear hgt hchk hv hhl hhl2 hq1 hq2 hVA hVB hsA hsB hxA hxB hq hfm hfq jm jm2 jb2 jf jN jp
          rcases HER.out with ⟨rfl, _⟩ | ⟨rfl, _⟩
          all_goals
            go_wp2_with fail
            refine wp_region_held_drew (S := (fun w' => Below wr.heap.size wr w')) (by kernel_rfl) (Below.refl wr.heap.size wr).drew (fun hS => ?_)
            refine wpAnyH_take (i := 0) (oi := ⟨some 183, _, _, _, _, _⟩) (v := .slice ma ml mc) rfl (by kernel_rfl) (by kernel_rfl) (by kernel_rfl) (fun _ _ _ h => h) (Or.inl ⟨by rfl, fun w hSw => by go_simp⟩) hS ?_
            try simp only [Act.put, List.setIfInBounds_toArray, List.set_cons_zero, List.set_cons_succ]
            refine wpAnyH_take (i := 1) (oi := ⟨some 184, _, _, _, _, _⟩) (v := .slice ma ml mc) rfl (by kernel_rfl) (by kernel_rfl) (by kernel_rfl) (fun _ _ _ h => h) (Or.inl ⟨by rfl, fun w hSw => by go_simp⟩) hS ?_
            try simp only [Act.put, List.setIfInBounds_toArray, List.set_cons_zero, List.set_cons_succ]
            refine wpAnyH_take (i := 2) (oi := ⟨some 185, _, _, _, _, _⟩) (v := .int .i64 (ml : Int)) rfl (by kernel_rfl) (by kernel_rfl) (by kernel_rfl) (fun _ _ _ h => h) (Or.inl ⟨by rfl, fun w hSw => by go_simp⟩) hS ?_
            try simp only [Act.put, List.setIfInBounds_toArray, List.set_cons_zero, List.set_cons_succ]
            refine wpAnyH_take (i := 3) (oi := ⟨some 186, _, _, _, _, _⟩) (v := .int .i64 (q : Int)) rfl (by kernel_rfl) (by kernel_rfl) (by kernel_rfl) (fun _ _ _ h => h) (Or.inl ⟨by rfl, fun w hSw => by go_simp⟩) hS ?_
            try simp only [Act.put, List.setIfInBounds_toArray, List.set_cons_zero, List.set_cons_succ]
            refine wpAnyH_take (i := 4) (oi := ⟨some 187, _, _, _, _, _⟩) (v := .slice ma q mc) rfl (by kernel_rfl) (by kernel_rfl) (by kernel_rfl) (fun _ _ _ h => h) (Or.inl ⟨by rfl, fun w hSw => by go_simp⟩) hS ?_
            try simp only [Act.put, List.setIfInBounds_toArray, List.set_cons_zero, List.set_cons_succ]
            refine wpAnyH_take (i := 6) (oi := ⟨some 189, _, _, _, _, _⟩) (v := .slice (some ⟨g, 0, none⟩) N c3) rfl (by kernel_rfl) (by kernel_rfl) (by kernel_rfl) (fun _ _ _ h => h) (Or.inl ⟨by rfl, fun w hSw => by go_simp⟩) hS ?_
            try simp only [Act.put, List.setIfInBounds_toArray, List.set_cons_zero, List.set_cons_succ]
            refine wpAnyH_take (i := 7) (oi := ⟨some 190, _, _, _, _, _⟩) (v := .int .i64 (fr : Int)) rfl (by kernel_rfl) (by kernel_rfl) (by kernel_rfl) (fun _ _ _ h => h) (Or.inl ⟨by rfl, fun w hSw => by go_simp⟩) hS ?_
            try simp only [Act.put, List.setIfInBounds_toArray, List.set_cons_zero, List.set_cons_succ]
            refine wpAnyH_take (i := 8) (oi := ⟨some 191, _, _, _, _, _⟩) (v := .int .i64 (fr : Int)) rfl (by kernel_rfl) (by kernel_rfl) (by kernel_rfl) (fun _ _ _ h => h) (Or.inl ⟨by rfl, fun w hSw => by go_simp⟩) hS ?_
            try simp only [Act.put, List.setIfInBounds_toArray, List.set_cons_zero, List.set_cons_succ]
            refine wpAnyH_take (i := 9) (oi := ⟨some 192, _, _, _, _, _⟩) (v := .slice ma ml mc) rfl (by kernel_rfl) (by kernel_rfl) (by kernel_rfl) (fun _ _ _ h => h) (Or.inl ⟨by rfl, fun w hSw => by go_simp⟩) hS ?_
            try simp only [Act.put, List.setIfInBounds_toArray, List.set_cons_zero, List.set_cons_succ]
            refine wpAnyH_take (i := 10) (oi := ⟨some 193, _, _, _, _, _⟩) (v := .int .i64 (ml : Int)) rfl (by kernel_rfl) (by kernel_rfl) (by kernel_rfl) (fun _ _ _ h => h) (Or.inl ⟨by rfl, fun w hSw => by go_simp⟩) hS ?_
            try simp only [Act.put, List.setIfInBounds_toArray, List.set_cons_zero, List.set_cons_succ]
            refine wpAnyH_take (i := 11) (oi := ⟨some 194, _, _, _, _, _⟩) (v := .int .i64 (fm : Int)) rfl (by kernel_rfl) (by kernel_rfl) (by kernel_rfl) (fun _ _ _ h => h) (Or.inl ⟨by rfl, fun w hSw => by go_simp⟩) hS ?_
            try simp only [Act.put, List.setIfInBounds_toArray, List.set_cons_zero, List.set_cons_succ]
            refine wpAnyH_take (i := 12) (oi := ⟨some 195, _, _, _, _, _⟩) (v := .int .i64 (fq : Int)) rfl (by kernel_rfl) (by kernel_rfl) (by kernel_rfl) (fun _ _ _ h => h) (Or.inl ⟨by rfl, fun w hSw => by go_simp⟩) hS ?_
            try simp only [Act.put, List.setIfInBounds_toArray, List.set_cons_zero, List.set_cons_succ]
            refine wpAnyH_take (i := 13) (oi := ⟨some 196, _, _, _, _, _⟩) (v := .slice (some ⟨g, fr, none⟩) q (c3 - fr)) rfl (by kernel_rfl) (by kernel_rfl) (by kernel_rfl) (fun _ _ _ h => h) (Or.inl ⟨by rfl, fun w hSw => by go_simp⟩) hS ?_
            try simp only [Act.put, List.setIfInBounds_toArray, List.set_cons_zero, List.set_cons_succ]
            refine wpAnyH_ready (rs := [5]) (by kernel_rfl) (by simp) ?_
            refine AllReadyH.cons (o := ⟨some 188, _, _, _, _, _⟩) rfl (fun K hK => ?_) AllReadyH.nil
            · go_simp
              refine (shaof_from YA.out GZ.out HVA.out HQA.out hS).mono ?_
              rintro e w' ⟨rfl, hb⟩
              have hS5 : Below wr.heap.size wr w' := hS.trans (hb.mono hS.size)
              refine hK.out _ _ hS5 (fun _ => ?_)
              clear hK K hb
              try simp only [Act.put, List.setIfInBounds_toArray, List.set_cons_zero, List.set_cons_succ]
              refine wpAnyH_ready (rs := [14]) (by kernel_rfl) (by simp) ?_
              refine AllReadyH.cons (o := ⟨some 197, _, _, _, _, _⟩) rfl (fun K hK => ?_) AllReadyH.nil
              go_simp
              refine (shaof_from YB.out GZ.out HVB.out HQB.out hS5).mono ?_
              rintro e w'' ⟨rfl, hb⟩
              have hS6 : Below wr.heap.size wr w'' := hS5.trans (hb.mono hS5.size)
              refine hK.out _ _ hS6 (fun _ => ?_)
              clear hK K
              try simp only [Act.put, List.setIfInBounds_toArray, List.set_cons_zero, List.set_cons_succ]
              refine wpAnyH_take (i := 15) (oi := ⟨some 23, _, _, _, _, _⟩) (v := .string VA) rfl (by kernel_rfl) (by kernel_rfl) (by kernel_rfl) (fun _ _ _ h => h) (Or.inl ⟨by rfl, fun w hSw => by go_simp⟩) hS6 ?_
              try simp only [Act.put, List.setIfInBounds_toArray, List.set_cons_zero, List.set_cons_succ]
              refine wpAnyH_take (i := 16) (oi := ⟨some 24, _, _, _, _, _⟩) (v := .string VB) rfl (by kernel_rfl) (by kernel_rfl) (by kernel_rfl) (fun _ _ _ h => h) (Or.inl ⟨by rfl, fun w hSw => by go_simp⟩) hS6 ?_
              try simp only [Act.put, List.setIfInBounds_toArray, List.set_cons_zero, List.set_cons_succ]
              refine wpAnyH_done (by kernel_rfl) ?_ _
              have HBX := Lib.hid (B8.out.trans ((HBZ.out.trans (hS6.mono HBZ.out.size)).mono B8.out.size))
              have hsA := HSA.out
              have hsB := HSB.out
              have hxA := HXA.out
              have hxB := HXB.out
              clear hS5 hS6 hb hS k1 k2 k3 j5
              go_wp2_with fail
              go_quiet (fail)
              go_wp2_with fail
              go_ret
              exact ⟨rfl, below_drewN2 HBX.out _⟩
end Go.Proofs.YtggiinfeiilogaaDoor
