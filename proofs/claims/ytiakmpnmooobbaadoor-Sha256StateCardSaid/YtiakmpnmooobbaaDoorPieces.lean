/- The walk of Sha256Pieces. -/
import Derived.Test.YtiakmpnmooobbaaDoorShaG
namespace Go.Proofs.YtiakmpnmooobbaaDoor
open Go.RowKit
section
variable {w : World} {b : Nat} {l : List UInt8} {rest : List Value} {T : TypeId} {F : Nat → Prop}
set_option maxHeartbeats 400000 in
theorem shalen_any (h : ShaIs w b l rest T) : Calls Tryd.prog 23 #[.pointer (some ⟨b, 0, none⟩)] w fun e w' => e = .returned (.int .i64 (l.length : Int)) ∧ w = w' := by
  obtain ⟨v, buf, h64, hv, ht, hB⟩ := h
  have c72 := sha_cell72 hB h64
  clear hB hv ht
  go_enter Tryd.func23, Tryd.ntmps23
  go_wp2_with fail
  go_ret
  exact ⟨rfl, rfl⟩
theorem BV.cut {a : Option Addr} {n c i j : Nat} (h : BV w F (.slice a n c) l) (hij : i ≤ j) (hj : j ≤ n) : (c = i → BV w F (.slice a (j - i) 0) ((l.take j).drop i)) ∧ (c ≠ i → BV w F (.slice (Option.map (fun x => x.add i) a) (j - i) (c - i)) ((l.take j).drop i)) := by
  obtain ⟨a', c', e, h1, h2, h3, h4⟩ := h
  injection e with e1 e2 e3
  subst e1; subst e2; subst e3
  have hl : ((l.take j).drop i).length = j - i := by simp; omega
  refine ⟨fun hc => ?_, fun hc => ?_⟩
  · have h0 : j - i = 0 := by omega
    exact ⟨a, 0, by rw [hl], by omega, by unfold maxLen; omega, fun _ => rfl, fun hp => by omega⟩
  · refine ⟨_, c - i, by rw [hl], by omega, by omega, fun e => ?_, fun hp => ?_⟩
    · have : a = none := by cases a <;> simp_all
      have := h3 this; omega
    · obtain ⟨b, o, rfl, hb, hcc⟩ := h4 (by omega)
      refine ⟨b, o + i, by simp [Addr.add], hb, fun k hk => ?_⟩
      have := hcc (i + k) (by omega)
      rw [show o + i + k = o + (i + k) from by omega, this]
      simp
end
set_option maxRecDepth 100000 in
set_option maxHeartbeats 2000000 in
theorem sha256Pieces_walk (w : World) (hg : Glob w) (xv : Value) (x : List UInt8) (hx : BV w (fun k => k < w.heap.size) xv x) (cv : Value) (cuts : List Int) (hc : IntsV w (fun k => k < w.heap.size) cv cuts) :
    Calls Tryd.prog 8 #[xv, cv] w fun e w' => e = .returned (.bool true) ∧ Below w.heap.size w w' := by
  obtain ⟨xa, xc, rfl, xc1, xc2, _⟩ := hx.get
  obtain ⟨ca, cc, rfl, cc1, cc2, _⟩ := SV.get hc
  unfold maxLen at xc2 cc2
  have HG := Lib.hid hg; clear hg
  have HX := Lib.hid hx; clear hx
  have HC := Lib.hid hc; clear hc
  by_cases hlen : 1000 < x.length
  · have il : (1000 : Int) < (x.length : Int) := by omega
    go_enter Tryd.func8, Tryd.ntmps8
    go_wp2_with fail
    refine (awake_any w HG.out).mono ?_
    rintro e w1 ⟨rfl, hb1⟩
    have B1 := Lib.hid hb1; clear hb1
    go_wp2_with fail
    refine (awake_any w1 (HG.out.below B1.out HG.out.lt)).mono ?_
    rintro e w2 ⟨rfl, hb2⟩
    go_wp2_with fail
    go_ret
    exact ⟨rfl, B1.out.trans (hb2.mono B1.out.size)⟩
  have il : (x.length : Int) ≤ 1000 := by omega
  by_cases hcl : 20 < cuts.length
  · have il2 : (20 : Int) < (cuts.length : Int) := by omega
    go_enter Tryd.func8, Tryd.ntmps8
    go_wp2_with fail
    refine (awake_any w HG.out).mono ?_
    rintro e w1 ⟨rfl, hb1⟩
    have B1 := Lib.hid hb1; clear hb1
    go_wp2_with fail
    refine (awake_any w1 (HG.out.below B1.out HG.out.lt)).mono ?_
    rintro e w2 ⟨rfl, hb2⟩
    go_wp2_with fail
    go_ret
    exact ⟨rfl, B1.out.trans (hb2.mono B1.out.size)⟩
  have il2 : (cuts.length : Int) ≤ 20 := by omega
  clear hlen hcl
  go_enter Tryd.func8, Tryd.ntmps8
  go_wp2_with fail
  refine (awake_any w HG.out).mono ?_
  rintro e w1 ⟨rfl, hb1⟩
  have B1 := Lib.hid hb1; clear hb1
  go_wp2_with fail
  refine (shanew_any (HG.out.below B1.out HG.out.lt)).mono ?_
  rintro e w2 ⟨b, rfl, hbw, hb2, hS2⟩
  have Hb : Hid (w.heap.size ≤ b) := by have := B1.out.size; show w.heap.size ≤ b; omega
  have B2 := Lib.hid (B1.out.trans (hb2.mono B1.out.size))
  have S2 : Hid (ShaIs w2 b (x.take 0) [] 56) := hS2
  clear hbw hb2 hS2 B1
  go_wp2_with fail
  go_loopw [6, 7] (fun sa i wr => ∃ k at_ : Nat, k ≤ cuts.length ∧ at_ ≤ x.length ∧ i = .int .i64 (k : Int) ∧ sa = .int .i64 (at_ : Int) ∧ Below w.heap.size w wr ∧ ShaIs wr b (x.take at_) [] 56) (fun _ i _ => cuts.length - (intOf i).toNat)
  case atStart => exact ⟨0, 0, by omega, by omega, rfl, rfl, B2.out, S2.out⟩
  case round =>
    obtain ⟨k, p, hk, hp, rfl, rfl, hbe, hS⟩ := hrel
    clear B2 S2
    have hXr := HX.out.same (w' := wr) (fun y hy => hbe.block y hy)
    have ip : (p : Int) ≤ (x.length : Int) := by omega
    have HXr := Lib.hid hXr
    have HBE := Lib.hid hbe
    have HS := Lib.hid hS
    have hFf : ∀ y, y < w.heap.size → y ≠ b ∧ y < wr.heap.size := fun y hy => ⟨by have := Hb.out; omega, by have := hbe.size; omega⟩
    have HF := Lib.hid hFf
    have hGr := HG.out.below hbe HG.out.lt
    have HGr := Lib.hid hGr
    clear hXr hbe hS hFf hGr
    by_cases hlt : k < cuts.length
    · have ik : (k : Int) < (cuts.length : Int) := by omega
      obtain ⟨_, _, e1, _, _, hget⟩ := SV.get (SV.same HC.out (fun y hy => HBE.out.block y hy))
      obtain ⟨rfl, rfl⟩ : _ ∧ _ := by simpa using e1
      obtain ⟨pb, po, rfl, hpb, pc⟩ := hget k hlt
      obtain ⟨z, hz⟩ : ∃ z, cuts[k] = z := ⟨_, rfl⟩
      rw [hz] at pc
      clear hget e1 hz
      by_cases hz1 : (p : Int) ≤ z
      · by_cases hz2 : z ≤ (x.length : Int)
        · obtain ⟨q, rfl⟩ := Int.eq_ofNat_of_zero_le (show 0 ≤ z by omega)
          have hpq : p ≤ q := by omega
          have hqx : q ≤ x.length := by omega
          have hcut := HXr.out.cut hpq hqx
          have Hcut := Lib.hid hcut
          have htk : x.take p ++ (x.take q).drop p = x.take q := by
            have := List.take_append_drop p (x.take q)
            rwa [List.take_take, Nat.min_eq_left hpq] at this
          have Htk := Lib.hid htk
          have hdl : ((x.take q).drop p).length = q - p := by simp; omega
          have Hdl := Lib.hid hdl
          have hpc : (p : Int) ≤ (xc : Int) := by omega
          have hqc : (q : Int) ≤ (xc : Int) := by omega
          clear hcut htk hdl
          have hcs : p = xc ∨ ¬ xc = p := by omega
          rcases hcs with rfl | hne
          rotate_left
          have Hbv := Lib.hid (Hcut.out.2 hne)
          rotate_left
          have Hbv := Lib.hid (Hcut.out.1 rfl)
          all_goals
            go_wp2_with fail
            refine (shawrite_any HS.out Hbv.out HF.out HGr.out (by have := Hb.out; have := HG.out.lt; omega) (by have := Hdl.out; simp only [List.length_take]; omega)).mono ?_
            rintro e w3 ⟨rfl, hst, hS3⟩
            rw [Htk.out] at hS3
            have B3 := Lib.hid (HBE.out.trans (hst.below (B := w.heap.size) (fun y hy => by have := Hb.out; omega) HBE.out.size))
            have S3 := Lib.hid hS3
            have pc3 := (hst.below (B := b) (fun y hy => by omega) (by obtain ⟨_, _, _, _, _, hh⟩ := HS.out; exact Nat.le_of_lt hh.lt)).cell (p := ⟨pb, po + k, none⟩) (by have := Hb.out; show pb < b; omega)
            rw [pc] at pc3
            clear hst hS3 Hbv pc
            go_wp2_with fail
            go_roundw
            case rel => exact ⟨k + 1, q, by omega, hqx, by go_num, rfl, B3.out, S3.out⟩
            case measure => simp [intOf]; omega
        · have hz2' : (x.length : Int) < z := by omega
          go_wp2_with fail
          go_roundw
          case rel => exact ⟨k + 1, p, by omega, by omega, by go_num, rfl, HBE.out, HS.out⟩
          case measure => simp [intOf]; omega
      · have hz1' : z < (p : Int) := by omega
        go_wp2_with fail
        go_roundw
        case rel => exact ⟨k + 1, p, by omega, by omega, by go_num, rfl, HBE.out, HS.out⟩
        case measure => simp [intOf]; omega
    · have e8 : k = cuts.length := by omega
      have hcut := HXr.out.cut hp (Nat.le_refl _)
      rw [List.take_length] at hcut
      have Hcut := Lib.hid hcut
      have htk : x.take p ++ x.drop p = x := List.take_append_drop p x
      have Htk := Lib.hid htk
      have hpc : (p : Int) ≤ (xc : Int) := by omega
      have e9 : (k : Int) = (cuts.length : Int) := by omega
      rw [e9]
      clear hcut htk e8 e9 hk hlt
      have hcs : p = xc ∨ ¬ xc = p := by omega
      rcases hcs with rfl | hne
      rotate_left
      have Hbv := Lib.hid (Hcut.out.2 hne)
      rotate_left
      have hb1 := Hcut.out.1 rfl
      rw [show x.length - p = 0 from by omega] at hb1
      have Hbv := Lib.hid hb1
      clear hb1
      all_goals
        go_wp2_with fail
        refine (shawrite_any HS.out Hbv.out HF.out HGr.out (by have := Hb.out; have := HG.out.lt; omega) (by simp only [List.length_take, List.length_drop]; omega)).mono ?_
        rintro e w3 ⟨rfl, hst, hS3⟩
        rw [Htk.out] at hS3
        have B3 := Lib.hid (HBE.out.trans (hst.below (B := w.heap.size) (fun y hy => by have := Hb.out; omega) HBE.out.size))
        have S3 := Lib.hid hS3
        clear hst hS3 Hbv
        go_wp2_with fail
        refine (shasum_any S3.out (HG.out.below B3.out HG.out.lt) (by omega)).mono ?_
        rintro e w4 ⟨rfl, hb4⟩
        have B4 := Lib.hid (B3.out.trans (hb4.mono B3.out.size))
        have S4 := Lib.hid (S3.out.of_same (hb4.block b (by obtain ⟨_, _, _, _, _, hh⟩ := S3.out; exact hh.lt)))
        obtain ⟨v, hv⟩ : ∃ v : ByteArray, (⟨(Sha.sum x).toArray⟩ : ByteArray) = v := ⟨_, rfl⟩
        rw [hv]
        have Hv := Lib.hid hv
        clear hb4 B3 S3 hv
        go_wp2_with fail
        refine (shaof_any ((HX.out.same (fun y hy => B4.out.block y hy)).mono (fun y hy => Nat.lt_of_lt_of_le hy B4.out.size)) (HG.out.below B4.out HG.out.lt) (by omega)).mono ?_
        rintro e w5 ⟨rfl, hb5⟩
        rw [Hv.out]
        have B5 := Lib.hid (B4.out.trans (hb5.mono B4.out.size))
        have S5 := Lib.hid (S4.out.of_same (hb5.block b (by obtain ⟨_, _, _, _, _, hh⟩ := S4.out; exact hh.lt)))
        clear hb5 B4 S4
        go_wp2_with fail
        refine (shalen_any S5.out).mono ?_
        rintro e w6 ⟨rfl, rfl⟩
        go_wp2_with fail
        go_ret
        exact ⟨rfl, B5.out⟩
end Go.Proofs.YtiakmpnmooobbaaDoor
