/- The walk of FrameInverts. -/
import Derived.Test.YthanbihdkjmeoaaDoorFrK
namespace Go.Proofs.YthanbihdkjmeoaaDoor
open Go.RowKit
set_option maxRecDepth 100000 in
set_option maxHeartbeats 4000000 in
theorem frameInverts_walk (w : World) (hg : Glob w) (k : Int) (_ : -9223372036854775808 ≤ k) (_ : k ≤ 9223372036854775807) (bv : Value) (l : List UInt8) (hb : BV w (fun k => k < w.heap.size) bv l) (most : Int) (_ : -9223372036854775808 ≤ most) (_ : most ≤ 9223372036854775807) :
    Calls Tryd.prog 13 #[.int .i64 k, bv, .int .i64 most] w fun e w' => e = .returned (.bool true) ∧ Below w.heap.size w w' := by
  obtain ⟨ba, bc, rfl, bc1, bc2, _⟩ := hb.get
  unfold maxLen at bc2
  have HG := Lib.hid hg
  have HBV := Lib.hid hb
  clear hg hb
  by_cases hin : 20000 < l.length ∨ k < 0 ∨ 255 < k ∨ most < 2 ∨ 65536 < most
  · have hcs : (20000 : Int) < (l.length : Int) ∨ (¬ (20000 : Int) < (l.length : Int) ∧ k < 0) ∨ (¬ (20000 : Int) < (l.length : Int) ∧ ¬ k < 0 ∧ 255 < k) ∨ (¬ (20000 : Int) < (l.length : Int) ∧ ¬ k < 0 ∧ ¬ 255 < k ∧ most < 2) ∨ (¬ (20000 : Int) < (l.length : Int) ∧ ¬ k < 0 ∧ ¬ 255 < k ∧ ¬ most < 2 ∧ 65536 < most) := by omega
    clear hin
    rcases hcs with i1 | ⟨i1, i2⟩ | ⟨i1, i2, i3⟩ | ⟨i1, i2, i3, i4⟩ | ⟨i1, i2, i3, i4, i5⟩
    all_goals
      go_enter Tryd.func13, Tryd.ntmps13
      go_wp2_with fail
      refine (awake37_any w HG.out).mono ?_
      rintro e w1 ⟨rfl, hb1⟩
      have B1 := Lib.hid hb1; clear hb1
      go_wp2_with fail
      go_ret
      exact ⟨rfl, B1.out⟩
  have i1 : ¬ (20000 : Int) < (l.length : Int) := by omega
  have i2 : ¬ k < 0 := by omega
  have i3 : ¬ 255 < k := by omega
  have i4 : ¬ most < 2 := by omega
  have i5 : ¬ 65536 < most := by omega
  obtain ⟨s, hs⟩ : ∃ s : Nat, most = (s : Int) + 1 := ⟨(most - 1).toNat, by omega⟩
  have HS : Hid (1 ≤ s ∧ s ≤ 65535 ∧ l.length ≤ 20000) := Lib.hid (by omega)
  have HM : Hid (most = (s : Int) + 1) := Lib.hid hs
  have HMS : Hid ((most - 1).toNat = s) := Lib.hid (by omega)
  have HK : Hid (0 ≤ k ∧ k ≤ 255) := Lib.hid (by omega)
  clear hin hs
  go_enter Tryd.func13, Tryd.ntmps13
  go_wp2_with fail
  refine (awake37_any w HG.out).mono ?_
  rintro e w1 ⟨rfl, hb1⟩
  have B1 := Lib.hid hb1; clear hb1
  go_wp2_with fail
  refine (split_any (HBV.out.same (w' := w1) (fun k hk => B1.out.block k hk)) (fun k hk => Nat.lt_of_lt_of_le hk B1.out.size) k most).mono ?_
  rintro e w2 ⟨hb2, hsp⟩
  have B2 := Lib.hid (B1.out.trans (hb2.mono B1.out.size)); clear hb2
  rw [if_neg (by have := HK.out; omega)] at hsp
  obtain ⟨nn, hnn⟩ : ∃ nn, (l.length + s - 1) / s = nn := ⟨_, rfl⟩
  have hdiv : ((l.length : Int) + most - 2).tdiv (most - 1) = (nn : Int) := by
    rw [← hnn]
    have e1 : (l.length : Int) + most - 2 = ((l.length + s - 1 : Nat) : Int) := by have := HS.out; have := HM.out; omega
    have e2 : most - 1 = (s : Int) := by have := HM.out; omega
    rw [e1, e2]
    rfl
  by_cases hbig : (most - 1) * 4096 < (l.length : Int)
  · rw [if_pos hbig] at hsp
    subst hsp
    have hlen := Fr.split_few k (s := s) (by have := HS.out; omega) l
    rw [Fr.split_length k (by have := HS.out; omega), hnn] at hlen
    have hnb : 4096 < nn := by
      have h3 : ¬ l.length ≤ s * 4096 := by have := HM.out; omega
      have := mt hlen.1 h3
      omega
    have inb : (4096 : Int) < (nn : Int) := by omega
    have ibig : nn ≤ 70000 := by
      rw [← hnn]
      have := HS.out
      exact Nat.le_trans (Nat.div_le_self _ _) (by omega)
    clear hbig hlen hnb hnn
    go_wp2_with fail
    go_ret
    exact ⟨rfl, B2.out⟩
  · rw [if_neg hbig] at hsp
    obtain ⟨sv, rfl, hM2⟩ := hsp
    rw [HMS.out] at hM2
    obtain ⟨P, hP⟩ : ∃ P, Fr.split k s l = P := ⟨_, rfl⟩
    have hs0 : 0 < s := by have := HS.out; omega
    have hle : l.length ≤ s * 4096 := by have := HM.out; omega
    obtain ⟨hja, hjb, hjm⟩ := Fr.split_join HK.out.1 HK.out.2 hs0 (by have := HS.out; omega) l hle
    have hpl : P.length = max 1 nn := by rw [← hP, Fr.split_length k hs0, hnn]
    have hp4 : P.length ≤ 4096 := by rw [← hP]; exact (Fr.split_few k hs0 l).2 hle
    have HSZ : Hid (∀ j, (h : j < P.length) → P[j].2.length ≤ s + 1) := Lib.hid (fun j hj => by
      have : P[j] ∈ Fr.split k s l := by rw [hP]; exact List.getElem_mem _
      unfold Fr.split at this
      obtain ⟨p, hp, he⟩ := List.mem_map.1 this
      rw [← he]
      exact (Fr.parts_size hs0 l p hp).2)
    rw [hP] at hM2 hja hjb hjm
    obtain ⟨sa, sc, rfl, hs1, hs2⟩ := hM2.shape
    unfold maxLen at hs2
    have M2 := Lib.hid hM2.msv
    have HJA := Lib.hid hja
    have HJB := Lib.hid hjb
    have HJM := Lib.hid hjm
    obtain ⟨pl, hpl2⟩ : ∃ pl, P.length = pl := ⟨_, rfl⟩
    rw [hpl2] at hpl hp4 hs1 ⊢
    have HPL := Lib.hid hpl2
    have hI : MsV w2 (fun k => k < w2.heap.size) (.slice sa pl sc) P := by rw [← hpl2]; exact M2.out.mono (fun k hk => hk.2)
    have MI := Lib.hid hI
    have hcase : (nn = 0 ∧ pl = 1) ∨ (1 ≤ nn ∧ pl = nn) := by omega
    clear hbig hnn hP hle hja hjb hjm hM2 hpl hpl2 hI
    rcases hcase with ⟨rfl, rfl⟩ | ⟨hn1, rfl⟩
    · skip
      go_wp2_with fail
      refine (join_any MI.out (fun k hk => hk)).mono ?_
      rintro e w3 ⟨hb3, hyes, _⟩
      obtain ⟨m0, hm0, jv, rfl, hN3⟩ := hyes HJA.out
      obtain ⟨m1, hm1, hmk⟩ := HJM.out
      have hmm : m0.1 = k := by rw [Option.mem_def] at hm0 hm1; rw [hm0] at hm1; rw [Option.some.inj hm1]; exact hmk
      rw [HJB.out] at hN3
      obtain ⟨ja, jc, rfl, _, _, _, _⟩ := hN3.2.1.form
      have B3 := Lib.hid (B2.out.trans (hb3.mono B2.out.size))
      have HC1 := Lib.hid hN3.bvs.convS
      have HC2 := Lib.hid (HBV.out.same (w' := w3) (fun k hk => B3.out.block k hk)).convS
      have M3 : Hid (MsV w3 (fun k => k < w2.heap.size) (.slice sa _ sc) P) := Lib.hid (MI.out.grow hb3)
      rw [hmm]
      clear hb3 hyes hm0 hm1 hmk hN3 hmm
      have BP3 := B3.out
      go_wp2_with fail
      go_loopw [13] (fun s13 wz => ∃ j : Nat, j ≤ 1 ∧ s13 = .int .i64 (j : Int) ∧ wz = w3) (fun s13 _ => 1 - (intOf s13).toNat)
      case atStart => exact ⟨0, by omega, rfl, rfl⟩
      case round =>
        obtain ⟨j, hj, rfl, rfl⟩ := hrel
        by_cases hjl : j < 1
        · have ij : (j : Int) < (1 : Int) := by omega
          obtain ⟨_, _, e1, _, _, hget⟩ := M3.out.get
          rw [HPL.out] at e1
          obtain ⟨rfl, rfl⟩ : _ ∧ _ := by simpa using e1
          obtain ⟨gb, go, gx, rfl, _, g0, g1, gbv⟩ := hget j (by rw [HPL.out]; exact hjl)
          have hsz := HSZ.out j (by rw [HPL.out]; exact hjl)
          obtain ⟨m, hm⟩ : ∃ m, P[j]'(by rw [HPL.out]; exact hjl) = m := ⟨_, rfl⟩
          rw [hm] at gbv hsz
          obtain ⟨gxa, gxc, rfl, _⟩ := gbv.get
          have isz : ¬ most < (m.2.length : Int) := by have := HM.out; omega
          clear hget e1 gbv hm g0 hsz
          go_wp2_with fail
          go_roundw
          case rel => exact ⟨j + 1, by omega, by go_num, trivial⟩
          case measure => simp [intOf]; omega
        · have ij : ¬ (j : Int) < (1 : Int) := by omega
          have hc1 := HC1.out
          have hc2 := HC2.out
          go_wp2_with fail
          go_ret
          exact ⟨rfl, BP3⟩
    · have hmx : (if (1 : Int) < (pl : Int) then (pl : Int) else 1) = (pl : Int) := by split <;> omega
      have in4 : ¬ (4096 : Int) < (pl : Int) := by omega
      go_wp2_with fail
      refine (join_any MI.out (fun k hk => hk)).mono ?_
      rintro e w3 ⟨hb3, hyes, _⟩
      obtain ⟨m0, hm0, jv, rfl, hN3⟩ := hyes HJA.out
      obtain ⟨m1, hm1, hmk⟩ := HJM.out
      have hmm : m0.1 = k := by rw [Option.mem_def] at hm0 hm1; rw [hm0] at hm1; rw [Option.some.inj hm1]; exact hmk
      rw [HJB.out] at hN3
      obtain ⟨ja, jc, rfl, _, _, _, _⟩ := hN3.2.1.form
      have B3 := Lib.hid (B2.out.trans (hb3.mono B2.out.size))
      have HC1 := Lib.hid hN3.bvs.convS
      have HC2 := Lib.hid (HBV.out.same (w' := w3) (fun k hk => B3.out.block k hk)).convS
      have M3 : Hid (MsV w3 (fun k => k < w2.heap.size) (.slice sa _ sc) P) := Lib.hid (MI.out.grow hb3)
      rw [hmm]
      clear hb3 hyes hm0 hm1 hmk hN3 hmm
      have BP3 := B3.out
      go_wp2_with fail
      go_loopw [13] (fun s13 wz => ∃ j : Nat, j ≤ pl ∧ s13 = .int .i64 (j : Int) ∧ wz = w3) (fun s13 _ => pl - (intOf s13).toNat)
      case atStart => exact ⟨0, by omega, rfl, rfl⟩
      case round =>
        obtain ⟨j, hj, rfl, rfl⟩ := hrel
        by_cases hjl : j < pl
        · have ij : (j : Int) < (pl : Int) := by omega
          obtain ⟨_, _, e1, _, _, hget⟩ := M3.out.get
          rw [HPL.out] at e1
          obtain ⟨rfl, rfl⟩ : _ ∧ _ := by simpa using e1
          obtain ⟨gb, go, gx, rfl, _, g0, g1, gbv⟩ := hget j (by rw [HPL.out]; exact hjl)
          have hsz := HSZ.out j (by rw [HPL.out]; exact hjl)
          obtain ⟨m, hm⟩ : ∃ m, P[j]'(by rw [HPL.out]; exact hjl) = m := ⟨_, rfl⟩
          rw [hm] at gbv hsz
          obtain ⟨gxa, gxc, rfl, _⟩ := gbv.get
          have isz : ¬ most < (m.2.length : Int) := by have := HM.out; omega
          clear hget e1 gbv hm g0 hsz
          go_wp2_with fail
          go_roundw
          case rel => exact ⟨j + 1, by omega, by go_num, trivial⟩
          case measure => simp [intOf]; omega
        · have ij : ¬ (j : Int) < (pl : Int) := by omega
          have hc1 := HC1.out
          have hc2 := HC2.out
          go_wp2_with fail
          go_ret
          exact ⟨rfl, BP3⟩
end Go.Proofs.YthanbihdkjmeoaaDoor
