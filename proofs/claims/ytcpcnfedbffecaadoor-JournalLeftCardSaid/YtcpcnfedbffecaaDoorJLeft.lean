/- The walk of JournalLeft. -/
import Derived.Test.YtcpcnfedbffecaaDoorJnT
import Derived.Test.YtcpcnfedbffecaaDoorJOpens
import Derived.WalkMore
namespace Go.Proofs.YtcpcnfedbffecaaDoor
open Go.RowKit Go.Maps
set_option linter.unusedSimpArgs false
theorem make_zeros (W : World) (n : Nat) (hn : n ≤ 1000000) : (Instr.makeSlice 39 (.int .i64 (n : Int)) (.int .i64 (n : Int))).run Tryd.prog W = .ok (.slice (some ⟨W.heap.size, 0, none⟩) n n) (W.alloc (.cells (List.replicate n (Value.int .u8 0)).toArray 5)) :=
  run_make_n W 39 5 (.int .u8 0) 1 n n Tryd.underlying39 Tryd.infoByte rfl (Nat.le_refl _) (by omega) (by unfold maxLen; omega)
theorem BV.zerosAt (W : World) (n : Nat) (hn : n ≤ 1000000) : BV (W.alloc (.cells (List.replicate n (Value.int .u8 0)).toArray 5)) (· = W.heap.size) (.slice (some ⟨W.heap.size, 0, none⟩) n n) (List.replicate n 0) := by
  have h := BV.of_blk (l := List.replicate n (0 : UInt8)) (c := n) (Blk.new W (List.replicate n (.int .u8 0)) 5) (by rw [By_zero, List.length_replicate, List.take_of_length_le (by simp)]) (by simp) (by unfold maxLen; omega)
  rw [List.length_replicate] at h
  exact h
theorem Jn.flen_one (n : Nat) : Jn.flen [List.replicate n (0 : UInt8)] = 44 + n := by simp [Jn.flen, Jn.recs]; omega
section
variable {w : World} {t : JSt} {s : DSt} {b bd B E z q : Nat}
/-- A record of zeros appended. -/
theorem JD.appendZeros (h : JD B E w t s b bd) (hg : ∀ W, Below w.heap.size w W → Glob W) (ok : t.Ok s.dur.length) (n : Nat) (hn : n ≤ 1000000) (hn2 : n ≤ 100000) :
    Calls Tryd.prog 12 #[.pointer (some ⟨b, 0, none⟩), .slice (some ⟨w.heap.size, 0, none⟩) n n] (w.alloc (.cells (List.replicate n (Value.int .u8 0)).toArray 5)) (JDP B (w.alloc (.cells (List.replicate n (Value.int .u8 0)).toArray 5)) b bd (t.appErr s.size [List.replicate n 0]) (t.app s.size [List.replicate n 0]) s (t.appImg s.size [List.replicate n 0] s.look)) := by
  have hb1 : Below w.heap.size w (w.alloc (.cells (List.replicate n (Value.int .u8 0)).toArray 5)) := (Below.refl _ _).alloc (Nat.le_refl _) _
  refine (h.grow hb1).append (hg _ hb1) ok (BV.zerosAt w n hn) (fun k hk => by rw [show k = _ from hk]; simp) (fun k hk => .inr ?_) (by simp; omega)
  rw [show k = _ from hk]
  obtain ⟨FJ, FD, h1, h2, h3, h4, h5, h6, h7, h8, h9⟩ := h
  exact h8
set_option maxRecDepth 100000 in
set_option maxHeartbeats 8000000 in
theorem journalLeft_walk (w : World) (hg : Glob w) (size : Int) (_ : -9223372036854775808 ≤ size) (_ : size ≤ 9223372036854775807) (count : Int) (_ : -9223372036854775808 ≤ count) (_ : count ≤ 9223372036854775807) (lv : Value) (l : List Op17) (hl : OpsV17 w (fun k => k < w.heap.size) lv l) :
    Calls Tryd.prog 3 #[.int .i64 size, .int .i64 count, lv] w fun e w' => e = .returned (.bool true) ∧ Below w.heap.size w w' := by
  have HG : Hid (∀ W, Below w.heap.size w W → Glob W) := Lib.hid (fun W hW => hg.below hW hg.lt)
  have HAW := Lib.hid (awake_any w HG.out)
  have HL := Lib.hid hl
  obtain ⟨la, lc, rfl, lc1, lc2, hget⟩ := hl.get
  unfold maxLen at lc2
  have HGET := Lib.hid hget
  clear hg hl hget
  go_enter Tryd.func3, Tryd.ntmps3
  go_wp2_with fail
  refine (HAW.out).mono ?_
  rintro e w1 ⟨rfl, hb1⟩
  have HB1 := Lib.hid hb1
  have VS := Lib.hid (small17_any (size := size) (count := count) (HL.out.same (w' := w1) (fun k hk => hb1.block k hk)))
  clear hb1 HAW
  go_wp2_with fail
  refine (VS.out).mono ?_
  rintro e w' ⟨r, rfl, rfl, hr⟩
  clear VS
  cases r
  · go_wp2_with fail
    go_ret
    exact ⟨rfl, HB1.out⟩
  obtain ⟨r1, r2, r3, r4, r5, r6⟩ := hr rfl
  obtain ⟨z, rfl⟩ := Int.eq_ofNat_of_zero_le (by omega : 0 ≤ size)
  obtain ⟨n, rfl⟩ := Int.eq_ofNat_of_zero_le (by omega : 0 ≤ count)
  have HN : Hid (64 ≤ z ∧ z ≤ 100 ∧ 4 ≤ n ∧ n ≤ 24 ∧ l.length ≤ 30) := Lib.hid (by omega)
  have HFEW := Lib.hid r6
  have VN := Lib.hid (fun W => new_yes n z W (by have := HN.out; omega) (by have := HN.out; omega) (by have := HN.out; omega) (by have := HN.out; omega))
  clear hr r1 r2 r3 r4 r6
  go_wp2_with fail
  refine (VN.out w1).mono ?_
  rintro e w2 ⟨bd, rfl, hb2, hD2⟩
  have hlk : ∀ k, k < n → (DSt.new n z).look k = List.replicate z 0 := fun k hk => DSt.new_look n z k hk
  have DD2 : DD w1.heap.size w2.heap.size w2 (DSt.new n z) bd := ⟨_, fun k hk => hk, hD2, DSt.Calm.new n z, by simp [DSt.new], Nat.le_refl _, hb2.size⟩
  have hsz : (DSt.new n z).size = z := rfl
  have hln : (DSt.new n z).dur.length = n := by simp [DSt.new]
  obtain ⟨s0, hs0⟩ : ∃ s0, DSt.new n z = s0 := ⟨_, rfl⟩
  rw [hs0] at DD2 hlk hsz hln
  have hq2 := HN.out
  have B2 : Below w.heap.size w w2 := HB1.out.trans (hb2.mono HB1.out.size)
  have V := DD2.opens (first := 0) (n := n) (bs0 := []) (bs1 := []) (fun W hW => HG.out W (B2.trans (hW.mono B2.size))) (by omega) (by omega) (by omega) (Jn.Chain.zeros 0 (by omega) (by omega) (fun _ => by rw [hlk _ (by omega), hsz])) (Jn.Chain.zeros 1 (by omega) (by omega) (fun _ => by rw [hlk _ (by omega), hsz]))
  have HV := Lib.hid V
  have HS0 := Lib.hid (And.intro hsz hln)
  have HB2 := Lib.hid B2
  clear hb2 hD2 hlk DD2 hsz hln hs0 hq2 B2 V VN
  go_wp2_with fail
  refine (HV.out).mono ?_
  rintro e w3 ⟨jb, rfl, hb3, hJ3⟩
  have HB3 : Hid (Below w.heap.size w w3) := Lib.hid (HB2.out.trans (hb3.mono HB2.out.size))
  have HJ3 := Lib.hid hJ3
  have HINV3 := Lib.hid (Jn.Inv.start 0 n)
  rw [Nat.zero_add] at HINV3
  obtain ⟨t0, ht0⟩ : ∃ t0, openSt 0 n [] [] = t0 := ⟨_, rfl⟩
  rw [ht0] at HJ3 HINV3
  obtain ⟨rm, hrm⟩ : ∃ rm, n / 2 = rm := ⟨_, rfl⟩
  rw [hrm] at HINV3
  have HRM : Hid (2 ≤ rm ∧ rm + rm ≤ n) := Lib.hid (by have := HN.out; omega)
  clear hb3 hJ3 HV ht0 hrm
  go_wp2_with fail
  go_loopw [11] (fun i wr => ∃ (k : Nat) (t : JSt) (s : DSt), k ≤ l.length ∧ i = .int .i64 (k : Int) ∧ Below w.heap.size w wr ∧ JD w1.heap.size wr.heap.size wr t s jb bd ∧ Jn.Inv t 0 rm rm k ∧ s.size = z ∧ s.dur.length = n) (fun i _ => l.length - (intOf i).toNat)
  case atStart => exact ⟨0, t0, s0, Nat.zero_le _, rfl, HB3.out, HJ3.out, HINV3.out, HS0.out.1, HS0.out.2⟩
  case round =>
    obtain ⟨k, t, s, hk, rfl, hB, hJ, hI, hz, hn⟩ := hrel
    have HJ := Lib.hid hJ
    have HI := Lib.hid hI
    have HZ := Lib.hid (And.intro hz hn)
    have HB := Lib.hid hB
    clear hJ hI hz hn HJ3 HINV3 HB3
    by_cases hkl : k < l.length
    · obtain ⟨gb, go_, bv, ka, kn, kc, rfl, hgb, hlv, e0, e1, e2, e3⟩ := HGET.out k hkl
      obtain ⟨o, ho⟩ : ∃ o, l[k] = o := ⟨_, rfl⟩
      have hfw := HFEW.out k hkl
      rw [ho] at hlv e0 e2 hfw
      have c0 := (hB.cell (p := ⟨gb, go_ + k * 4, none⟩) hgb).trans e0
      have c1 := (hB.cell (p := ⟨gb, go_ + k * 4 + 1, none⟩) hgb).trans e1
      have c2 := (hB.cell (p := ⟨gb, go_ + k * 4 + 2, none⟩) hgb).trans e2
      have c3 := (hB.cell (p := ⟨gb, go_ + k * 4 + 3, none⟩) hgb).trans e3
      have ok : t.Ok s.dur.length := HI.out.ok (by rw [HZ.out.2]; have := HRM.out; omega) (by rw [HZ.out.2]; have := HRM.out; omega) (by have := HN.out; have := HRM.out; omega) (by omega)
      have VP := Lib.hid (HJ.out.play (ka := ka) (kn := kn) (kc := kc) (HG.out wr HB.out) ok (hlv.same (w' := wr) (fun k hk => hB.block k hk)) (fun k hk => Nat.lt_of_lt_of_le hk hB.size) (fun k hk => .inl (Nat.lt_of_lt_of_le hk HB1.out.size)) hfw)
      have HFW := Lib.hid hfw
      obtain ⟨xa, xc, rfl, -, -, -⟩ := hlv.get
      obtain ⟨kd, hkd⟩ : ∃ kd, o.kind = kd := ⟨_, rfl⟩
      obtain ⟨bl, hbl⟩ : ∃ bl, o.batch.length = bl := ⟨_, rfl⟩
      obtain ⟨on, hon⟩ : ∃ on, o.n = on := ⟨_, rfl⟩
      rw [hkd, hbl, hon] at VP
      rw [hkd] at c0
      rw [hbl] at c1
      rw [hon] at c2
      clear hlv e0 e1 e2 e3 hfw ok ho hkd hbl hon hB
      by_cases hk2 : kd ≤ 2
      · go_wp2_with fail
        refine (VP.out).mono ?_
        rintro e w5 ⟨rfl, hb5, s', tu, hJ5⟩
        have HB5 : Hid (Below w.heap.size w w5) := Lib.hid (HB.out.trans (hb5.mono HB1.out.size))
        have HJ5 := Lib.hid hJ5
        have HZ5 : Hid (s'.size = z ∧ s'.dur.length = n) := Lib.hid ⟨tu.size.trans HZ.out.1, tu.len.trans HZ.out.2⟩
        clear hb5 tu hJ5 VP c0 c1 c2 c3
        go_wp2_with fail
        exact ⟨⟨k + 1, _, s', by omega, by go_num, HB5.out, HJ5.out, HI.out.play HFW.out, HZ5.out.1, HZ5.out.2⟩, by simp [intOf]; omega⟩
      · clear VP
        go_wp2_with fail
        exact ⟨⟨k + 1, t, s, by omega, by go_num, HB.out, HJ.out, ⟨HI.out.eq0, HI.out.eq1, HI.out.eqr, HI.out.used, Nat.le_succ_of_le HI.out.epoch, by have := HI.out.recs; omega, HI.out.last, HI.out.size⟩, HZ.out.1, HZ.out.2⟩, by simp [intOf]; omega⟩
    · have hkk : k ≤ 30 := by omega
      have ok : t.Ok s.dur.length := HI.out.ok (by rw [HZ.out.2]; have := HRM.out; omega) (by rw [HZ.out.2]; have := HRM.out; omega) (by have := HN.out; have := HRM.out; omega) (by omega)
      have HOK := Lib.hid ok
      have VL := HJ.out.left (by have := ok.epoch; omega) ok.used ok.room
      clear ok hB
      by_cases hu : t.used = t.room
      · have hl1 : t.left s.size = -1 := by unfold JSt.left; rw [if_pos hu]
        rw [hl1] at VL
        have HVL := Lib.hid VL
        have VA := fun (W : World) (hW : Below wr.heap.size wr W) => (HJ.out.grow hW).appendZeros (fun W' hW' => HG.out W' (HB.out.trans ((hW.trans (hW'.mono hW.size)).mono HB.out.size))) HOK.out 0 (by omega) (by omega)
        have herr : t.appErr s.size [List.replicate 0 0] = 7 := by
          unfold JSt.appErr
          rw [if_neg (by simp), if_neg (fun hf => ?_)]
          have h1 := hf.2
          have h2 := (Jn.need_mul s.size (Jn.flen [List.replicate 0 (0 : UInt8)]) (by rw [HZ.out.1]; have := HN.out; omega)).1
          rw [hu, Nat.sub_self] at h1
          rw [Nat.le_zero.1 h1, Jn.flen_one] at h2
          omega
        rw [herr] at VA
        obtain ⟨Z, hZ⟩ : ∃ Z : Array Value, (List.replicate 0 (Value.int .u8 0)).toArray = Z := ⟨_, rfl⟩
        rw [hZ] at VA
        have HVA := Lib.hid VA
        have hmk : ∀ W : World, (Instr.makeSlice 39 (.int .i64 0) (.int .i64 0)).run Tryd.prog W = .ok (.slice (some ⟨W.heap.size, 0, none⟩) 0 0) (W.alloc (.cells Z 5)) := fun W => by rw [← hZ]; exact make_zeros W 0 (by omega)
        clear VL VA herr hl1 hu hZ
        go_wp2_with fail
        refine (HVL.out).mono ?_
        rintro e w6 ⟨rfl, k6, hw6⟩
        have hb6 : Below wr.heap.size wr w6 := by rw [hw6]; exact below_drewN wr k6
        have VA6 := Lib.hid (HVA.out w6 hb6)
        have HB6 : Hid (Below w.heap.size w w6) := Lib.hid (HB.out.trans (hb6.mono HB.out.size))
        clear hw6 hb6 HVL HVA
        go_wp2_with fail
        have HB6z : Hid (Below w.heap.size w (w6.alloc (.cells Z 5))) := Lib.hid (HB6.out.trans (((Below.refl w6.heap.size w6).alloc (Nat.le_refl _) _).mono HB6.out.size))
        refine (VA6.out).mono ?_
        rintro e w7 ⟨rfl, hb7, -⟩
        have HB7 : Hid (Below w.heap.size w w7) := Lib.hid (HB6z.out.trans (hb7.mono HB1.out.size))
        clear hb7 VA6
        go_wp2_with fail
        go_ret
        exact ⟨rfl, HB7.out⟩
      · obtain ⟨q, hq⟩ : ∃ q, t.room - t.used = q := ⟨_, rfl⟩
        obtain ⟨M, hM⟩ : ∃ M, q * z = M := ⟨_, rfl⟩
        have hqr := HI.out.used
        have hqe := HI.out.eqr
        have hN := HN.out
        have hRM := HRM.out
        have hq1 : 1 ≤ q ∧ q ≤ 24 := by omega
        have hM1 : 64 ≤ M ∧ M ≤ 2400 := by
          rw [← hM]
          have h1 : 1 * 64 ≤ q * z := Nat.mul_le_mul (by omega) (by omega)
          have h2 : q * z ≤ 24 * 100 := Nat.mul_le_mul (by omega) (by omega)
          omega
        obtain ⟨L, hL⟩ : ∃ L, M - 44 = L := ⟨_, rfl⟩
        obtain ⟨L1, hL1⟩ : ∃ L1, L + 1 = L1 := ⟨_, rfl⟩
        have hl1 : t.left s.size = (L : Int) := by
          unfold JSt.left
          rw [if_neg hu, hq, HZ.out.1, show (q : Int) * (z : Int) = (M : Int) from by rw [← hM]; simp]
          omega
        rw [hl1] at VL
        have HVL := Lib.hid VL
        have hnd := Jn.need_exact (z := z) (q := q) (by omega)
        rw [hM] at hnd
        have n0 : ¬ t.fits s.size [List.replicate L1 0] := fun hf => by
          have h1 := hf.2
          rw [Jn.flen_one, HZ.out.1, show 44 + L1 = M + 1 from by omega, hnd.2, hq] at h1
          omega
        have n1 : t.fits s.size [List.replicate L 0] := ⟨by simp, by
          rw [Jn.flen_one, HZ.out.1, show 44 + L = M from by omega, hnd.1, hq]
          omega⟩
        have e7 : t.appErr s.size [List.replicate L1 0] = 7 := by
          unfold JSt.appErr
          rw [if_neg (by simp), if_neg n0]
        have t7 : t.app s.size [List.replicate L1 0] = t := by unfold JSt.app; rw [if_neg n0]
        have e0 : ∀ sz, sz = s.size → t.appErr sz [List.replicate L 0] = 0 := fun sz hs => by
          subst hs
          unfold JSt.appErr
          rw [if_neg (by simp), if_pos n1]
        have l0 : ∀ sz, sz = s.size → (t.app sz [List.replicate L 0]).left sz = -1 := fun sz hs => by
          subst hs
          unfold JSt.app
          rw [if_pos n1]
          unfold JSt.left
          rw [if_pos]
          show t.used + Jn.need s.size (Jn.flen [List.replicate L 0]) = t.room
          rw [Jn.flen_one, HZ.out.1, show 44 + L = M from by omega, hnd.1]
          omega
        have hi' : Jn.Inv t 0 rm rm k := HI.out
        have ok2 : ∀ sz, (t.app sz [List.replicate L 0]).Ok n := fun sz => by
          have hx : (t.app sz [List.replicate L 0]).Ok n := by
            unfold JSt.app
            split
            · rename_i hf
              have h2 := hf.2
              have ok := HOK.out
              rw [HZ.out.2] at ok
              refine ⟨ok.r0, ok.r1, ?_, ok.room, ok.epoch, ?_, ?_⟩
              · show t.used + _ ≤ t.room
                omega
              · show (t.recs ++ _).length ≤ _
                have := HI.out.recs
                rw [List.length_append, List.length_singleton]; omega
              · show (Sha.sum _).length ≤ _
                rw [Jn.sum_len]; omega
            · have ok := HOK.out
              rw [HZ.out.2] at ok
              exact ok
          exact hx
        have VA := fun (W : World) (hW : Below wr.heap.size wr W) => (HJ.out.grow hW).appendZeros (fun W' hW' => HG.out W' (HB.out.trans ((hW.trans (hW'.mono hW.size)).mono HB.out.size))) HOK.out L1 (by omega) (by omega)
        rw [e7, t7] at VA
        obtain ⟨Z, hZ⟩ : ∃ Z : Array Value, (List.replicate L1 (Value.int .u8 0)).toArray = Z := ⟨_, rfl⟩
        rw [hZ] at VA
        have HVA := Lib.hid VA
        have hmk : ∀ W : World, (Instr.makeSlice 39 (.int .i64 (L1 : Int)) (.int .i64 (L1 : Int))).run Tryd.prog W = .ok (.slice (some ⟨W.heap.size, 0, none⟩) L1 L1) (W.alloc (.cells Z 5)) := fun W => by rw [← hZ]; exact make_zeros W L1 (by omega)
        have j1 : (L : Int) + 1 = (L1 : Int) := by omega
        have j2 : ¬ (L : Int) < -1 := by omega
        have j3 : ¬ (L : Int) < 0 := by omega
        have jw : IntKind.i64.wrap (L1 : Int) = (L1 : Int) := by rw [IntKind.wrap_i64]; omega
        have HE0 := Lib.hid e0
        have HL0 := Lib.hid l0
        have HOK2 := Lib.hid ok2
        have HLL : Hid (L ≤ 100000 ∧ L < 1000000) := Lib.hid (by omega)
        clear VL VA e7 t7 hl1 hu hZ hq hM hL hL1 hqr hqe hN hRM hq1 hM1 hnd n0 n1 e0 l0 hi' ok2
        go_wp2_with fail
        refine (HVL.out).mono ?_
        rintro e w6 ⟨rfl, k6, hw6⟩
        have hb6 : Below wr.heap.size wr w6 := by rw [hw6]; exact below_drewN wr k6
        have VA6 := Lib.hid (HVA.out w6 hb6)
        have HB6 : Hid (Below w.heap.size w w6) := Lib.hid (HB.out.trans (hb6.mono HB.out.size))
        clear hw6 hb6 HVL HVA
        go_wp2_with fail
        have HB6z : Hid (Below w.heap.size w (w6.alloc (.cells Z 5))) := Lib.hid (HB6.out.trans (((Below.refl w6.heap.size w6).alloc (Nat.le_refl _) _).mono HB6.out.size))
        refine (VA6.out).mono ?_
        rintro e w7 ⟨rfl, hb7, s7, tu7, hJ7⟩
        have HB7 : Hid (Below w.heap.size w w7) := Lib.hid (HB6z.out.trans (hb7.mono HB1.out.size))
        have VB := hJ7.appendZeros (fun W' hW' => HG.out W' (HB7.out.trans (hW'.mono HB7.out.size))) (by rw [tu7.len]; exact HOK.out) L (by have := HLL.out; omega) (by have := HLL.out; omega)
        rw [HE0.out _ tu7.size] at VB
        obtain ⟨Y, hY⟩ : ∃ Y : Array Value, (List.replicate L (Value.int .u8 0)).toArray = Y := ⟨_, rfl⟩
        rw [hY] at VB
        have HVB := Lib.hid VB
        have hmk2 : ∀ W : World, (Instr.makeSlice 39 (.int .i64 (L : Int)) (.int .i64 (L : Int))).run Tryd.prog W = .ok (.slice (some ⟨W.heap.size, 0, none⟩) L L) (W.alloc (.cells Y 5)) := fun W => by rw [← hY]; exact make_zeros W L (by have := HLL.out; omega)
        have HS7 : Hid (s7.size = s.size ∧ s7.dur.length = n) := Lib.hid ⟨tu7.size, tu7.len.trans HZ.out.2⟩
        clear hb7 tu7 hJ7 VA6 VB hY
        go_wp2_with fail
        have HB7z : Hid (Below w.heap.size w (w7.alloc (.cells Y 5))) := Lib.hid (HB7.out.trans (((Below.refl w7.heap.size w7).alloc (Nat.le_refl _) _).mono HB7.out.size))
        refine (HVB.out).mono ?_
        rintro e w8 ⟨rfl, hb8, s8, tu8, hJ8⟩
        have HB8 : Hid (Below w.heap.size w w8) := Lib.hid (HB7z.out.trans (hb8.mono HB1.out.size))
        have hok8 := HOK2.out s7.size
        have VL8 := hJ8.left (by have := hok8.epoch; omega) hok8.used hok8.room
        have hl8 : (t.app s7.size [List.replicate L 0]).left s8.size = -1 := by rw [tu8.size]; exact HL0.out _ HS7.out.1
        rw [hl8] at VL8
        have HVL8 := Lib.hid VL8
        have j4 : (-1 : Int) < (L : Int) := by omega
        clear hb8 tu8 hJ8 hok8 VL8 hl8 HVB
        go_wp2_with (go_at_call 11; refine (HVL8.out).mono ?_; rintro e w' ⟨rfl, k9, rfl⟩)
        go_ret
        exact ⟨rfl, HB8.out.trans ((below_drewN w8 k9).mono HB8.out.size)⟩
end
end Go.Proofs.YtcpcnfedbffecaaDoor
