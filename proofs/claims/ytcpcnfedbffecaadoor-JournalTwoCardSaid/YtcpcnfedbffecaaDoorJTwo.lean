/- The walk of JournalTwo. -/
import Derived.Test.YtcpcnfedbffecaaDoorJnU
import Derived.WalkMore
namespace Go.Proofs.YtcpcnfedbffecaaDoor
open Go.RowKit Go.Maps
set_option linter.unusedSimpArgs false
theorem Jn.Inv.step {t : JSt} {f0 f1 room i : Nat} (h : Jn.Inv t f0 f1 room i) : Jn.Inv t f0 f1 room (i + 1) :=
  ⟨h.eq0, h.eq1, h.eqr, h.used, Nat.le_succ_of_le h.epoch, by have := h.recs; omega, h.last, h.size⟩
section
set_option maxRecDepth 100000 in
set_option maxHeartbeats 16000000 in
theorem journalTwo_walk (w : World) (hg : Glob w) (size : Int) (_ : -9223372036854775808 ≤ size) (_ : size ≤ 9223372036854775807) (count : Int) (_ : -9223372036854775808 ≤ count) (_ : count ≤ 9223372036854775807) (lv : Value) (l : List Op17) (hl : OpsV17 w (fun k => k < w.heap.size) lv l) :
    Calls Tryd.prog 4 #[.int .i64 size, .int .i64 count, lv] w fun e w' => e = .returned (.bool true) ∧ Below w.heap.size w w' := by
  have HG : Hid (∀ W, Below w.heap.size w W → Glob W) := Lib.hid (fun W hW => hg.below hW hg.lt)
  have HAW := Lib.hid (awake_any w HG.out)
  have HL := Lib.hid hl
  obtain ⟨la, lc, rfl, lc1, lc2, hget⟩ := hl.get
  unfold maxLen at lc2
  have HGET := Lib.hid hget
  clear hg hl hget
  go_enter Tryd.func4, Tryd.ntmps4
  go_wp2_with fail
  refine (HAW.out).mono ?_
  rintro e w1 ⟨rfl, hb1⟩
  have HB1 := Lib.hid hb1
  have VS := Lib.hid (small17_any (size := size) (count := count) (HL.out.same (w' := w1) (fun k hk => hb1.block k hk)))
  clear hb1 HAW
  go_wp2_with fail
  refine (VS.out).mono ?_
  rintro e w' ⟨r, rfl, rfl, hr⟩
  clear VS
  cases r
  · go_wp2_with fail
    go_ret
    exact ⟨rfl, HB1.out⟩
  obtain ⟨r1, r2, r3, r4, r5, r6⟩ := hr rfl
  obtain ⟨z, rfl⟩ := Int.eq_ofNat_of_zero_le (by omega : 0 ≤ size)
  obtain ⟨n, rfl⟩ := Int.eq_ofNat_of_zero_le (by omega : 0 ≤ count)
  obtain ⟨nn, hnn⟩ : ∃ nn, 2 * n = nn := ⟨_, rfl⟩
  have HN : Hid (64 ≤ z ∧ z ≤ 100 ∧ 4 ≤ n ∧ n ≤ 24 ∧ l.length ≤ 30 ∧ nn = 2 * n) := Lib.hid (by omega)
  have m1 : (2 : Int) * (n : Int) = (nn : Int) := by omega
  have mw : IntKind.i64.wrap (nn : Int) = (nn : Int) := by rw [IntKind.wrap_i64]; omega
  have HFEW := Lib.hid r6
  have VN := Lib.hid (fun W => new_yes nn z W (by have := HN.out; omega) (by have := HN.out; omega) (by have := HN.out; omega) (by have := HN.out; omega))
  have VN2 := Lib.hid (fun W => new_yes n z W (by have := HN.out; omega) (by have := HN.out; omega) (by have := HN.out; omega) (by have := HN.out; omega))
  clear hr r1 r2 r3 r4 r6 hnn
  go_wp2_with fail
  refine (VN.out w1).mono ?_
  rintro e w2 ⟨bd, rfl, hb2, hD2⟩
  have HB2 : Hid (Below w.heap.size w w2) := Lib.hid (HB1.out.trans (hb2.mono HB1.out.size))
  have HD2 := Lib.hid hD2
  have HLT2 := Lib.hid hb2.size
  clear hb2 hD2 VN m1 mw
  go_wp2_with fail
  refine (VN2.out w2).mono ?_
  rintro e w3 ⟨be, rfl, hb3, hD3⟩
  have HB3 : Hid (Below w.heap.size w w3) := Lib.hid (HB2.out.trans (hb3.mono HB2.out.size))
  have HD3 := Lib.hid hD3
  have HD23 := Lib.hid (HD2.out.below hb3)
  have HLT3 := Lib.hid hb3.size
  have hlk2 : ∀ k, k < nn → (DSt.new nn z).look k = List.replicate z 0 := fun k hk => DSt.new_look nn z k hk
  have hlk3 : ∀ k, k < n → (DSt.new n z).look k = List.replicate z 0 := fun k hk => DSt.new_look n z k hk
  have hs2 : (DSt.new nn z).size = z ∧ (DSt.new nn z).dur.length = nn ∧ (DSt.new nn z).Calm ∧ (DSt.new nn z).pend.length ≤ 1000 := ⟨rfl, by simp [DSt.new], DSt.Calm.new nn z, by simp [DSt.new]⟩
  have hs3 : (DSt.new n z).size = z ∧ (DSt.new n z).dur.length = n ∧ (DSt.new n z).Calm ∧ (DSt.new n z).pend.length ≤ 1000 := ⟨rfl, by simp [DSt.new], DSt.Calm.new n z, by simp [DSt.new]⟩
  obtain ⟨s0, hs0⟩ : ∃ s0, DSt.new nn z = s0 := ⟨_, rfl⟩
  obtain ⟨e0, he0⟩ : ∃ e0, DSt.new n z = e0 := ⟨_, rfl⟩
  rw [hs0] at hlk2 hs2 HD23
  rw [he0] at hlk3 hs3 HD3
  have HS2 := Lib.hid hs2
  have HS3 := Lib.hid hs3
  have HK2 := Lib.hid hlk2
  have HK3 := Lib.hid hlk3
  have VA := Lib.hid (open_any (first := 0) (n := n) (bs0 := []) (bs1 := []) HD23.out hs2.2.2.1 (fun W hW => HG.out W (HB3.out.trans (hW.mono HB3.out.size))) (by have := HN.out; omega) (by have := HN.out; omega) (by have := HN.out; omega) (Jn.Chain.zeros 0 (by have := HN.out; omega) (by have := HN.out; omega) (fun _ => by rw [hlk2 _ (by have := HN.out; omega), hs2.1])) (Jn.Chain.zeros 1 (by have := HN.out; omega) (by have := HN.out; omega) (fun _ => by rw [hlk2 _ (by have := HN.out; omega), hs2.1])))
  clear hb3 hD3 HD2 VN2 hlk2 hlk3 hs2 hs3 hs0 he0
  go_wp2_with fail
  refine (VA.out).mono ?_
  rintro e w4 ⟨ja, rfl, hb4, hJA⟩
  have HB4 : Hid (Below w.heap.size w w4) := Lib.hid (HB3.out.trans (hb4.mono HB3.out.size))
  have HJA := Lib.hid hJA
  have HD4 := Lib.hid (HD23.out.below hb4)
  have HE4 := Lib.hid (HD3.out.below hb4)
  have HLT4 := Lib.hid hb4.size
  have VB := Lib.hid (open_any (first := n) (n := n) (bs0 := []) (bs1 := []) HD4.out HS2.out.2.2.1 (fun W hW => HG.out W (HB4.out.trans (hW.mono HB4.out.size))) (by have := HN.out; have := HS2.out.1; omega) (by have := HN.out; omega) (by have := HN.out; have := HS2.out.2.1; omega) (Jn.Chain.zeros 0 (by have := HN.out; have := HS2.out.1; omega) (by have := HN.out; have := HS2.out.1; omega) (fun _ => by rw [HK2.out _ (by have := HN.out; omega), HS2.out.1])) (Jn.Chain.zeros 1 (by have := HN.out; have := HS2.out.1; omega) (by have := HN.out; have := HS2.out.1; omega) (fun _ => by rw [HK2.out _ (by have := HN.out; omega), HS2.out.1])))
  clear hb4 hJA HD23 HD3 VA
  go_wp2_with fail
  refine (VB.out).mono ?_
  rintro e w5 ⟨jb, rfl, hb5, hJB⟩
  have HB5 : Hid (Below w.heap.size w w5) := Lib.hid (HB4.out.trans (hb5.mono HB4.out.size))
  have HJB := Lib.hid hJB
  have HJA5 := Lib.hid (HJA.out.below hb5)
  have HD5 := Lib.hid (HD4.out.below hb5)
  have HE5 := Lib.hid (HE4.out.below hb5)
  have HLT5 := Lib.hid hb5.size
  have VC := Lib.hid (open_any (first := 0) (n := n) (bs0 := []) (bs1 := []) HE5.out HS3.out.2.2.1 (fun W hW => HG.out W (HB5.out.trans (hW.mono HB5.out.size))) (by have := HN.out; have := HS3.out.1; omega) (by have := HN.out; omega) (by have := HN.out; have := HS3.out.2.1; omega) (Jn.Chain.zeros 0 (by have := HN.out; have := HS3.out.1; omega) (by have := HN.out; have := HS3.out.1; omega) (fun _ => by rw [HK3.out _ (by have := HN.out; omega), HS3.out.1])) (Jn.Chain.zeros 1 (by have := HN.out; have := HS3.out.1; omega) (by have := HN.out; have := HS3.out.1; omega) (fun _ => by rw [HK3.out _ (by have := HN.out; omega), HS3.out.1])))
  clear hb5 hJB HJA HD4 HE4 VB
  go_wp2_with fail
  refine (VC.out).mono ?_
  rintro e w6 ⟨jc, rfl, hb6, hJC⟩
  have HB6 : Hid (Below w.heap.size w w6) := Lib.hid (HB5.out.trans (hb6.mono HB5.out.size))
  have hT : TJ w1.heap.size w6 (fun i k => match i with
      | 0 => w3.heap.size ≤ k ∧ k < w4.heap.size
      | 1 => w4.heap.size ≤ k ∧ k < w5.heap.size
      | 2 => w5.heap.size ≤ k ∧ k < w6.heap.size
      | 3 => w1.heap.size ≤ k ∧ k < w2.heap.size
      | 4 => w2.heap.size ≤ k ∧ k < w3.heap.size
      | _ => False) (openSt 0 n [] []) (openSt n n [] []) (openSt 0 n [] []) s0 e0 ja jb jc bd be := by
    have l2 := HLT2.out
    have l3 := HLT3.out
    have l4 := HLT4.out
    have l5 := HLT5.out
    have l6 := hb6.size
    refine ⟨⟨fun i k hk => ?_, fun i j hij k hk hf => ?_, fun i k hk => ?_, by omega⟩, HD5.out.below hb6, HE5.out.below hb6, HS2.out.2.2.1, HS3.out.2.2.1, HS2.out.2.2.2, HS3.out.2.2.2, HJA5.out.below hb6, HJB.out.below hb6, hJC⟩
    · rcases i with _ | _ | _ | _ | _ | i <;> simp only at hk <;> omega
    · rcases i with _ | _ | _ | _ | _ | i <;> simp only at hk <;> rcases j with _ | _ | _ | _ | _ | j <;> simp only at hf <;> omega
    · rcases i with _ | _ | _ | _ | _ | i <;> simp only at hk <;> omega
  obtain ⟨F0, hF0⟩ : ∃ F0 : Nat → Nat → Prop, (fun i k => match i with
      | 0 => w3.heap.size ≤ k ∧ k < w4.heap.size
      | 1 => w4.heap.size ≤ k ∧ k < w5.heap.size
      | 2 => w5.heap.size ≤ k ∧ k < w6.heap.size
      | 3 => w1.heap.size ≤ k ∧ k < w2.heap.size
      | 4 => w2.heap.size ≤ k ∧ k < w3.heap.size
      | _ => False) = F0 := ⟨_, rfl⟩
  rw [hF0] at hT
  have HIA := Lib.hid (Jn.Inv.start 0 n)
  have HIB := Lib.hid (Jn.Inv.start n n)
  rw [Nat.zero_add] at HIA
  obtain ⟨t0, ht0⟩ : ∃ t0, openSt 0 n [] [] = t0 := ⟨_, rfl⟩
  obtain ⟨u0, hu0⟩ : ∃ u0, openSt n n [] [] = u0 := ⟨_, rfl⟩
  obtain ⟨rm, hrm⟩ : ∃ rm, n / 2 = rm := ⟨_, rfl⟩
  rw [ht0, hrm] at HIA
  rw [hu0, hrm] at HIB
  rw [ht0, hu0] at hT
  have HT6 := Lib.hid hT
  have HRM : Hid (2 ≤ rm ∧ rm + rm ≤ n) := Lib.hid (by have := HN.out; omega)
  clear hb6 hJC hT hF0 ht0 hu0 hrm HJB HJA5 HD5 HE5 VC HK2 HK3 HLT2 HLT3 HLT4 HLT5
  go_wp2_with fail
  go_loopw [17] (fun i wr => ∃ (k : Nat) (F : Nat → Nat → Prop) (t u : JSt) (s e : DSt), k ≤ l.length ∧ i = .int .i64 (k : Int) ∧ Below w.heap.size w wr ∧ TJ w1.heap.size wr F t u t s e ja jb jc bd be ∧ Jn.Inv t 0 rm rm k ∧ Jn.Inv u n (n + rm) rm k ∧ s.size = z ∧ s.dur.length = nn ∧ e.size = z ∧ e.dur.length = n) (fun i _ => l.length - (intOf i).toNat)
  case atStart => exact ⟨0, F0, t0, u0, s0, e0, Nat.zero_le _, rfl, HB6.out, HT6.out, HIA.out, HIB.out, HS2.out.1, HS2.out.2.1, HS3.out.1, HS3.out.2.1⟩
  case round =>
    obtain ⟨k, F, t, u, s, e, hk, rfl, hB, hT, hI, hU, hz⟩ := hrel
    have HT := Lib.hid hT
    have HIT := Lib.hid hI
    have HIU := Lib.hid hU
    have HZ := Lib.hid hz
    have HB := Lib.hid hB
    clear hT hI hU hz HIA HIB HT6 HB6
    by_cases hkl : k < l.length
    · obtain ⟨gb, go_, bv, ka, kn, kc, rfl, hgb, hlv, e0, e1, e2, e3⟩ := HGET.out k hkl
      obtain ⟨o, ho⟩ : ∃ o, l[k] = o := ⟨_, rfl⟩
      have hfw := HFEW.out k hkl
      rw [ho] at hlv e0 e2 hfw
      have HLV := Lib.hid hlv
      have HFW := Lib.hid hfw
      have PA : Hid (∀ (W : World) (F' : Nat → Nat → Prop) (ta tb tc : JSt) (s e : DSt), Below w.heap.size w W → TJ w1.heap.size W F' ta tb tc s e ja jb jc bd be → ta.Ok s.dur.length → s.size = z → Calls Tryd.prog 10 #[.pointer (some ⟨ja, 0, none⟩), .agg #[.int .i64 o.kind, bv, .int .i64 o.n, .slice ka kn kc]] W (TJP w1.heap.size W (ta.playErr z o) s e fun w' F' s' e' => TJ w1.heap.size w' F' (ta.play z o) tb tc s' e' ja jb jc bd be)) :=
        Lib.hid (fun W F' ta tb tc s e hW h ok hz => h.playA (HG.out W hW) ok hz (HLV.out.same (w' := W) (fun k hk => hW.block k hk)) (fun k hk => Nat.lt_of_lt_of_le hk hW.size) (fun k hk => Nat.lt_of_lt_of_le hk HB1.out.size) HFW.out)
      have PB : Hid (∀ (W : World) (F' : Nat → Nat → Prop) (ta tb tc : JSt) (s e : DSt), Below w.heap.size w W → TJ w1.heap.size W F' ta tb tc s e ja jb jc bd be → tb.Ok s.dur.length → s.size = z → Calls Tryd.prog 10 #[.pointer (some ⟨jb, 0, none⟩), .agg #[.int .i64 o.kind, bv, .int .i64 o.n, .slice ka kn kc]] W (TJP w1.heap.size W (tb.playErr z o) s e fun w' F' s' e' => TJ w1.heap.size w' F' ta (tb.play z o) tc s' e' ja jb jc bd be)) :=
        Lib.hid (fun W F' ta tb tc s e hW h ok hz => h.playB (HG.out W hW) ok hz (HLV.out.same (w' := W) (fun k hk => hW.block k hk)) (fun k hk => Nat.lt_of_lt_of_le hk hW.size) (fun k hk => Nat.lt_of_lt_of_le hk HB1.out.size) HFW.out)
      have PC : Hid (∀ (W : World) (F' : Nat → Nat → Prop) (ta tb tc : JSt) (s e : DSt), Below w.heap.size w W → TJ w1.heap.size W F' ta tb tc s e ja jb jc bd be → tc.Ok e.dur.length → e.size = z → Calls Tryd.prog 10 #[.pointer (some ⟨jc, 0, none⟩), .agg #[.int .i64 o.kind, bv, .int .i64 o.n, .slice ka kn kc]] W (TJP w1.heap.size W (tc.playErr z o) s e fun w' F' s' e' => TJ w1.heap.size w' F' ta tb (tc.play z o) s' e' ja jb jc bd be)) :=
        Lib.hid (fun W F' ta tb tc s e hW h ok hz => h.playC (HG.out W hW) ok hz (HLV.out.same (w' := W) (fun k hk => hW.block k hk)) (fun k hk => Nat.lt_of_lt_of_le hk hW.size) (fun k hk => Nat.lt_of_lt_of_le hk HB1.out.size) HFW.out)
      obtain ⟨xa, xc, rfl, -, -, -⟩ := hlv.get
      obtain ⟨kd, hkd⟩ : ∃ kd, o.kind = kd := ⟨_, rfl⟩
      obtain ⟨bl, hbl⟩ : ∃ bl, o.batch.length = bl := ⟨_, rfl⟩
      obtain ⟨on, hon⟩ : ∃ on, o.n = on := ⟨_, rfl⟩
      rw [hkd, hbl, hon] at PA PB PC
      rw [hkd] at e0
      rw [hbl] at e1
      rw [hon] at e2
      have HCL : Hid (∀ W : World, Below w.heap.size w W → W.cell? ⟨gb, go_ + k * 4, none⟩ = some (.int .i64 kd) ∧ W.cell? ⟨gb, go_ + k * 4 + 1, none⟩ = some (.slice xa bl xc) ∧ W.cell? ⟨gb, go_ + k * 4 + 2, none⟩ = some (.int .i64 on) ∧ W.cell? ⟨gb, go_ + k * 4 + 3, none⟩ = some (.slice ka kn kc)) := Lib.hid (fun W hW => ⟨(hW.cell (p := ⟨gb, go_ + k * 4, none⟩) hgb).trans e0, (hW.cell (p := ⟨gb, go_ + k * 4 + 1, none⟩) hgb).trans e1, (hW.cell (p := ⟨gb, go_ + k * 4 + 2, none⟩) hgb).trans e2, (hW.cell (p := ⟨gb, go_ + k * 4 + 3, none⟩) hgb).trans e3⟩)
      have HOKA : Hid (t.Ok s.dur.length) := Lib.hid (HIT.out.ok (by rw [HZ.out.2.1]; have := HRM.out; have := HN.out; omega) (by rw [HZ.out.2.1]; have := HRM.out; have := HN.out; omega) (by have := HN.out; have := HRM.out; omega) (by omega))
      have HOKB : Hid (u.Ok s.dur.length) := Lib.hid (HIU.out.ok (by rw [HZ.out.2.1]; have := HRM.out; have := HN.out; omega) (by rw [HZ.out.2.1]; have := HRM.out; have := HN.out; omega) (by have := HN.out; have := HRM.out; omega) (by omega))
      have HOKC : Hid (t.Ok e.dur.length) := Lib.hid (HIT.out.ok (by rw [HZ.out.2.2.2]; have := HRM.out; have := HN.out; omega) (by rw [HZ.out.2.2.2]; have := HRM.out; have := HN.out; omega) (by have := HN.out; have := HRM.out; omega) (by omega))
      clear hlv hfw ho hkd hbl hon hB e0 e1 e2 e3
      obtain ⟨c0, c1, c2, c3⟩ := HCL.out wr HB.out
      by_cases hk2 : 2 < kd
      · go_wp2_with fail
        exact ⟨⟨k + 1, F, t, u, s, e, by omega, by go_num, HB.out, HT.out, HIT.out.step, HIU.out.step, HZ.out⟩, by simp [intOf]; omega⟩
      · have htm : ((k : Int)).tmod 3 = ((k % 3 : Nat) : Int) := by rw [Int.tmod_eq_emod_of_nonneg (by omega)]; rfl
        obtain ⟨km, hkm⟩ : ∃ km, k % 3 = km := ⟨_, rfl⟩
        rw [hkm] at htm
        clear hkm
        by_cases hm : km = 0
        · subst hm
          go_wp2_with fail
          refine (PB.out wr _ _ _ _ _ _ HB.out HT.out HOKB.out HZ.out.1).mono ?_
          rintro en w7 ⟨rfl, hb7, F7, s7, e7, hz7, hT7⟩
          have HB7 : Hid (Below w.heap.size w w7) := Lib.hid (HB.out.trans (hb7.mono HB1.out.size))
          have HT7 := Lib.hid hT7
          have HZ7 : Hid (s7.size = z ∧ s7.dur.length = nn ∧ e7.size = z ∧ e7.dur.length = n) := Lib.hid ⟨hz7.1.trans HZ.out.1, hz7.2.1.trans HZ.out.2.1, hz7.2.2.1.trans HZ.out.2.2.1, hz7.2.2.2.trans HZ.out.2.2.2⟩
          clear hb7 hT7 hz7 c0 c1 c2 c3
          go_wp2_with fail
          exact ⟨⟨k + 1, F7, t, _, s7, e7, by omega, by go_num, HB7.out, HT7.out, HIT.out.step, HIU.out.play HFW.out, HZ7.out⟩, by simp [intOf]; omega⟩
        · have hm2 : (km : Int) ≠ 0 := by omega
          go_wp2_with fail
          have HS18 := Lib.hid (HCL.out wr.drew (HB.out.drew))
          have HBD : Hid (Below w.heap.size w wr.drew) := Lib.hid HB.out.drew
          have hee : (t.playErr z o != t.playErr z o) = false := bne_self_eq_false _
          clear c0 c1 c2 c3
          refine wp_region_held_drew (S := (fun w' => w'.cell? ⟨gb, go_ + k * 4, none⟩ = some (.int .i64 kd) ∧ w'.cell? ⟨gb, go_ + k * 4 + 1, none⟩ = some (.slice xa bl xc) ∧ w'.cell? ⟨gb, go_ + k * 4 + 2, none⟩ = some (.int .i64 on) ∧ w'.cell? ⟨gb, go_ + k * 4 + 3, none⟩ = some (.slice ka kn kc))) (by kernel_rfl) HS18.out (fun hS => ?_)
          refine wpAnyH_take (i := 0) (oi := ⟨some 91, _, _, _, _, _⟩) (v := .pointer (some ⟨ja, 0, none⟩)) rfl (by kernel_rfl) (by kernel_rfl) (by kernel_rfl) (fun _ _ _ h => h) (Or.inl ⟨by rfl, fun w hSw => by obtain ⟨s0, s1, s2, s3⟩ := hSw; go_simp⟩) hS ?_
          try simp only [Act.put, List.setIfInBounds_toArray, List.set_cons_zero, List.set_cons_succ]
          refine wpAnyH_take (i := 1) (oi := ⟨some 92, _, _, _, _, _⟩) (v := .slice (some ⟨gb, go_, none⟩) l.length lc) rfl (by kernel_rfl) (by kernel_rfl) (by kernel_rfl) (fun _ _ _ h => h) (Or.inl ⟨by rfl, fun w hSw => by obtain ⟨s0, s1, s2, s3⟩ := hSw; go_simp⟩) hS ?_
          try simp only [Act.put, List.setIfInBounds_toArray, List.set_cons_zero, List.set_cons_succ]
          refine wpAnyH_take (i := 2) (oi := ⟨some 93, _, _, _, _, _⟩) (v := .int .i64 (k : Int)) rfl (by kernel_rfl) (by kernel_rfl) (by kernel_rfl) (fun _ _ _ h => h) (Or.inl ⟨by rfl, fun w hSw => by obtain ⟨s0, s1, s2, s3⟩ := hSw; go_simp⟩) hS ?_
          try simp only [Act.put, List.setIfInBounds_toArray, List.set_cons_zero, List.set_cons_succ]
          refine wpAnyH_take (i := 3) (oi := ⟨some 94, _, _, _, _, _⟩) (v := .pointer (some ⟨gb, go_ + k * 4, none⟩)) rfl (by kernel_rfl) (by kernel_rfl) (by kernel_rfl) (fun _ _ _ h => h) (Or.inl ⟨by rfl, fun w hSw => by obtain ⟨s0, s1, s2, s3⟩ := hSw; go_simp⟩) hS ?_
          try simp only [Act.put, List.setIfInBounds_toArray, List.set_cons_zero, List.set_cons_succ]
          refine wpAnyH_take (i := 4) (oi := ⟨some 95, _, _, _, _, _⟩) (v := .agg #[.int .i64 kd, .slice xa bl xc, .int .i64 on, .slice ka kn kc]) rfl (by kernel_rfl) (by kernel_rfl) (by kernel_rfl) (fun _ _ _ h => h) (Or.inl ⟨by rfl, fun w hSw => by obtain ⟨s0, s1, s2, s3⟩ := hSw; go_simp⟩) hS ?_
          try simp only [Act.put, List.setIfInBounds_toArray, List.set_cons_zero, List.set_cons_succ]
          refine wpAnyH_take (i := 6) (oi := ⟨some 97, _, _, _, _, _⟩) (v := .pointer (some ⟨jc, 0, none⟩)) rfl (by kernel_rfl) (by kernel_rfl) (by kernel_rfl) (fun _ _ _ h => h) (Or.inl ⟨by rfl, fun w hSw => by obtain ⟨s0, s1, s2, s3⟩ := hSw; go_simp⟩) hS ?_
          try simp only [Act.put, List.setIfInBounds_toArray, List.set_cons_zero, List.set_cons_succ]
          refine wpAnyH_take (i := 7) (oi := ⟨some 98, _, _, _, _, _⟩) (v := .slice (some ⟨gb, go_, none⟩) l.length lc) rfl (by kernel_rfl) (by kernel_rfl) (by kernel_rfl) (fun _ _ _ h => h) (Or.inl ⟨by rfl, fun w hSw => by obtain ⟨s0, s1, s2, s3⟩ := hSw; go_simp⟩) hS ?_
          try simp only [Act.put, List.setIfInBounds_toArray, List.set_cons_zero, List.set_cons_succ]
          refine wpAnyH_take (i := 8) (oi := ⟨some 99, _, _, _, _, _⟩) (v := .int .i64 (k : Int)) rfl (by kernel_rfl) (by kernel_rfl) (by kernel_rfl) (fun _ _ _ h => h) (Or.inl ⟨by rfl, fun w hSw => by obtain ⟨s0, s1, s2, s3⟩ := hSw; go_simp⟩) hS ?_
          try simp only [Act.put, List.setIfInBounds_toArray, List.set_cons_zero, List.set_cons_succ]
          refine wpAnyH_take (i := 9) (oi := ⟨some 100, _, _, _, _, _⟩) (v := .pointer (some ⟨gb, go_ + k * 4, none⟩)) rfl (by kernel_rfl) (by kernel_rfl) (by kernel_rfl) (fun _ _ _ h => h) (Or.inl ⟨by rfl, fun w hSw => by obtain ⟨s0, s1, s2, s3⟩ := hSw; go_simp⟩) hS ?_
          try simp only [Act.put, List.setIfInBounds_toArray, List.set_cons_zero, List.set_cons_succ]
          refine wpAnyH_take (i := 10) (oi := ⟨some 101, _, _, _, _, _⟩) (v := .agg #[.int .i64 kd, .slice xa bl xc, .int .i64 on, .slice ka kn kc]) rfl (by kernel_rfl) (by kernel_rfl) (by kernel_rfl) (fun _ _ _ h => h) (Or.inl ⟨by rfl, fun w hSw => by obtain ⟨s0, s1, s2, s3⟩ := hSw; go_simp⟩) hS ?_
          try simp only [Act.put, List.setIfInBounds_toArray, List.set_cons_zero, List.set_cons_succ]
          refine wpAnyH_ready (rs := [5]) (by kernel_rfl) (by simp) ?_
          refine AllReadyH.cons (o := ⟨some 96, _, _, _, _, _⟩) rfl (fun K hK => ?_) AllReadyH.nil
          go_simp
          refine (PA.out wr.drew _ _ _ _ _ _ HBD.out (HT.out.grow (Below.refl _ _).drew) HOKA.out HZ.out.1).mono ?_
          rintro en w5 ⟨rfl, hb5, F5, s5, e5, hz5, hT5⟩
          have HB5 : Hid (Below w.heap.size w w5) := Lib.hid (HBD.out.trans (hb5.mono HB1.out.size))
          refine hK.out _ _ (HCL.out w5 HB5.out) (fun _ => ?_)
          clear hK K
          try simp only [Act.put, List.setIfInBounds_toArray, List.set_cons_zero, List.set_cons_succ]
          refine wpAnyH_ready (rs := [11]) (by kernel_rfl) (by simp) ?_
          refine AllReadyH.cons (o := ⟨some 102, _, _, _, _, _⟩) rfl (fun K hK => ?_) AllReadyH.nil
          go_simp
          refine (PC.out w5 _ _ _ _ _ _ HB5.out hT5 (by rw [hz5.2.2.2]; exact HOKC.out) (hz5.2.2.1.trans HZ.out.2.2.1)).mono ?_
          rintro en w6 ⟨rfl, hb6, F6, s6, e6, hz6, hT6⟩
          have HB6 : Hid (Below w.heap.size w w6) := Lib.hid (HB5.out.trans (hb6.mono HB1.out.size))
          refine hK.out _ _ (HCL.out w6 HB6.out) (fun _ => ?_)
          clear hK K
          try simp only [Act.put, List.setIfInBounds_toArray, List.set_cons_zero, List.set_cons_succ]
          refine wpAnyH_take (i := 12) (oi := ⟨some 103, _, _, _, _, _⟩) (v := .bool false) rfl (by kernel_rfl) (by kernel_rfl) (by kernel_rfl) (fun _ _ _ h => h) (Or.inl ⟨by rfl, fun w hSw => by obtain ⟨s0, s1, s2, s3⟩ := hSw; go_simp⟩) (HCL.out w6 HB6.out) ?_
          try simp only [Act.put, List.setIfInBounds_toArray, List.set_cons_zero, List.set_cons_succ]
          refine wpAnyH_done (by kernel_rfl) ?_ _
          have HT6 := Lib.hid hT6
          have HZ6 : Hid (s6.size = z ∧ s6.dur.length = nn ∧ e6.size = z ∧ e6.dur.length = n) := Lib.hid ⟨hz6.1.trans (hz5.1.trans HZ.out.1), hz6.2.1.trans (hz5.2.1.trans HZ.out.2.1), hz6.2.2.1.trans (hz5.2.2.1.trans HZ.out.2.2.1), hz6.2.2.2.trans (hz5.2.2.2.trans HZ.out.2.2.2)⟩
          clear hb5 hb6 hz5 hz6 hT5 hT6
          go_wp2_with fail
          exact ⟨⟨k + 1, F6, _, _, s6, e6, by omega, by go_num, HB6.out, HT6.out, HIT.out.play HFW.out, HIU.out.step, HZ6.out⟩, by simp [intOf]; omega⟩
    · have hkk : k ≤ 30 := by omega
      have hes : t.epoch < 1000000000 := by have := HIT.out.epoch; omega
      have hrl : t.recs.length ≤ 100000 := by have := HIT.out.recs; omega
      have hrs : ∀ r ∈ t.recs, r.length ≤ 1000000 := fun r hr => by have := HIT.out.size r hr; omega
      have hus : t.used ≤ t.room := by rw [HIT.out.eqr]; exact HIT.out.used
      have hrm : t.room ≤ 65536 := by rw [HIT.out.eqr]; have := HRM.out; have := HN.out; omega
      have HTS := Lib.hid (And.intro hes (And.intro hrl (And.intro hrs (And.intro hus hrm))))
      have VA := Lib.hid (records_any HT.out.hA hes hrl hrs)
      clear hes hrl hrs hus hrm hB
      go_wp2_with fail
      refine (VA.out).mono ?_
      rintro en w7 ⟨rx, rfl, hb7, hRx⟩
      have HB7 : Hid (Below wr.heap.size wr w7) := Lib.hid hb7
      have VC := Lib.hid (records_any (HT.out.hC.below hb7) HTS.out.1 HTS.out.2.1 HTS.out.2.2.1)
      have HRX := Lib.hid hRx
      clear hb7 hRx VA
      go_wp2_with fail
      refine (VC.out).mono ?_
      rintro en w8 ⟨ry, rfl, hb8, hRy⟩
      have HX8 := Lib.hid (HRX.out.below (fun k hk => hk.2) hb8)
      have HY8 := Lib.hid hRy
      have B8 : Below wr.heap.size wr w8 := HB7.out.trans (hb8.mono HB7.out.size)
      have HB8 := Lib.hid B8
      have HI7 := Lib.hid hb8.size
      obtain ⟨ax, cx, rfl, x1, x2, hgx⟩ := HX8.out.lv.get
      obtain ⟨ay, cy, rfl, y1, y2, hgy⟩ := HY8.out.lv.get
      unfold maxLen at x2 y2
      have HGX := Lib.hid hgx
      have HGY := Lib.hid hgy
      have VLA : Hid (∀ W, Below w8.heap.size w8 W → Calls Tryd.prog 11 #[.pointer (some ⟨ja, 0, none⟩)] W fun e w' => e = .returned (.int .i64 (t.left z)) ∧ ∃ k, w' = W.drewN k) := Lib.hid (fun W hW => by
        have h := left_any (HT.out.hA.below (B8.trans (hW.mono B8.size))) (HT.out.hD.below (B8.trans (hW.mono B8.size))) HTS.out.1 HTS.out.2.2.2.1 HTS.out.2.2.2.2
        rw [HZ.out.1] at h
        exact h)
      have VLC : Hid (∀ W, Below w8.heap.size w8 W → Calls Tryd.prog 11 #[.pointer (some ⟨jc, 0, none⟩)] W fun e w' => e = .returned (.int .i64 (t.left z)) ∧ ∃ k, w' = W.drewN k) := Lib.hid (fun W hW => by
        have h := left_any (HT.out.hC.below (B8.trans (hW.mono B8.size))) (HT.out.hE.below (B8.trans (hW.mono B8.size))) HTS.out.1 HTS.out.2.2.2.1 HTS.out.2.2.2.2
        rw [HZ.out.2.2.1] at h
        exact h)
      have VEA := Lib.hid (fun (W : World) (hW : Below w8.heap.size w8 W) => epoch_any (HT.out.hA.below (B8.trans (hW.mono B8.size))))
      have VEC := Lib.hid (fun (W : World) (hW : Below w8.heap.size w8 W) => epoch_any (HT.out.hC.below (B8.trans (hW.mono B8.size))))
      obtain ⟨N, hN⟩ : ∃ N, t.recs.length = N := ⟨_, rfl⟩
      obtain ⟨Lz, hLz⟩ : ∃ Lz, t.left z = Lz := ⟨_, rfl⟩
      obtain ⟨ep, hep⟩ : ∃ ep, t.epoch = ep := ⟨_, rfl⟩
      rw [hN] at x1 y1 ⊢
      rw [hLz] at VLA VLC
      rw [hep] at VEA VEC
      have HNN := Lib.hid hN
      have hl : (Lz != Lz) = false := bne_self_eq_false _
      have hp : ((ep : Int) != (ep : Int)) = false := bne_self_eq_false _
      have hn' : ((N : Int) != (N : Int)) = false := bne_self_eq_false _
      clear hb8 hRy B8 hgx hgy hN hLz hep VC
      go_wp2_with fail
      refine (VLA.out w8 (Below.refl _ _)).mono ?_
      rintro en w9 ⟨rfl, k9, hw9⟩
      have HB9 : Hid (Below w8.heap.size w8 w9) := Lib.hid (by rw [hw9]; exact below_drewN w8 k9)
      clear hw9 VLA
      go_wp2_with fail
      refine (VLC.out w9 HB9.out).mono ?_
      rintro en w10 ⟨rfl, k10, hw10⟩
      have HB10 : Hid (Below w8.heap.size w8 w10) := Lib.hid (HB9.out.trans (by rw [hw10]; exact (below_drewN w9 k10).mono HB9.out.size))
      clear hw10 VLC
      go_wp2_with fail
      refine (VEA.out w10 HB10.out).mono ?_
      rintro en w11 ⟨rfl, rfl⟩
      clear VEA
      go_wp2_with fail
      refine (VEC.out w10 HB10.out).mono ?_
      rintro en w11 ⟨rfl, rfl⟩
      clear VEC
      go_wp2_with fail
      go_loopw [20] (fun i w2 => ∃ q : Nat, q ≤ N ∧ i = .int .i64 (q : Int) ∧ Below w8.heap.size w8 w2) (fun i _ => N - (intOf i).toNat)
      case atStart => exact ⟨0, Nat.zero_le _, rfl, HB10.out⟩
      case round =>
        obtain ⟨q, hq, rfl, hb12⟩ := hrel
        have HB12 := Lib.hid hb12
        by_cases hqn : q < N
        · have hqt : q < t.recs.length := by rw [HNN.out]; exact hqn
          obtain ⟨gx, ox, vx, rfl, fx, ex, bx⟩ := HGX.out q hqt
          obtain ⟨gy, oy, vy, rfl, fy, ey, by_⟩ := HGY.out q hqt
          have cx' := (hb12.cell (p := ⟨gx, ox + q, none⟩) (Nat.lt_of_lt_of_le fx.2 HI7.out)).trans ex
          have cy' := (hb12.cell (p := ⟨gy, oy + q, none⟩) fy.2).trans ey
          obtain ⟨R, hR⟩ : ∃ R, t.recs[q] = R := ⟨_, rfl⟩
          rw [hR] at bx by_
          obtain ⟨xa, xc, rfl, -, -, -⟩ := bx.get
          obtain ⟨ya, yc, rfl, -, -, -⟩ := by_.get
          obtain ⟨bs, hbs⟩ : ∃ bs : ByteArray, (⟨R.toArray⟩ : ByteArray) = bs := ⟨_, rfl⟩
          have vx' : ∀ m, (convert 39 9 (.slice xa R.length xc)).run Tryd.prog (wr.drewN m) = .ok (.string bs) (wr.drewN m) := fun m => by rw [← hbs]; exact (bx.grow (hb12.trans ((below_drewN wr m).mono hb12.size))).convS
          have vy' : ∀ m, (convert 39 9 (.slice ya R.length yc)).run Tryd.prog (wr.drewN m) = .ok (.string bs) (wr.drewN m) := fun m => by rw [← hbs]; exact (by_.grow (hb12.trans ((below_drewN wr m).mono hb12.size))).convS
          have hbb : (bs.toList != bs.toList) = false := bne_self_eq_false _
          clear fx ex bx fy ey by_ hb12 hbs hR hqt
          go_wp2_with fail
          go_quiet (fail)
          go_wp2_with fail
          exact ⟨⟨q + 1, by omega, by go_num, HB12.out.trans ((below_drewN wr nq).mono HB12.out.size)⟩, by simp [intOf]; omega⟩
        · clear hb12
          go_wp2_with fail
          go_ret
          exact ⟨rfl, HB.out.trans ((HB8.out.trans (HB12.out.mono HB8.out.size)).mono HB.out.size)⟩
end
end Go.Proofs.YtcpcnfedbffecaaDoor
