/- Contracts of the reference's Fail, Spoil and Read. -/
import Derived.Test.YtibojbbhffoldaaDrR
namespace Go.Proofs.Ytibojbbhffoldaa
open Go.RowKit Go.Maps
set_option linter.unusedSimpArgs false
section
variable {w w' : World} {s : DSt} {b : Nat} {F G : Nat → Prop} {dv lv v : Value} {dvs : List Value} {pvs : List (Nat × Value)} {left : Int} {l : List UInt8}
theorem RefRep.failTurn (h : RefRep w s b F dv dvs lv pvs left) (ok : s.Ok) (hd : s.down = false) (n m : Int) (hm : m = max n (-1)) (hn : n ≤ 9223372036854775807) :
    Stp F w (w.setCell ⟨b, 4, none⟩ (.int .i64 m)) ∧ RefAt (w.setCell ⟨b, 4, none⟩ (.int .i64 m)) (s.fail n) b (Plus F w (w.setCell ⟨b, 4, none⟩ (.int .i64 m))) := by
  have e : s.fail n = { s with after := m } := by simp [DSt.fail, hd, hm]
  have o := DSt.fail_ok ok hn
  rw [e] at o ⊢
  have R := h.setb 4 (.int .i64 m) (s' := { s with after := m }) (left' := m) rfl rfl (by simpa using h.cells.set 4 (.int .i64 m)) (fun _ => rfl)
  exact ⟨R.1, o, _, _, _, _, _, R.2.mono (fun _ hk => .inl hk) (Plus.inn h.inn R.1.size)⟩
set_option maxHeartbeats 400000 in
theorem rfail_any (h : RefAt w s b F) (n : Int) (hn : n ≤ 9223372036854775807) :
    Calls Try.prog 38 #[.pointer (some ⟨b, 0, none⟩), .int .i64 n] w (RefP w b F (s.fail n) (.tuple #[])) := by
  have h0 := h
  obtain ⟨ok, dv, dvs, lv, pvs, left, h⟩ := h
  have c4 := h.cells.cell (i := 4) rfl
  have c3 := h.cells.cell (i := 3) rfl
  have f4 := h.cells.free 4
  have hm : n < -1 ∨ -1 ≤ n := by omega
  cases hd : s.down
  · rw [hd] at c3
    have T1 := Lib.hid (fun h' => h.failTurn ok hd n (-1) h' hn)
    have T2 := Lib.hid (fun h' => h.failTurn ok hd n n h' hn)
    clear hd h h0 ok
    rcases hm with hm | hm
    · go_enter Try.func38, Try.ntmps38
      go_wp2
      go_end0
      exact ⟨rfl, T1.out (by omega)⟩
    · go_enter Try.func38, Try.ntmps38
      go_wp2
      go_end0
      exact ⟨rfl, T2.out (by omega)⟩
  · rw [hd] at c3
    have e : s.fail n = s := by simp [DSt.fail, hd]
    have hA := h0.plus
    rw [e]
    clear hd h e ok h0
    go_enter Try.func38, Try.ntmps38
    go_wp2
    go_end0
    exact ⟨rfl, Stp.refl _ _, hA⟩
set_option maxRecDepth 100000 in
set_option maxHeartbeats 1000000 in
theorem rspoil_yes (h : RefRep w s b F dv dvs lv pvs left) (ok : s.Ok) (k o : Nat) (x : UInt8) (hk : k < s.dur.length) (ho : o < s.size) :
    Calls Try.prog 40 #[.pointer (some ⟨b, 0, none⟩), .int .i64 (k : Int), .int .i64 (o : Int), .int .u8 (x.toNat : Int)] w (RefP w b F (s.spoil (k : Int) (o : Int) x).2 (.int .i64 0)) := by
  have c0 := h.cells.cell (i := 0) rfl
  have c1 := h.cells.cell (i := 1) rfl
  have hn2 := ok.n2
  have hs2 := ok.size2
  obtain ⟨gd, dc, rfl⟩ := h.dvAt (by omega)
  have hx : k < dvs.length := by rw [h.dur.1]; exact hk
  obtain ⟨old, hold⟩ : ∃ v, dvs[k]? = some v := ⟨_, List.getElem?_eq_getElem hx⟩
  have d1 : w.cell? ⟨gd, k, none⟩ = some old := (h.durs.cellAt k (by omega)).trans hold
  obtain ⟨ol, hol, hro⟩ := h.dur.get' hold
  have hoL := ok.dur ol (List.mem_of_getElem? hol)
  have hlo : o < ol.length := by rw [hoL]; exact ho
  obtain ⟨og, oc, rfl, oc1, oc2, _, hcell, hfree, -⟩ := hro.1.cells (by omega)
  have yc := hcell o hlo
  have yf := hfree o
  rw [hoL] at d1 oc1
  unfold maxLen at oc2
  have V := Lib.hid (rsector_any b (k : Int) (some ⟨gd, 0, none⟩) s.dur.length dc w c1)
  have hv' : decide (0 ≤ (k : Int) ∧ (k : Int) < (s.dur.length : Int)) = true := decide_eq_true (by omega)
  rw [hv'] at V
  have T := Lib.hid (h.spoiled (k := k) (g := og) (o := o) (x := ol[o] ^^^ x) hold hol rfl hlo)
  have e1 : (s.spoil (k : Int) (o : Int) x).2 = { s with dur := s.dur.set k (ol.set o (ol[o] ^^^ x)) } := by
    have e2 : s.dur[k] = ol := by have := hol; rw [List.getElem?_eq_getElem hk] at this; exact Option.some.inj this
    simp [DSt.spoil, DSt.spoilable, DSt.valid, hk, ho, e2, hlo]
  have OK := Lib.hid (DSt.spoil_ok ok (k : Int) (o : Int) x)
  rw [e1] at OK ⊢
  have Hin := Lib.hid h.inn
  obtain ⟨y, hy⟩ : ∃ y, ol[o] = y := ⟨_, rfl⟩
  rw [hy] at yc T OK ⊢
  clear h hro hold hol hv' hcell hfree e1 hoL hlo hy hx ok
  go_enter Try.func40, Try.ntmps40
  go_wp2_with (go_at_call 41; refine (V.out).mono ?_; rintro e w' ⟨rfl, rfl⟩)
  go_still_tail 21, (by kernel_rfl)
  go_wp2_with fail
  go_ret
  rw [byte_xor]
  have P := T.out.1.drew
  exact ⟨rfl, P, OK.out, _, _, _, _, _, (T.out.2.below (Below.refl _ _).drew).mono (fun _ hk => .inl hk) (Plus.inn Hin.out P.size)⟩
set_option maxRecDepth 100000 in
set_option maxHeartbeats 1000000 in
theorem rspoil_no (h : RefRep w s b F dv dvs lv pvs left) (k o x : Int) (hk : s.spoilable k o = false) :
    Calls Try.prog 40 #[.pointer (some ⟨b, 0, none⟩), .int .i64 k, .int .i64 o, .int .u8 x] w fun e w' => e = .returned (.int .i64 1) ∧ w = w' := by
  have c0 := h.cells.cell (i := 0) rfl
  obtain ⟨a, c, rfl⟩ := h.dvForm
  have q1 := h.cells.cell (i := 1) rfl
  have V := Lib.hid (rsector_any b k a s.dur.length c w q1)
  clear h
  unfold DSt.spoilable at hk
  cases hv : s.valid k
  · have hv' : decide (0 ≤ k ∧ k < (s.dur.length : Int)) = false := hv
    rw [hv'] at V
    clear hv hv' hk
    go_enter Try.func40, Try.ntmps40
    go_wp2_with (go_at_call 41; refine (V.out).mono ?_; rintro e w' ⟨rfl, rfl⟩)
    go_ret
    exact ⟨rfl, rfl⟩
  · have hv' : decide (0 ≤ k ∧ k < (s.dur.length : Int)) = true := hv
    rw [hv'] at V
    rw [hv] at hk
    have ho : ¬ (0 ≤ o ∧ o < (s.size : Int)) := by simpa using hk
    clear hv hv' hk
    by_cases h1 : o < 0
    · go_enter Try.func40, Try.ntmps40
      go_wp2_with (go_at_call 41; refine (V.out).mono ?_; rintro e w' ⟨rfl, rfl⟩)
      go_ret
      exact ⟨rfl, rfl⟩
    · have h2 : (s.size : Int) ≤ o := by omega
      clear ho
      go_enter Try.func40, Try.ntmps40
      go_wp2_with (go_at_call 41; refine (V.out).mono ?_; rintro e w' ⟨rfl, rfl⟩)
      go_ret
      exact ⟨rfl, rfl⟩
theorem rspoil_any (h : RefAt w s b F) (k o : Int) (x : UInt8) :
    Calls Try.prog 40 #[.pointer (some ⟨b, 0, none⟩), .int .i64 k, .int .i64 o, .int .u8 (x.toNat : Int)] w (RefP w b F (s.spoil k o x).2 (.int .i64 (s.spoil k o x).1)) := by
  have h0 := h
  obtain ⟨ok, dv, dvs, lv, pvs, left, h⟩ := h
  cases hs : s.spoilable k o
  · have e : s.spoil k o x = (1, s) := by simp [DSt.spoil, hs]
    rw [e]
    refine (rspoil_no h k o _ hs).mono ?_
    rintro e w' ⟨rfl, rfl⟩
    exact ⟨rfl, Stp.refl _ _, h0.plus⟩
  · have hs' := hs
    simp [DSt.spoilable, DSt.valid] at hs'
    obtain ⟨kn, rfl⟩ := Int.eq_ofNat_of_zero_le hs'.1.1
    obtain ⟨on, rfl⟩ := Int.eq_ofNat_of_zero_le hs'.2.1
    have e : (s.spoil (kn : Int) (on : Int) x).1 = 0 := by simp [DSt.spoil, hs]
    rw [e]
    exact rspoil_yes h ok kn on x (by omega) (by omega)
theorem DSt.look_snoc (t : DSt) (k : Nat) (ps : List (Nat × List UInt8)) (p : Nat × List UInt8) :
    ({ t with pend := ps ++ [p] } : DSt).look k = if p.1 = k then p.2 else ({ t with pend := ps } : DSt).look k := by
  unfold DSt.look
  simp only [DSt.lastIdx_snoc]
  by_cases h : p.1 = k
  · simp [h, List.getD]
  · simp only [h, if_false]
    cases hj : DSt.lastIdx k ps 0 with
    | none => rfl
    | some j =>
      have := (DSt.lastIdx_some k ps 0 j hj).2.1
      simp [List.getD, List.getElem?_append_left (show j < ps.length by omega)]
theorem OwnB.empty (w : World) : OwnB (w.alloc (.cells #[] 5)) (.slice (some ⟨w.heap.size, 0, none⟩) 0 0) [] := ⟨rfl, .inr ⟨w.heap.size, 0, #[], rfl, Nat.zero_le _, heap_alloc_new _ _, Nat.le_refl _, Nat.zero_le _, rfl, rfl⟩⟩
def RReadP (w : World) (r : Int × List UInt8) (e : Ending) (w' : World) : Prop :=
  ∃ v, e = .returned (.tuple #[v, .int .i64 r.1]) ∧ Below w.heap.size w w' ∧ BV w' (fun k => w.heap.size ≤ k) v r.2
set_option maxRecDepth 100000 in
set_option maxHeartbeats 1000000 in
theorem rread_any (h : RefAt w s b F) (k : Int) : Calls Try.prog 36 #[.pointer (some ⟨b, 0, none⟩), .int .i64 k] w (RReadP w (s.read k)) := by
  obtain ⟨ok, dv, dvs, lv, pvs, left, h⟩ := h
  obtain ⟨a, c, rfl⟩ := h.dvForm
  have c1 := h.cells.cell (i := 1) rfl
  have c3 := h.cells.cell (i := 3) rfl
  cases hd : s.down
  · rw [hd] at c3
    have V := Lib.hid (rsector_any b k a s.dur.length c w c1)
    cases hv : s.valid k
    · have hv' : decide (0 ≤ k ∧ k < (s.dur.length : Int)) = false := hv
      have e : s.read k = (1, []) := by simp [DSt.read, hd, hv]
      rw [hv'] at V
      rw [e]
      clear h hd hv hv' e
      go_enter Try.func36, Try.ntmps36
      go_wp2_with (go_at_call 41; refine (V.out).mono ?_; rintro e w' ⟨rfl, rfl⟩)
      go_ret2
      exact ⟨_, rfl, Below.refl _ _, BV.nil _ _⟩
    · have hv' : decide (0 ≤ k ∧ k < (s.dur.length : Int)) = true := hv
      have hv2 := of_decide_eq_true hv'
      obtain ⟨n, rfl⟩ := Int.eq_ofNat_of_zero_le hv2.1
      have e : s.read (n : Int) = (0, s.look n) := by simp [DSt.read, hd, hv]
      rw [hv'] at V
      rw [e]
      have hn : n < s.dur.length := by omega
      have hs2 := ok.size2
      have hn2 := ok.n2
      obtain ⟨gd, dc, e3⟩ := h.dvAt (by omega)
      obtain ⟨rfl, rfl⟩ : a = some ⟨gd, 0, none⟩ ∧ c = dc := by simpa using e3
      obtain ⟨old, hold, hrow⟩ := h.dur.get (i := n) (b := s.dur[n]) (by simp [hn])
      have d1 : w.cell? ⟨gd, n, none⟩ = some old := (h.durs.cellAt n (by omega)).trans hold
      have HLK := Lib.hid (DSt.look_len ok hn)
      have hm : s.pend.length ≤ maxLen := by
        rcases h.pend.2 with ⟨_, h0⟩ | ⟨_, _, _, _, _, _, h1, h2, _⟩
        · unfold maxLen; omega
        · omega
      unfold maxLen at hm
      obtain ⟨la, lc, rfl⟩ := h.lvForm
      have c2 := h.cells.cell (i := 2) rfl
      have B0 : Hid (BV w F old (({ s with pend := s.pend.take 0 } : DSt).look n)) := Lib.hid (by
        have : ({ s with pend := s.pend.take 0 } : DSt).look n = s.dur[n] := by simp [DSt.look, DSt.lastIdx, List.getD, hn]
        rw [this]; exact hrow.bv)
      have H := Lib.hid h
      have HTK : Hid (∀ k, (hk : k < s.pend.length) → ({ s with pend := s.pend.take (k + 1) } : DSt).look n = if s.pend[k].1 = n then s.pend[k].2 else ({ s with pend := s.pend.take k } : DSt).look n) := Lib.hid (fun k hk => by
        rw [List.take_succ_eq_append_getElem hk]
        exact DSt.look_snoc s n _ _)
      have HTE : Hid (({ s with pend := s.pend.take s.pend.length } : DSt).look n = s.look n) := Lib.hid (by rw [List.take_length])
      clear hd hv hv' hv2 e hrow hold e3 h ok
      go_enter Try.func36, Try.ntmps36
      go_wp2_with (go_at_call 41; refine (V.out).mono ?_; rintro e w' ⟨rfl, rfl⟩)
      clear d1 V
      go_loopw [6, 7] (fun o i wr => ∃ k : Nat, k ≤ s.pend.length ∧ i = .int .i64 (k : Int) ∧ w = wr ∧ BV w F o (({ s with pend := s.pend.take k } : DSt).look n)) (fun _ i _ => s.pend.length - (intOf i).toNat)
      case atStart => exact ⟨0, Nat.zero_le _, rfl, rfl, B0.out⟩
      case round =>
        obtain ⟨k, hk, rfl, rfl, hb⟩ := hrel
        by_cases hlt : k < s.pend.length
        · obtain ⟨g, cap, v, hpv, p1, p2, hdv, -⟩ := H.out.pendAt k s.pend[k] (by simp [hlt])
          obtain ⟨rfl, rfl⟩ : la = some ⟨g, 0, none⟩ ∧ lc = cap := by simpa using hpv
          have HK := Lib.hid (HTK.out k hlt)
          have HB := Lib.hid hb
          have HD := Lib.hid hdv.bv
          clear hpv hb hdv B0
          generalize s.pend[k] = q at *
          obtain ⟨q, l⟩ := q
          simp only at *
          by_cases hq : q = n
          · have hqi : (q : Int) = (n : Int) := by omega
            have HK2 := HK.out
            rw [if_pos hq] at HK2
            have HK3 := Lib.hid HK2
            clear HK HK2
            subst hq
            go_wp2_with fail
            go_roundw
            case rel => exact ⟨k + 1, by omega, by go_num, trivial, by rw [HK3.out]; exact HD.out⟩
            case measure => simp [intOf]; omega
          · have hqi : ¬ (q : Int) = (n : Int) := by omega
            have HK2 := HK.out
            rw [if_neg hq] at HK2
            have HK3 := Lib.hid HK2
            clear HK HK2
            go_wp2_with fail
            go_roundw
            case rel => exact ⟨k + 1, by omega, by go_num, trivial, by rw [HK3.out]; exact HB.out⟩
            case measure => simp [intOf]; omega
        · obtain rfl : k = s.pend.length := by omega
          rw [HTE.out] at hb
          obtain ⟨va, vc, rfl, vc1, vc2, -⟩ := hb.get
          have HB := Lib.hid hb
          clear hb B0
          have O2 := Lib.hid (OwnB.empty w)
          go_wp2_with (at_builtin; refine wpList_append_bytes rfl (.tmp 50) (.tmp 51) rfl (.slice (some ⟨w.heap.size, 0, none⟩) 0 0) (.slice va (s.look n).length vc) (s.look n) (by rfl) (by rfl) O2.out (HB.out.alloc _) (by rw [List.length_nil, HLK.out]; omega) ?_)
          intro oa oc w3 hO hg hat
          have N := Lib.hid ((NewB.empty w).push hO hg (hat.imp id (fun e => e.trans (by simp))))
          clear hO hg hat
          go_wp2_with fail
          go_ret2
          have V2 := N.out.2.1.bv.mono (G := fun k => w.heap.size ≤ k) (fun k hk => N.out.2.2.2 k hk)
          rw [List.nil_append] at V2
          exact ⟨_, rfl, N.out.1, V2⟩
  · have e : s.read k = (8, []) := by simp [DSt.read, hd]
    rw [hd] at c3
    rw [e]
    clear h hd e ok
    go_enter Try.func36, Try.ntmps36
    go_wp2_with fail
    go_ret2
    exact ⟨_, rfl, Below.refl _ _, BV.nil _ _⟩
end
end Go.Proofs.Ytibojbbhffoldaa
