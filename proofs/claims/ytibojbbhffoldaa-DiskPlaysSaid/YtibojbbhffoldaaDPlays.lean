/- The walk of DiskPlays. -/
import Derived.Test.YtibojbbhffoldaaDrM
import Derived.Test.YtibojbbhffoldaaPlays
import Derived.Test.YtibojbbhffoldaaListO
import Derived.Deep.CutBlock
import Derived.Deep.DeepCutAuto
namespace Go.Proofs.Ytibojbbhffoldaa
open Go.RowKit Go.Maps
set_option linter.unusedSimpArgs false
/-- Disk and reference side by side, in the states s and t. -/
def PJ (w : World) (bd bx : Nat) (s t : DSt) (wr : World) : Prop :=
  Below w.heap.size w wr ∧ ∃ FD FR, From w.heap.size FD ∧ From w.heap.size FR ∧ Dj FD FR ∧ DiskAt wr s bd FD ∧ RefAt wr t bx FR
/-- And bytes beside them that the reference does not touch. -/
def PJV (w : World) (bd bx : Nat) (s t : DSt) (v : Value) (l : List UInt8) (wr : World) : Prop :=
  Below w.heap.size w wr ∧ ∃ FD FR FV, From w.heap.size FD ∧ From w.heap.size FR ∧ Dj FD FR ∧ DiskAt wr s bd FD ∧ RefAt wr t bx FR ∧ BV wr FV v l ∧ Dj FV FR ∧ Inn FV wr
section
variable {w wr w' : World} {bd bx : Nat} {s t : DSt} {v : Value} {l : List UInt8} {F G : Nat → Prop}
theorem BV.inn (h : BV w F v l) : BV w (fun k => F k ∧ k < w.heap.size) v l := by
  obtain ⟨a, c, e, h1, h2, h3, h4⟩ := h
  refine ⟨a, c, e, h1, h2, h3, fun hp => ?_⟩
  obtain ⟨b, o, e2, hb, hc⟩ := h4 hp
  exact ⟨b, o, e2, ⟨hb, block_lt_of_cell (hc 0 hp)⟩, hc⟩
theorem pj_play (h : PJ w bd bx s t wr) (hp : s.pend.length < 1000000) (o : Op15) (ho : o.Fits) (dv kv : Value) (hd : BV wr (fun k => k < w.heap.size) dv o.data) (hk : BoolsV wr (fun k => k < w.heap.size) kv o.keep) :
    Calls Try.prog 26 #[.pointer (some ⟨bd, 0, none⟩), .agg #[.int .i64 o.kind, .int .i64 o.sector, dv, .int .i64 o.n, kv, .int .u8 (o.x.toNat : Int)]] wr fun e w' =>
      ∃ v, e = .returned (.tuple #[v, .int .i64 (s.play o).1.2]) ∧ PJV w bd bx (s.play o).2 t v (s.play o).1.1 w' := by
  obtain ⟨hB, FD, FR, hFD, hFR, hdj, hD, hR⟩ := h
  refine (playF_any hD hp o ho dv kv hd hk (fun k hk hf => by have := hFD k hf; omega)).mono ?_
  rintro e w' ⟨v, rfl, hst, hD', hv⟩
  exact ⟨v, rfl, hB.trans (hst.below hFD hB.size), Plus FD wr w', FR, _, Plus.froms hFD hB.size, hFR, (Plus.dj hR.inn hdj.symm).symm, hD', hR.same (hst.same hR.inn hdj.symm) hst.size, hv.inn, fun k hk hf => by have := hR.inn k hf; have := hk.1; omega, fun k hk => hk.2⟩
theorem pj_model (h : PJV w bd bx s t v l wr) (hp : t.pend.length < 1000000) (o : Op15) (ho : o.Fits) (dv kv : Value) (hd : BV wr (fun k => k < w.heap.size) dv o.data) (hk : BoolsV wr (fun k => k < w.heap.size) kv o.keep) :
    Calls Try.prog 29 #[.pointer (some ⟨bx, 0, none⟩), .agg #[.int .i64 o.kind, .int .i64 o.sector, dv, .int .i64 o.n, kv, .int .u8 (o.x.toNat : Int)]] wr fun e w' =>
      ∃ y, e = .returned (.tuple #[y, .int .i64 (t.play o).1.2]) ∧ PJ w bd bx s (t.play o).2 w' ∧ (∃ K, BV w' K v l) ∧ ∃ K, BV w' K y (t.play o).1.1 := by
  obtain ⟨hB, FD, FR, FV, hFD, hFR, hdj, hD, hR, hv, hdv, hin⟩ := h
  refine (model_any hR hp o ho dv kv hd hk (fun k hk hf => by have := hFR k hf; omega)).mono ?_
  rintro e w' ⟨y, rfl, hst, hR', hy⟩
  exact ⟨y, rfl, ⟨hB.trans (hst.below hFR hB.size), FD, Plus FR wr w', hFD, Plus.froms hFR hB.size, Plus.dj hD.inn hdj, hD.same (hst.same hD.inn hdj) hst.size, hR'⟩, ⟨_, hv.same (hst.same hin hdv)⟩, _, hy⟩
theorem same_self {a b : Value} (ha : BV wr F a l) (hb : BV wr G b l) : Calls Try.prog 15 #[a, b] wr fun e w' => e = .returned (.bool true) ∧ wr = w' :=
  (same_any ha hb).mono fun e w' h => ⟨by rw [h.1, beq_self_eq_true], h.2⟩
theorem sameAll_self {a b : Value} {L : List (List UInt8)} (ha : LV wr F a L) (hb : LV wr G b L) : Calls Try.prog 23 #[a, b] wr fun e w' => e = .returned (.bool true) ∧ Below wr.heap.size wr w' :=
  (sameAll_any ha hb).mono fun e w' h => ⟨by rw [h.1, beq_self_eq_true], h.2⟩
end
abbrev PlS (w : World) (b : Nat) (dv lv : Value) (d : Bool) (w' : World) : Prop :=
  Below w.heap.size w w' ∧ w'.cell? ⟨b, 1, none⟩ = some dv ∧ w'.cell? ⟨b, 2, none⟩ = some lv ∧ w'.cell? ⟨b, 3, none⟩ = some (.bool d)
theorem PlS.next {w w' w2 : World} {b : Nat} {dv lv : Value} {d : Bool} (hl : b < w.heap.size) (h : PlS w b dv lv d w') (h2 : Below w.heap.size w w2) : PlS w b dv lv d w2 := by
  obtain ⟨h0, h1, h3, h4⟩ := h
  have e : ∀ i, w2.cell? ⟨b, i, none⟩ = w'.cell? ⟨b, i, none⟩ := fun i => (h2.cell (p := ⟨b, i, none⟩) hl).trans (h0.cell (p := ⟨b, i, none⟩) hl).symm
  exact ⟨h2, (e 1).trans h1, (e 2).trans h3, (e 3).trans h4⟩
set_option maxRecDepth 100000 in
set_option maxHeartbeats 4000000 in
theorem diskPlays_walk (w : World) (sectors : Int) (_ : -9223372036854775808 ≤ sectors) (_ : sectors ≤ 9223372036854775807) (size : Int) (_ : -9223372036854775808 ≤ size) (_ : size ≤ 9223372036854775807) (v : Value) (ops : List Op15) (hv : OpsV w (fun k => k < w.heap.size) v ops) :
    Calls Try.prog 7 #[.int .i64 sectors, .int .i64 size, v] w fun e w' => e = .returned (.bool true) ∧ Below w.heap.size w w' := by
  obtain ⟨va, vc, rfl, va1, va2, _⟩ := hv.get
  unfold maxLen at va2
  have V0 := Lib.hid hv; clear hv
  by_cases hs : Small sectors size ops.length
  rotate_left
  go_enter Try.func7, Try.ntmps7
  go_wp2_with fail
  refine (awake_any w).mono ?_
  rintro e w1 ⟨rfl, hb1⟩
  go_wp2_with fail
  refine (small_no _ _ _ _ _ hs).mono ?_
  rintro e w' ⟨rfl, rfl⟩
  go_wp2_with fail
  go_ret
  exact ⟨rfl, hb1⟩
  obtain ⟨n, rfl⟩ := Int.eq_ofNat_of_zero_le (show 0 ≤ sectors by have := hs.1; omega)
  obtain ⟨m, rfl⟩ := Int.eq_ofNat_of_zero_le (show 0 ≤ size by have := hs.2.2.1; omega)
  have hs' := hs
  obtain ⟨hn1, hn2, hm1, hm2, hl40⟩ := hs'
  go_enter Try.func7, Try.ntmps7
  go_wp2_with fail
  refine (awake_any w).mono ?_
  rintro e w1 ⟨rfl, hb1⟩
  have B1 := Lib.hid hb1
  clear hb1
  go_wp2_with fail
  refine (small_yes _ _ _ _ _ hs).mono ?_
  rintro e w' ⟨rfl, rfl⟩
  go_wp2_with fail
  refine (new_yes n m w1 (by omega) (by omega) (by omega) (by omega)).mono ?_
  rintro e w2 ⟨bd, rfl, hb2, hD2⟩
  have D2 := Lib.hid hD2
  have B2 := Lib.hid hb2
  clear hb2 hD2
  go_wp2_with fail
  refine (refnew_any n m w2 (by omega) (by omega) (by omega)).mono ?_
  rintro e w3 ⟨bx, rfl, hb3, hR3⟩
  have J3 : Hid (PJ w bd bx (DSt.new n m) (DSt.new n m) w3) := Lib.hid (by
    have h1 := B1.out.size
    have h2 := B2.out.size
    refine ⟨(B1.out.trans (B2.out.mono h1)).trans (hb3.mono (by omega)), _, _, fun k hk => ?_, fun k hk => ?_, fun k hk hf => ?_, D2.out.below hb3, DSt.new_ok (by omega) (by omega) (by omega) (by omega), hR3⟩
    · have := hk.1; omega
    · have := hk.1; omega
    · have := hk.2; have := hf.1; omega)
  clear hb3 hR3 D2 B2 B1
  go_wp2_with fail
  go_loopw [10] (fun i wr => ∃ k : Nat, k ≤ ops.length ∧ i = .int .i64 (k : Int) ∧ PJ w bd bx ((DSt.new n m).plays (ops.take k)) ((DSt.new n m).plays (ops.take k)) wr) (fun i _ => ops.length - (intOf i).toNat)
  case atStart => exact ⟨0, Nat.zero_le _, rfl, J3.out⟩
  case round =>
    obtain ⟨k, hk, rfl, hj⟩ := hrel
    clear J3
    by_cases hlt : k < ops.length
    · have ik : (k : Int) < (ops.length : Int) := by omega
      have hpn : ((DSt.new n m).plays (ops.take k)).pend.length < 1000 := by
        have h := (DSt.plays_shape (ops.take k) (DSt.new n m)).2.2
        have e : (DSt.new n m).pend.length = 0 := rfl
        have : (ops.take k).length ≤ ops.length := List.length_take_le' _ _
        omega
      have hnx : (DSt.new n m).plays (ops.take (k + 1)) = (((DSt.new n m).plays (ops.take k)).play ops[k]).2 := by
        rw [List.take_succ_eq_append_getElem hlt, DSt.plays_snoc]
      have HNX := Lib.hid hnx
      have HPN := Lib.hid hpn
      clear hnx hpn
      generalize (DSt.new n m).plays (ops.take k) = s at *
      obtain ⟨_, _, e0, _, _, hget⟩ := (V0.out.same (fun x hx => hj.1.block x hx)).get
      obtain ⟨rfl, rfl⟩ : _ ∧ _ := by simpa using e0
      obtain ⟨ob, oo, dv, kv, rfl, hFb, hfit, hdv, hkv, o0, o1, o2, o3, o4, o5⟩ := hget k hlt
      obtain ⟨da, dc, rfl, _, _, _⟩ := hdv.get
      obtain ⟨ka, kc, rfl, _, _, _⟩ := SV.get hkv
      have J := Lib.hid hj
      have Hfit := Lib.hid hfit
      have Hdv := Lib.hid hdv
      have Hkv := Lib.hid hkv
      clear hget hj hfit hdv hkv e0 hFb
      go_wp2_with fail
      refine (pj_play J.out (by have := HPN.out; omega) ops[k] Hfit.out _ _ Hdv.out Hkv.out).mono ?_
      rintro e w3 ⟨rv, rfl, hJ3⟩
      have J3 := Lib.hid hJ3
      clear hJ3 o0 o1 o2 o3 o4 o5 Hdv Hkv J
      obtain ⟨_, _, e0, _, _, hget⟩ := (V0.out.same (fun x hx => J3.out.1.block x hx)).get
      obtain ⟨e0, rfl⟩ : _ ∧ _ := by simpa using e0
      obtain ⟨ob2, oo2, dv, kv, rfl, hFb, hfit, hdv, hkv, o0, o1, o2, o3, o4, o5⟩ := hget k hlt
      obtain ⟨rfl, rfl⟩ : ob = ob2 ∧ oo = oo2 := by simpa using e0
      obtain ⟨da2, dc2, rfl, _, _, _⟩ := hdv.get
      obtain ⟨ka2, kc2, rfl, _, _, _⟩ := SV.get hkv
      have Hdv := Lib.hid hdv
      have Hkv := Lib.hid hkv
      clear hget hfit hdv hkv e0 hFb
      go_wp2_with fail
      refine (pj_model J3.out (by have := HPN.out; omega) ops[k] Hfit.out _ _ Hdv.out Hkv.out).mono ?_
      rintro e w4 ⟨yv, rfl, hJ4, hva, hvb⟩
      rw [← HNX.out] at hJ4
      obtain ⟨s2, hs2⟩ : ∃ s2, (DSt.new n m).plays (ops.take (k + 1)) = s2 := ⟨_, rfl⟩
      rw [hs2] at hJ4
      have HS2 := Lib.hid hs2
      clear hs2
      obtain ⟨rl, hrl⟩ : ∃ rl, (s.play ops[k]).1.1 = rl := ⟨_, rfl⟩
      obtain ⟨er, her⟩ : ∃ er, (s.play ops[k]).1.2 = er := ⟨_, rfl⟩
      rw [hrl] at hva hvb
      rw [her]
      have J4 := Lib.hid hJ4
      obtain ⟨GA, hva⟩ := hva
      obtain ⟨GB, hvb⟩ := hvb
      obtain ⟨ra, rc, rfl, _, _, _⟩ := hva.get
      obtain ⟨ya, yc, rfl, _, _, _⟩ := hvb.get
      have HVA := Lib.hid hva
      have HVB := Lib.hid hvb
      clear hva hvb hJ4 hrl her o0 o1 o2 o3 o4 o5 Hdv Hkv J3 HNX
      go_upto_region 12 with fail
      obtain ⟨FD, FR, hFD, hFR, hdj, hDA, hRA⟩ := J4.out.2
      obtain ⟨ok4, dvx, dvsx, lvx, pvsx, leftx, hRR⟩ := hRA
      obtain ⟨xa, xc, rfl⟩ := hRR.dvForm
      obtain ⟨la, lc, rfl⟩ := hRR.lvForm
      generalize hxn : s2.dur.length = xn at *
      have HLX := Lib.hid hRR.lv_
      have HDA := Lib.hid (hDA.below (Below.refl _ _).drew)
      have HLT : Hid (bx < w4.heap.size) := Lib.hid hRR.cells.lt
      have HS : Hid (PlS w4 bx (.slice xa xn xc) (.slice la s2.pend.length lc) s2.down w4.drew) := Lib.hid ⟨(Below.refl _ _).drew, hRR.cells.cell (i := 1) rfl, hRR.cells.cell (i := 2) rfl, hRR.cells.cell (i := 3) rfl⟩
      clear hDA hRR ok4 hxn hFD hFR hdj
      have b1 : (er != er) = false := bne_self_eq_false _
      have b2 : (s2.down != s2.down) = false := bne_self_eq_false _
      have b3 : ((s2.pend.length : Int) != (s2.pend.length : Int)) = false := bne_self_eq_false _
      refine wp_region_held_drew (S := (PlS w4 bx (.slice xa xn xc) (.slice la s2.pend.length lc) s2.down)) (by kernel_rfl) HS.out (fun hS => ?_)
      refine wpAnyH_take (i := 0) (oi := ⟨some 55, _, _, _, _, _⟩) (v := .slice ra rl.length rc) rfl (by kernel_rfl) (by kernel_rfl) (by kernel_rfl) (fun _ _ _ h => h) (Or.inl ⟨by rfl, fun w hSw => by obtain ⟨_, s1, s2, s3⟩ := hSw; go_simp⟩) hS ?_
      try simp only [Act.put, List.setIfInBounds_toArray, List.set_cons_zero, List.set_cons_succ]
      refine wpAnyH_take (i := 1) (oi := ⟨some 56, _, _, _, _, _⟩) (v := .slice ya rl.length yc) rfl (by kernel_rfl) (by kernel_rfl) (by kernel_rfl) (fun _ _ _ h => h) (Or.inl ⟨by rfl, fun w hSw => by obtain ⟨_, s1, s2, s3⟩ := hSw; go_simp⟩) hS ?_
      try simp only [Act.put, List.setIfInBounds_toArray, List.set_cons_zero, List.set_cons_succ]
      refine wpAnyH_ready (rs := [2]) (by kernel_rfl) (by simp) ?_
      refine AllReadyH.cons (o := ⟨some 57, _, _, _, _, _⟩) rfl (fun K hK => ?_) AllReadyH.nil
      go_simp
      refine (same_self (show BV w4.drew _ _ _ from HVA.out) (show BV w4.drew _ _ _ from HVB.out)).mono ?_
      rintro e w13 ⟨rfl, rfl⟩
      refine hK.out _ _ hS (fun _ => ?_)
      clear hK K
      try simp only [Act.put, List.setIfInBounds_toArray, List.set_cons_zero, List.set_cons_succ]
      refine wpAnyH_take (i := 3) (oi := ⟨some 58, _, _, _, _, _⟩) (v := .bool false) rfl (by kernel_rfl) (by kernel_rfl) (by kernel_rfl) (fun _ _ _ h => h) (Or.inl ⟨by rfl, fun w hSw => by obtain ⟨_, s1, s2, s3⟩ := hSw; go_simp⟩) hS ?_
      try simp only [Act.put, List.setIfInBounds_toArray, List.set_cons_zero, List.set_cons_succ]
      refine wpAnyH_take (i := 4) (oi := ⟨some 59, _, _, _, _, _⟩) (v := .bool false) rfl (by kernel_rfl) (by kernel_rfl) (by kernel_rfl) (fun _ _ _ h => h) (Or.inl ⟨by rfl, fun w hSw => by obtain ⟨_, s1, s2, s3⟩ := hSw; go_simp⟩) hS ?_
      try simp only [Act.put, List.setIfInBounds_toArray, List.set_cons_zero, List.set_cons_succ]
      refine wpAnyH_take (i := 5) (oi := ⟨some 60, _, _, _, _, _⟩) (v := .int .i64 er) rfl (by kernel_rfl) (by kernel_rfl) (by kernel_rfl) (fun _ _ _ h => h) (Or.inl ⟨by rfl, fun w hSw => by obtain ⟨_, s1, s2, s3⟩ := hSw; go_simp⟩) hS ?_
      try simp only [Act.put, List.setIfInBounds_toArray, List.set_cons_zero, List.set_cons_succ]
      refine wpAnyH_take (i := 6) (oi := ⟨some 61, _, _, _, _, _⟩) (v := .int .i64 er) rfl (by kernel_rfl) (by kernel_rfl) (by kernel_rfl) (fun _ _ _ h => h) (Or.inl ⟨by rfl, fun w hSw => by obtain ⟨_, s1, s2, s3⟩ := hSw; go_simp⟩) hS ?_
      try simp only [Act.put, List.setIfInBounds_toArray, List.set_cons_zero, List.set_cons_succ]
      refine wpAnyH_take (i := 7) (oi := ⟨some 62, _, _, _, _, _⟩) (v := .bool false) rfl (by kernel_rfl) (by kernel_rfl) (by kernel_rfl) (fun _ _ _ h => h) (Or.inl ⟨by rfl, fun w hSw => by obtain ⟨_, s1, s2, s3⟩ := hSw; go_simp⟩) hS ?_
      try simp only [Act.put, List.setIfInBounds_toArray, List.set_cons_zero, List.set_cons_succ]
      refine wpAnyH_take (i := 8) (oi := ⟨some 63, _, _, _, _, _⟩) (v := .bool false) rfl (by kernel_rfl) (by kernel_rfl) (by kernel_rfl) (fun _ _ _ h => h) (Or.inl ⟨by rfl, fun w hSw => by obtain ⟨_, s1, s2, s3⟩ := hSw; go_simp⟩) hS ?_
      try simp only [Act.put, List.setIfInBounds_toArray, List.set_cons_zero, List.set_cons_succ]
      refine wpAnyH_take (i := 9) (oi := ⟨some 64, _, _, _, _, _⟩) (v := .bool false) rfl (by kernel_rfl) (by kernel_rfl) (by kernel_rfl) (fun _ _ _ h => h) (Or.inl ⟨by rfl, fun w hSw => by obtain ⟨_, s1, s2, s3⟩ := hSw; go_simp⟩) hS ?_
      try simp only [Act.put, List.setIfInBounds_toArray, List.set_cons_zero, List.set_cons_succ]
      refine wpAnyH_take (i := 10) (oi := ⟨some 65, _, _, _, _, _⟩) (v := .pointer (some ⟨bd, 0, none⟩)) rfl (by kernel_rfl) (by kernel_rfl) (by kernel_rfl) (fun _ _ _ h => h) (Or.inl ⟨by rfl, fun w hSw => by obtain ⟨_, s1, s2, s3⟩ := hSw; go_simp⟩) hS ?_
      try simp only [Act.put, List.setIfInBounds_toArray, List.set_cons_zero, List.set_cons_succ]
      refine wpAnyH_take (i := 12) (oi := ⟨some 67, _, _, _, _, _⟩) (v := .pointer (some ⟨bx, 0, none⟩)) rfl (by kernel_rfl) (by kernel_rfl) (by kernel_rfl) (fun _ _ _ h => h) (Or.inl ⟨by rfl, fun w hSw => by obtain ⟨_, s1, s2, s3⟩ := hSw; go_simp⟩) hS ?_
      try simp only [Act.put, List.setIfInBounds_toArray, List.set_cons_zero, List.set_cons_succ]
      refine wpAnyH_take (i := 13) (oi := ⟨some 68, _, _, _, _, _⟩) (v := .pointer (some ⟨bx, 0, none⟩)) rfl (by kernel_rfl) (by kernel_rfl) (by kernel_rfl) (fun _ _ _ h => h) (Or.inl ⟨by rfl, fun w hSw => by obtain ⟨_, s1, s2, s3⟩ := hSw; go_simp⟩) hS ?_
      try simp only [Act.put, List.setIfInBounds_toArray, List.set_cons_zero, List.set_cons_succ]
      refine wpAnyH_take (i := 14) (oi := ⟨some 69, _, _, _, _, _⟩) (v := .pointer (some ⟨bx, 2, none⟩)) rfl (by kernel_rfl) (by kernel_rfl) (by kernel_rfl) (fun _ _ _ h => h) (Or.inl ⟨by rfl, fun w hSw => by obtain ⟨_, s1, s2, s3⟩ := hSw; go_simp⟩) hS ?_
      try simp only [Act.put, List.setIfInBounds_toArray, List.set_cons_zero, List.set_cons_succ]
      refine wpAnyH_take (i := 15) (oi := ⟨some 70, _, _, _, _, _⟩) (v := .slice la s2.pend.length lc) rfl (by kernel_rfl) (by kernel_rfl) (by kernel_rfl) (fun _ _ _ h => h) (Or.inl ⟨by rfl, fun w hSw => by obtain ⟨_, s1, s2, s3⟩ := hSw; go_simp⟩) hS ?_
      try simp only [Act.put, List.setIfInBounds_toArray, List.set_cons_zero, List.set_cons_succ]
      refine wpAnyH_take (i := 16) (oi := ⟨some 71, _, _, _, _, _⟩) (v := .int .i64 (s2.pend.length : Int)) rfl (by kernel_rfl) (by kernel_rfl) (by kernel_rfl) (fun _ _ _ h => h) (Or.inl ⟨by rfl, fun w hSw => by obtain ⟨_, s1, s2, s3⟩ := hSw; go_simp⟩) hS ?_
      try simp only [Act.put, List.setIfInBounds_toArray, List.set_cons_zero, List.set_cons_succ]
      refine wpAnyH_ready (rs := [11]) (by kernel_rfl) (by simp) ?_
      refine AllReadyH.cons (o := ⟨some 66, _, _, _, _, _⟩) rfl (fun K hK => ?_) AllReadyH.nil
      go_simp
      refine (pending_any HDA.out).mono ?_
      rintro e w13 ⟨rfl, rfl⟩
      refine hK.out _ _ hS (fun _ => ?_)
      clear hK K
      try simp only [Act.put, List.setIfInBounds_toArray, List.set_cons_zero, List.set_cons_succ]
      refine wpAnyH_take (i := 17) (oi := ⟨some 72, _, _, _, _, _⟩) (v := .bool false) rfl (by kernel_rfl) (by kernel_rfl) (by kernel_rfl) (fun _ _ _ h => h) (Or.inl ⟨by rfl, fun w hSw => by obtain ⟨_, s1, s2, s3⟩ := hSw; go_simp⟩) hS ?_
      try simp only [Act.put, List.setIfInBounds_toArray, List.set_cons_zero, List.set_cons_succ]
      refine wpAnyH_take (i := 18) (oi := ⟨some 73, _, _, _, _, _⟩) (v := .bool false) rfl (by kernel_rfl) (by kernel_rfl) (by kernel_rfl) (fun _ _ _ h => h) (Or.inl ⟨by rfl, fun w hSw => by obtain ⟨_, s1, s2, s3⟩ := hSw; go_simp⟩) hS ?_
      try simp only [Act.put, List.setIfInBounds_toArray, List.set_cons_zero, List.set_cons_succ]
      refine wpAnyH_take (i := 19) (oi := ⟨some 74, _, _, _, _, _⟩) (v := .bool false) rfl (by kernel_rfl) (by kernel_rfl) (by kernel_rfl) (fun _ _ _ h => h) (Or.inl ⟨by rfl, fun w hSw => by obtain ⟨_, s1, s2, s3⟩ := hSw; go_simp⟩) hS ?_
      try simp only [Act.put, List.setIfInBounds_toArray, List.set_cons_zero, List.set_cons_succ]
      refine wpAnyH_take (i := 20) (oi := ⟨some 75, _, _, _, _, _⟩) (v := .pointer (some ⟨bd, 0, none⟩)) rfl (by kernel_rfl) (by kernel_rfl) (by kernel_rfl) (fun _ _ _ h => h) (Or.inl ⟨by rfl, fun w hSw => by obtain ⟨_, s1, s2, s3⟩ := hSw; go_simp⟩) hS ?_
      try simp only [Act.put, List.setIfInBounds_toArray, List.set_cons_zero, List.set_cons_succ]
      refine wpAnyH_take (i := 22) (oi := ⟨some 77, _, _, _, _, _⟩) (v := .pointer (some ⟨bx, 0, none⟩)) rfl (by kernel_rfl) (by kernel_rfl) (by kernel_rfl) (fun _ _ _ h => h) (Or.inl ⟨by rfl, fun w hSw => by obtain ⟨_, s1, s2, s3⟩ := hSw; go_simp⟩) hS ?_
      try simp only [Act.put, List.setIfInBounds_toArray, List.set_cons_zero, List.set_cons_succ]
      refine wpAnyH_take (i := 23) (oi := ⟨some 78, _, _, _, _, _⟩) (v := .pointer (some ⟨bx, 0, none⟩)) rfl (by kernel_rfl) (by kernel_rfl) (by kernel_rfl) (fun _ _ _ h => h) (Or.inl ⟨by rfl, fun w hSw => by obtain ⟨_, s1, s2, s3⟩ := hSw; go_simp⟩) hS ?_
      try simp only [Act.put, List.setIfInBounds_toArray, List.set_cons_zero, List.set_cons_succ]
      refine wpAnyH_take (i := 24) (oi := ⟨some 79, _, _, _, _, _⟩) (v := .pointer (some ⟨bx, 3, none⟩)) rfl (by kernel_rfl) (by kernel_rfl) (by kernel_rfl) (fun _ _ _ h => h) (Or.inl ⟨by rfl, fun w hSw => by obtain ⟨_, s1, s2, s3⟩ := hSw; go_simp⟩) hS ?_
      try simp only [Act.put, List.setIfInBounds_toArray, List.set_cons_zero, List.set_cons_succ]
      refine wpAnyH_take (i := 25) (oi := ⟨some 80, _, _, _, _, _⟩) (v := .bool s2.down) rfl (by kernel_rfl) (by kernel_rfl) (by kernel_rfl) (fun _ _ _ h => h) (Or.inl ⟨by rfl, fun w hSw => by obtain ⟨_, s1, s2, s3⟩ := hSw; go_simp⟩) hS ?_
      try simp only [Act.put, List.setIfInBounds_toArray, List.set_cons_zero, List.set_cons_succ]
      refine wpAnyH_ready (rs := [21]) (by kernel_rfl) (by simp) ?_
      refine AllReadyH.cons (o := ⟨some 76, _, _, _, _, _⟩) rfl (fun K hK => ?_) AllReadyH.nil
      go_simp
      refine (down_any HDA.out).mono ?_
      rintro e w13 ⟨rfl, rfl⟩
      refine hK.out _ _ hS (fun _ => ?_)
      clear hK K
      try simp only [Act.put, List.setIfInBounds_toArray, List.set_cons_zero, List.set_cons_succ]
      refine wpAnyH_take (i := 26) (oi := ⟨some 81, _, _, _, _, _⟩) (v := .bool false) rfl (by kernel_rfl) (by kernel_rfl) (by kernel_rfl) (fun _ _ _ h => h) (Or.inl ⟨by rfl, fun w hSw => by obtain ⟨_, s1, s2, s3⟩ := hSw; go_simp⟩) hS ?_
      try simp only [Act.put, List.setIfInBounds_toArray, List.set_cons_zero, List.set_cons_succ]
      refine wpAnyH_take (i := 27) (oi := ⟨some 82, _, _, _, _, _⟩) (v := .bool false) rfl (by kernel_rfl) (by kernel_rfl) (by kernel_rfl) (fun _ _ _ h => h) (Or.inl ⟨by rfl, fun w hSw => by obtain ⟨_, s1, s2, s3⟩ := hSw; go_simp⟩) hS ?_
      try simp only [Act.put, List.setIfInBounds_toArray, List.set_cons_zero, List.set_cons_succ]
      refine wpAnyH_take (i := 28) (oi := ⟨some 83, _, _, _, _, _⟩) (v := .bool false) rfl (by kernel_rfl) (by kernel_rfl) (by kernel_rfl) (fun _ _ _ h => h) (Or.inl ⟨by rfl, fun w hSw => by obtain ⟨_, s1, s2, s3⟩ := hSw; go_simp⟩) hS ?_
      try simp only [Act.put, List.setIfInBounds_toArray, List.set_cons_zero, List.set_cons_succ]
      refine wpAnyH_take (i := 29) (oi := ⟨some 84, _, _, _, _, _⟩) (v := .pointer (some ⟨bd, 0, none⟩)) rfl (by kernel_rfl) (by kernel_rfl) (by kernel_rfl) (fun _ _ _ h => h) (Or.inl ⟨by rfl, fun w hSw => by obtain ⟨_, s1, s2, s3⟩ := hSw; go_simp⟩) hS ?_
      try simp only [Act.put, List.setIfInBounds_toArray, List.set_cons_zero, List.set_cons_succ]
      refine wpAnyH_take (i := 31) (oi := ⟨some 86, _, _, _, _, _⟩) (v := .pointer (some ⟨bx, 0, none⟩)) rfl (by kernel_rfl) (by kernel_rfl) (by kernel_rfl) (fun _ _ _ h => h) (Or.inl ⟨by rfl, fun w hSw => by obtain ⟨_, s1, s2, s3⟩ := hSw; go_simp⟩) hS ?_
      try simp only [Act.put, List.setIfInBounds_toArray, List.set_cons_zero, List.set_cons_succ]
      refine wpAnyH_take (i := 32) (oi := ⟨some 87, _, _, _, _, _⟩) (v := .pointer (some ⟨bx, 0, none⟩)) rfl (by kernel_rfl) (by kernel_rfl) (by kernel_rfl) (fun _ _ _ h => h) (Or.inl ⟨by rfl, fun w hSw => by obtain ⟨_, s1, s2, s3⟩ := hSw; go_simp⟩) hS ?_
      try simp only [Act.put, List.setIfInBounds_toArray, List.set_cons_zero, List.set_cons_succ]
      refine wpAnyH_take (i := 33) (oi := ⟨some 88, _, _, _, _, _⟩) (v := .pointer (some ⟨bx, 1, none⟩)) rfl (by kernel_rfl) (by kernel_rfl) (by kernel_rfl) (fun _ _ _ h => h) (Or.inl ⟨by rfl, fun w hSw => by obtain ⟨_, s1, s2, s3⟩ := hSw; go_simp⟩) hS ?_
      try simp only [Act.put, List.setIfInBounds_toArray, List.set_cons_zero, List.set_cons_succ]
      refine wpAnyH_take (i := 34) (oi := ⟨some 89, _, _, _, _, _⟩) (v := .slice xa xn xc) rfl (by kernel_rfl) (by kernel_rfl) (by kernel_rfl) (fun _ _ _ h => h) (Or.inl ⟨by rfl, fun w hSw => by obtain ⟨_, s1, s2, s3⟩ := hSw; go_simp⟩) hS ?_
      try simp only [Act.put, List.setIfInBounds_toArray, List.set_cons_zero, List.set_cons_succ]
      refine wpAnyH_ready (rs := [30]) (by kernel_rfl) (by simp) ?_
      refine AllReadyH.cons (o := ⟨some 85, _, _, _, _, _⟩) rfl (fun K hK => ?_) AllReadyH.nil
      go_simp
      refine (image_any HDA.out).mono ?_
      rintro e w14 ⟨iv, rfl, hb14, hv14⟩
      have hS2 := PlS.next HLT.out hS (show Below w4.heap.size w4 w14 from (Below.refl _ _).drew.trans hb14)
      refine hK.out _ _ hS2 (fun _ => ?_)
      clear hK K
      try simp only [Act.put, List.setIfInBounds_toArray, List.set_cons_zero, List.set_cons_succ]
      refine wpAnyH_ready (rs := [35]) (by kernel_rfl) (by simp) ?_
      refine AllReadyH.cons (o := ⟨some 90, _, _, _, _, _⟩) rfl (fun K hK => ?_) AllReadyH.nil
      go_simp
      refine (sameAll_self hv14.lv (HLX.out.grow (show Below w4.heap.size w4 w14 from (Below.refl _ _).drew.trans hb14))).mono ?_
      rintro e w15 ⟨rfl, hb15⟩
      have hb45 : Below w4.heap.size w4 w15 := ((Below.refl w4.heap.size w4).drew.trans hb14).trans (hb15.mono hb14.size)
      have hS3 := PlS.next HLT.out HS.out hb45
      refine hK.out _ _ hS3 (fun _ => ?_)
      clear hK K
      try simp only [Act.put, List.setIfInBounds_toArray, List.set_cons_zero, List.set_cons_succ]
      refine wpAnyH_take (i := 36) (oi := ⟨some 91, _, _, _, _, _⟩) (v := .bool false) rfl (by kernel_rfl) (by kernel_rfl) (by kernel_rfl) (fun _ _ _ h => h) (Or.inl ⟨by rfl, fun w hSw => by obtain ⟨_, s1, s2, s3⟩ := hSw; go_simp⟩) hS3 ?_
      try simp only [Act.put, List.setIfInBounds_toArray, List.set_cons_zero, List.set_cons_succ]
      refine wpAnyH_take (i := 37) (oi := ⟨some 92, _, _, _, _, _⟩) (v := .bool false) rfl (by kernel_rfl) (by kernel_rfl) (by kernel_rfl) (fun _ _ _ h => h) (Or.inl ⟨by rfl, fun w hSw => by obtain ⟨_, s1, s2, s3⟩ := hSw; go_simp⟩) hS3 ?_
      try simp only [Act.put, List.setIfInBounds_toArray, List.set_cons_zero, List.set_cons_succ]
      refine wpAnyH_done (by kernel_rfl) ?_ _
      have J15 : Hid (PJ w bd bx s2 s2 w15) := Lib.hid (by
        obtain ⟨h0, FD, FR, h1, h2, h3, h4, h5⟩ := J4.out
        exact ⟨h0.trans (hb45.mono h0.size), FD, FR, h1, h2, h3, h4.below hb45, h5.below hb45⟩)
      go_wp2_with fail
      go_roundw
      case rel => exact ⟨k + 1, by omega, by go_num, by rw [HS2.out]; exact J15.out⟩
      case measure => simp [intOf]; omega
    · have ige : ¬ (k : Int) < (ops.length : Int) := by omega
      have J := Lib.hid hj.1
      clear hj
      go_wp2_with fail
      go_ret
      exact ⟨rfl, J.out⟩
end Go.Proofs.Ytibojbbhffoldaa
