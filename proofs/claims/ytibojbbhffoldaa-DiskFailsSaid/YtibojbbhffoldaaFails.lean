/- The walk of DiskFails. -/
import Derived.Test.YtibojbbhffoldaaPlayF
namespace Go.Proofs.Ytibojbbhffoldaa
open Go.RowKit Go.Maps
namespace DSt
/-- Behind 'done' of n + 1 operations on a disk that is told to fail: down, or so many operations left. -/
structure Ran (t : DSt) (n m : Nat) (N done : Int) : Prop where
  len : t.dur.length = n
  size : t.size = m
  d0 : 0 ≤ done
  le : done ≤ N + 1
  up : done ≤ N → t.down = false ∧ t.after = N - done
  off : done = N + 1 → t.down = true
theorem Ran.gone {t : DSt} {n m : Nat} {N : Int} (h : t.Ran n m N (N + 1)) (o : Op15) (hk : o.kind = 0 ∨ o.kind = 1 ∨ o.kind = 2) : (t.play o).1.2 = 8 ∧ (t.play o).2.Ran n m N (N + 1) := by
  have hd := h.off rfl
  rcases hk with hk | hk | hk <;> simp [play, hk, write, read, sync, hd, h]
theorem Ran.bad {t : DSt} {n m : Nat} {N d : Int} (h : t.Ran n m N d) (hd : d ≤ N) (o : Op15) (hk : (o.kind = 0 ∧ (o.sector < 0 ∨ (n : Int) ≤ o.sector ∨ o.data.length ≠ m)) ∨ (o.kind = 1 ∧ (o.sector < 0 ∨ (n : Int) ≤ o.sector))) : (t.play o).1.2 = 1 ∧ (t.play o).2.Ran n m N d := by
  have hup := (h.up hd).1
  have hl := h.len
  have hs := h.size
  rcases hk with ⟨hk, hb⟩ | ⟨hk, hb⟩
  · have : (!t.valid o.sector || o.data.length != t.size) = true := by
      simp [valid, hl, hs]; omega
    simp only [play, hk, write, hup, this, if_true]; exact ⟨rfl, h⟩
  · have : (!t.valid o.sector) = true := by simp [valid, hl]; omega
    simp only [play, hk, read, hup, this, if_true]; exact ⟨by simp, h⟩
theorem Ran.look {t : DSt} {n m : Nat} {N d : Int} (h : t.Ran n m N d) (hd : d ≤ N) (o : Op15) (hk : o.kind = 1) (h0 : 0 ≤ o.sector) (h1 : o.sector < (n : Int)) : (t.play o).1.2 = 0 ∧ (t.play o).2.Ran n m N d := by
  have hup := (h.up hd).1
  have : (!t.valid o.sector) = false := by have hl := h.len; simp [valid, hl]; omega
  simp [play, hk, read, hup, this, h]
theorem Ran.stepped {t : DSt} {n m : Nat} {N d : Int} (h : t.Ran n m N d) (hd : d ≤ N) : t.step.Ran n m N (d + 1) := by
  have hup := h.up hd
  have h0 := h.d0
  have e : t.step = { t with after := t.after - 1, down := decide (t.after = 0) } := by unfold step; rw [if_neg (by omega)]
  rw [e]
  refine ⟨h.len, h.size, by omega, by omega, fun hle => ⟨by simp; omega, by simp; omega⟩, fun he => by simp; omega⟩
theorem Ran.go {t : DSt} {n m : Nat} {N d : Int} (h : t.Ran n m N d) (hd : d ≤ N) (o : Op15) (hk : o.kind = 2 ∨ (o.kind = 0 ∧ 0 ≤ o.sector ∧ o.sector < (n : Int) ∧ o.data.length = m)) : (t.play o).1.2 = (if d = N then 8 else 0) ∧ (t.play o).2.Ran n m N (d + 1) := by
  have hup := h.up hd
  have hs := h.stepped hd
  have hf : t.failing = decide (d = N) := by unfold failing; rw [decide_eq_decide]; omega
  rcases hk with hk | ⟨hk, h0, h1, h2⟩
  · simp only [play, hk, sync, hup.1, hf]
    by_cases e : d = N
    · simp [e]; simpa [e] using hs
    · simp [e]
      exact ⟨by simp [flush, foldl_set_len]; exact hs.len, hs.size, hs.d0, hs.le, hs.up, hs.off⟩
  · have hl := h.len
    have hz := h.size
    have hv : (!t.valid o.sector || o.data.length != t.size) = false := by simp [valid, hl, hz]; omega
    have hp : (t.push o.sector.toNat o.data).Ran n m N d := ⟨h.len, h.size, h.d0, h.le, h.up, h.off⟩
    have hp2 := hp.stepped hd
    have hf2 : (t.push o.sector.toNat o.data).failing = t.failing := rfl
    simp only [play, hk, write, hup.1, hv, hf, if_true]
    by_cases e : d = N
    · simp [e]; simpa [e] using hp2
    · simp [e]; exact hp2
theorem Ran.pend {t : DSt} {o : Op15} {k : Nat} (h : t.pend.length ≤ k) : (t.play o).2.pend.length ≤ k + 1 := by have := (t.play_shape o).2.2; omega
theorem fail_ran {n m : Nat} {N : Int} (hN : 0 ≤ N) : ((new n m).fail N).Ran n m N 0 := by
  refine ⟨by simp [new, fail], by simp [new, fail], by omega, by omega, fun _ => ?_, fun h => absurd h (by omega)⟩
  simp [new, fail]; omega
theorem Ran.sync_zero {t : DSt} (h : t.down = false) (ha : t.after = -1) : t.sync.1 = 0 := by
  simp [sync, h, failing, ha]
end DSt
set_option maxRecDepth 100000 in
set_option maxHeartbeats 8000000 in
theorem diskFails_walk (w : World) (sectors : Int) (_ : -9223372036854775808 ≤ sectors) (_ : sectors ≤ 9223372036854775807) (size : Int) (_ : -9223372036854775808 ≤ size) (_ : size ≤ 9223372036854775807) (N : Int) (hN1 : -9223372036854775808 ≤ N) (hN2 : N ≤ 9223372036854775807) (v : Value) (ops : List Op15) (hv : OpsV w (fun k => k < w.heap.size) v ops) :
    Calls Try.prog 10 #[.int .i64 sectors, .int .i64 size, .int .i64 N, v] w fun e w' => e = .returned (.bool true) ∧ Below w.heap.size w w' := by
  obtain ⟨va, vc, rfl, va1, va2, _⟩ := hv.get
  unfold maxLen at va2
  have V0 := Lib.hid hv; clear hv
  by_cases hs : Small sectors size ops.length
  rotate_left
  · go_enter Try.func10, Try.ntmps10
    go_wp2_with fail
    refine (awake_any w).mono ?_
    rintro e w1 ⟨rfl, hb1⟩
    go_wp2_with fail
    refine (small_no _ _ _ _ _ hs).mono ?_
    rintro e w' ⟨rfl, rfl⟩
    go_wp2_with fail
    go_ret
    exact ⟨rfl, hb1⟩
  obtain ⟨n, rfl⟩ := Int.eq_ofNat_of_zero_le (show 0 ≤ sectors by have := hs.1; omega)
  obtain ⟨m, rfl⟩ := Int.eq_ofNat_of_zero_le (show 0 ≤ size by have := hs.2.2.1; omega)
  have hs' := hs
  obtain ⟨hn1, hn2, hm1, hm2, hl40⟩ := hs'
  by_cases hN : N < 0
  · go_enter Try.func10, Try.ntmps10
    go_wp2_with fail
    refine (awake_any w).mono ?_
    rintro e w1 ⟨rfl, hb1⟩
    go_wp2_with fail
    refine (small_yes _ _ _ _ _ hs).mono ?_
    rintro e w' ⟨rfl, rfl⟩
    go_wp2_with fail
    go_ret
    exact ⟨rfl, hb1⟩
  go_enter Try.func10, Try.ntmps10
  go_wp2_with fail
  refine (awake_any w).mono ?_
  rintro e w1 ⟨rfl, hb1⟩
  have B1 := Lib.hid hb1
  clear hb1
  go_wp2_with fail
  refine (small_yes _ _ _ _ _ hs).mono ?_
  rintro e w' ⟨rfl, rfl⟩

  go_wp2_with fail
  refine (new_yes n m w1 (by omega) (by omega) (by omega) (by omega)).mono ?_
  rintro e w2 ⟨b, rfl, hb2, hD2⟩
  have B2 := Lib.hid (B1.out.trans (hb2.mono B1.out.size))
  have D2 := Lib.hid hD2
  have F2 : Hid (From w.heap.size (fun k => w1.heap.size ≤ k ∧ k < w2.heap.size)) := fun k hk => Nat.le_trans B1.out.size hk.1
  clear hb2 hD2
  generalize (fun k => w1.heap.size ≤ k ∧ k < w2.heap.size) = F2' at *
  go_wp2_with fail
  refine (fail_any D2.out N hN2).mono ?_
  rintro e w3 ⟨rfl, hst3, hD3⟩
  have B3 := Lib.hid (B2.out.trans (hst3.below F2.out B2.out.size))
  have D3 := Lib.hid hD3
  have F3 := Lib.hid (Plus.froms (w' := w3) F2.out B2.out.size)
  have R3 := Lib.hid (DSt.fail_ran (n := n) (m := m) (N := N) (by omega))
  have p3 : ((DSt.new n m).fail N).pend.length ≤ 0 := by simp [DSt.new, DSt.fail]
  clear hst3 hD3 D2 F2 B2
  generalize (DSt.new n m).fail N = t0 at *
  generalize Plus F2' w2 w3 = F3' at *
  go_wp2_with fail
  go_loopw [12, 11] (fun i dn wr => ∃ (k : Nat) (d : Int) (t : DSt) (F : Nat → Prop), k ≤ ops.length ∧ i = .int .i64 (k : Int) ∧ dn = .int .i64 d ∧ d ≤ k ∧ Below w.heap.size w wr ∧ DiskAt wr t b F ∧ From w.heap.size F ∧ t.Ran n m N d ∧ t.pend.length ≤ k) (fun i _ _ => ops.length - (intOf i).toNat)
  case atStart => exact ⟨0, 0, t0, F3', Nat.zero_le _, rfl, rfl, by omega, B3.out, D3.out, F3.out, R3.out, p3⟩
  case round =>
    obtain ⟨k, d, t, F, hk, rfl, rfl, hdk, hbl, hD, hF, hR, hpt⟩ := hrel
    by_cases hlt : k < ops.length
    · obtain ⟨_, _, e0, _, _, hget⟩ := (V0.out.same (fun x hx => hbl.block x hx)).get
      obtain ⟨rfl, rfl⟩ : _ ∧ _ := by simpa using e0
      obtain ⟨ob, oo, odv, okv, rfl, hFb, hfit, hdv, hkv, o0, o1, o2, o3, o4, o5⟩ := hget k hlt
      obtain ⟨oda, odc, rfl, _, _, _⟩ := hdv.get
      obtain ⟨oka, okc, rfl, _, _, _⟩ := SV.get hkv
      have Hfit := Lib.hid hfit
      have Hdv := Lib.hid hdv
      have Hkv := Lib.hid hkv
      have HR := Lib.hid hR
      have HD := Lib.hid hD
      have Hbl := Lib.hid hbl
      have HF := Lib.hid hF
      have ik : (k : Int) < (ops.length : Int) := by omega
      clear hget hfit hdv hkv e0 hFb hR hD hbl hF B3 D3 F3 R3 B1
      generalize ops[k] = o at *
      obtain ⟨kind, sec, dat, nn, kp, x⟩ := o
      simp only at *
      have hr0 := HR.out.d0
      have hr1 := HR.out.le
      have hcase : (kind ≠ 0 ∧ kind ≠ 1 ∧ kind ≠ 2) ∨ kind = 0 ∨ kind = 1 ∨ kind = 2 := by omega
      rcases hcase with ⟨h0, h1, h2⟩ | rfl | rfl | rfl
      · have hb0 : (kind != 0) = true := by simpa using h0
        have hb1 : (kind != 1) = true := by simpa using h1
        have hb2 : (kind != 2) = true := by simpa using h2
        clear h0 h1 h2
        go_wp2_with fail
        go_roundw
        case rel => exact ⟨k + 1, d, t, F, by omega, by go_num, rfl, by omega, Hbl.out.alloc Hbl.out.size _, HD.out.below ((Below.refl _ _).alloc (Nat.le_refl _) _), HF.out, HR.out, by omega⟩
        case measure => simp [intOf]; omega
      · rcases (show (sec < 0) ∨ (0 ≤ sec ∧ (n : Int) ≤ sec) ∨ (0 ≤ sec ∧ sec < (n : Int) ∧ dat.length ≠ m) ∨ (0 ≤ sec ∧ sec < (n : Int) ∧ dat.length = m) by omega) with hb | hb | hb | hb
        · have hb0 := hb
          have Hb := Lib.hid hb
          clear hb
          rcases (show d = N + 1 ∨ d ≤ N by omega) with hd | hd
          · have hd2 : N < d := by omega
            have Hd := Lib.hid hd
            clear hd
            have O0 : Hid (Inn F wr) := HD.out.inn
            go_wp2_with fail
            generalize hW : wr.alloc (.cells #[.int .i64 0, .int .i64 sec, .slice oda dat.length odc, .int .i64 nn, .slice oka kp.length okc, .int .u8 (x.toNat : Int)] 50) = wa at *
            have Ba : Below wr.heap.size wr wa := hW ▸ (Below.refl _ _).alloc (Nat.le_refl _) _
            have Ca : Blk wa wr.heap.size [.int .i64 0, .int .i64 sec, .slice oda dat.length odc, .int .i64 nn, .slice oka kp.length okc, .int .u8 (x.toNat : Int)] 50 := hW ▸ Blk.new _ _ _
            have Sa : w.heap.size ≤ wa.heap.size := Nat.le_trans Hbl.out.size Ba.size
            have Da := Lib.hid (HD.out.below Ba)
            refine (play_at Da.out (by omega) ⟨0, sec, dat, nn, kp, x⟩ Hfit.out _ _ (Hdv.out.grow Ba) (SV.grow Hkv.out Ba) (fun y hy hf => by have := HF.out y hf; omega)).mono ?_
            rintro e w4 ⟨rv, rfl, hst4, hD4, _⟩
            have B4 := Lib.hid ((Hbl.out.trans (Ba.mono Hbl.out.size)).trans (hst4.below HF.out Sa))
            have D4 := Lib.hid hD4
            have F4 := Lib.hid (Plus.froms (w' := w4) HF.out Sa)
            have C4 : Blk w4 wr.heap.size [.int .i64 0, .int .i64 sec, .slice oda dat.length odc, .int .i64 nn, .slice oka kp.length okc, .int .u8 (x.toNat : Int)] 50 := Ca.of_same (hst4.keep _ Ca.lt (fun hf => Nat.lt_irrefl _ (O0.out _ hf)))
            have q0 := C4.cell (i := 0) rfl
            have q1 := C4.cell (i := 1) rfl
            have q2 := C4.cell (i := 2) rfl
            obtain ⟨hc, hR4⟩ := (show DSt.Ran t n m N (N + 1) from Hd.out ▸ HR.out).gone ⟨0, sec, dat, nn, kp, x⟩ (by simp)
            have hp4 : (t.play ⟨0, sec, dat, nn, kp, x⟩).2.pend.length ≤ k + 1 := DSt.Ran.pend hpt
            rw [← Hd.out] at hR4
            have hdn : (t.play ⟨0, sec, dat, nn, kp, x⟩).2.down = true := by have := Hd.out; exact hR4.off (by omega)
            rw [hc]
            have R4 := Lib.hid hR4
            have Hdn := Lib.hid hdn
            have Hp4 := Lib.hid hp4
            clear hst4 hD4 hR4 Da Ca Ba hc hdn hp4 C4 o0 o1 o2 o3 o4 o5 hW
            generalize (t.play ⟨0, sec, dat, nn, kp, x⟩).2 = t4 at *
            generalize Plus F wa w4 = F4' at *
            go_wp2_with fail
            refine (down_any D4.out).mono ?_
            rintro e w' ⟨rfl, rfl⟩
            rw [Hdn.out]
            clear q0 q1 q2
            go_wp2_with fail
            go_roundw
            case rel => exact ⟨k + 1, d, t4, F4', by omega, by go_num, rfl, by omega, B4.out, D4.out, F4.out, R4.out, Hp4.out⟩
            case measure => simp [intOf]; omega
          · have O0 : Hid (Inn F wr) := HD.out.inn
            go_wp2_with fail
            generalize hW : wr.alloc (.cells #[.int .i64 0, .int .i64 sec, .slice oda dat.length odc, .int .i64 nn, .slice oka kp.length okc, .int .u8 (x.toNat : Int)] 50) = wa at *
            have Ba : Below wr.heap.size wr wa := hW ▸ (Below.refl _ _).alloc (Nat.le_refl _) _
            have Ca : Blk wa wr.heap.size [.int .i64 0, .int .i64 sec, .slice oda dat.length odc, .int .i64 nn, .slice oka kp.length okc, .int .u8 (x.toNat : Int)] 50 := hW ▸ Blk.new _ _ _
            have Sa : w.heap.size ≤ wa.heap.size := Nat.le_trans Hbl.out.size Ba.size
            have Da := Lib.hid (HD.out.below Ba)
            refine (play_at Da.out (by omega) ⟨0, sec, dat, nn, kp, x⟩ Hfit.out _ _ (Hdv.out.grow Ba) (SV.grow Hkv.out Ba) (fun y hy hf => by have := HF.out y hf; omega)).mono ?_
            rintro e w4 ⟨rv, rfl, hst4, hD4, _⟩
            have B4 := Lib.hid ((Hbl.out.trans (Ba.mono Hbl.out.size)).trans (hst4.below HF.out Sa))
            have D4 := Lib.hid hD4
            have F4 := Lib.hid (Plus.froms (w' := w4) HF.out Sa)
            have C4 : Blk w4 wr.heap.size [.int .i64 0, .int .i64 sec, .slice oda dat.length odc, .int .i64 nn, .slice oka kp.length okc, .int .u8 (x.toNat : Int)] 50 := Ca.of_same (hst4.keep _ Ca.lt (fun hf => Nat.lt_irrefl _ (O0.out _ hf)))
            have q0 := C4.cell (i := 0) rfl
            have q1 := C4.cell (i := 1) rfl
            have q2 := C4.cell (i := 2) rfl
            obtain ⟨hc, hR4⟩ := HR.out.bad hd ⟨0, sec, dat, nn, kp, x⟩ (by have := Hb.out; simp; omega)
            have hp4 : (t.play ⟨0, sec, dat, nn, kp, x⟩).2.pend.length ≤ k + 1 := DSt.Ran.pend hpt
            have hdn : (t.play ⟨0, sec, dat, nn, kp, x⟩).2.down = false := by exact (hR4.up (by omega)).1
            rw [hc]
            have R4 := Lib.hid hR4
            have Hdn := Lib.hid hdn
            have Hp4 := Lib.hid hp4
            clear hst4 hD4 hR4 Da Ca Ba hc hdn hp4 C4 o0 o1 o2 o3 o4 o5 hW
            generalize (t.play ⟨0, sec, dat, nn, kp, x⟩).2 = t4 at *
            generalize Plus F wa w4 = F4' at *
            go_wp2_with fail
            refine (down_any D4.out).mono ?_
            rintro e w' ⟨rfl, rfl⟩
            rw [Hdn.out]
            clear q0 q1 q2
            go_wp2_with fail
            go_roundw
            case rel => exact ⟨k + 1, d, t4, F4', by omega, by go_num, rfl, by omega, B4.out, D4.out, F4.out, R4.out, Hp4.out⟩
            case measure => simp [intOf]; omega
        · have hb0 := hb.1
          have hb1 := hb.2
          have Hb := Lib.hid hb
          clear hb
          rcases (show d = N + 1 ∨ d ≤ N by omega) with hd | hd
          · have hd2 : N < d := by omega
            have Hd := Lib.hid hd
            clear hd
            have O0 : Hid (Inn F wr) := HD.out.inn
            go_wp2_with fail
            generalize hW : wr.alloc (.cells #[.int .i64 0, .int .i64 sec, .slice oda dat.length odc, .int .i64 nn, .slice oka kp.length okc, .int .u8 (x.toNat : Int)] 50) = wa at *
            have Ba : Below wr.heap.size wr wa := hW ▸ (Below.refl _ _).alloc (Nat.le_refl _) _
            have Ca : Blk wa wr.heap.size [.int .i64 0, .int .i64 sec, .slice oda dat.length odc, .int .i64 nn, .slice oka kp.length okc, .int .u8 (x.toNat : Int)] 50 := hW ▸ Blk.new _ _ _
            have Sa : w.heap.size ≤ wa.heap.size := Nat.le_trans Hbl.out.size Ba.size
            have Da := Lib.hid (HD.out.below Ba)
            refine (play_at Da.out (by omega) ⟨0, sec, dat, nn, kp, x⟩ Hfit.out _ _ (Hdv.out.grow Ba) (SV.grow Hkv.out Ba) (fun y hy hf => by have := HF.out y hf; omega)).mono ?_
            rintro e w4 ⟨rv, rfl, hst4, hD4, _⟩
            have B4 := Lib.hid ((Hbl.out.trans (Ba.mono Hbl.out.size)).trans (hst4.below HF.out Sa))
            have D4 := Lib.hid hD4
            have F4 := Lib.hid (Plus.froms (w' := w4) HF.out Sa)
            have C4 : Blk w4 wr.heap.size [.int .i64 0, .int .i64 sec, .slice oda dat.length odc, .int .i64 nn, .slice oka kp.length okc, .int .u8 (x.toNat : Int)] 50 := Ca.of_same (hst4.keep _ Ca.lt (fun hf => Nat.lt_irrefl _ (O0.out _ hf)))
            have q0 := C4.cell (i := 0) rfl
            have q1 := C4.cell (i := 1) rfl
            have q2 := C4.cell (i := 2) rfl
            obtain ⟨hc, hR4⟩ := (show DSt.Ran t n m N (N + 1) from Hd.out ▸ HR.out).gone ⟨0, sec, dat, nn, kp, x⟩ (by simp)
            have hp4 : (t.play ⟨0, sec, dat, nn, kp, x⟩).2.pend.length ≤ k + 1 := DSt.Ran.pend hpt
            rw [← Hd.out] at hR4
            have hdn : (t.play ⟨0, sec, dat, nn, kp, x⟩).2.down = true := by have := Hd.out; exact hR4.off (by omega)
            rw [hc]
            have R4 := Lib.hid hR4
            have Hdn := Lib.hid hdn
            have Hp4 := Lib.hid hp4
            clear hst4 hD4 hR4 Da Ca Ba hc hdn hp4 C4 o0 o1 o2 o3 o4 o5 hW
            generalize (t.play ⟨0, sec, dat, nn, kp, x⟩).2 = t4 at *
            generalize Plus F wa w4 = F4' at *
            go_wp2_with fail
            refine (down_any D4.out).mono ?_
            rintro e w' ⟨rfl, rfl⟩
            rw [Hdn.out]
            clear q0 q1 q2
            go_wp2_with fail
            go_roundw
            case rel => exact ⟨k + 1, d, t4, F4', by omega, by go_num, rfl, by omega, B4.out, D4.out, F4.out, R4.out, Hp4.out⟩
            case measure => simp [intOf]; omega
          · have O0 : Hid (Inn F wr) := HD.out.inn
            go_wp2_with fail
            generalize hW : wr.alloc (.cells #[.int .i64 0, .int .i64 sec, .slice oda dat.length odc, .int .i64 nn, .slice oka kp.length okc, .int .u8 (x.toNat : Int)] 50) = wa at *
            have Ba : Below wr.heap.size wr wa := hW ▸ (Below.refl _ _).alloc (Nat.le_refl _) _
            have Ca : Blk wa wr.heap.size [.int .i64 0, .int .i64 sec, .slice oda dat.length odc, .int .i64 nn, .slice oka kp.length okc, .int .u8 (x.toNat : Int)] 50 := hW ▸ Blk.new _ _ _
            have Sa : w.heap.size ≤ wa.heap.size := Nat.le_trans Hbl.out.size Ba.size
            have Da := Lib.hid (HD.out.below Ba)
            refine (play_at Da.out (by omega) ⟨0, sec, dat, nn, kp, x⟩ Hfit.out _ _ (Hdv.out.grow Ba) (SV.grow Hkv.out Ba) (fun y hy hf => by have := HF.out y hf; omega)).mono ?_
            rintro e w4 ⟨rv, rfl, hst4, hD4, _⟩
            have B4 := Lib.hid ((Hbl.out.trans (Ba.mono Hbl.out.size)).trans (hst4.below HF.out Sa))
            have D4 := Lib.hid hD4
            have F4 := Lib.hid (Plus.froms (w' := w4) HF.out Sa)
            have C4 : Blk w4 wr.heap.size [.int .i64 0, .int .i64 sec, .slice oda dat.length odc, .int .i64 nn, .slice oka kp.length okc, .int .u8 (x.toNat : Int)] 50 := Ca.of_same (hst4.keep _ Ca.lt (fun hf => Nat.lt_irrefl _ (O0.out _ hf)))
            have q0 := C4.cell (i := 0) rfl
            have q1 := C4.cell (i := 1) rfl
            have q2 := C4.cell (i := 2) rfl
            obtain ⟨hc, hR4⟩ := HR.out.bad hd ⟨0, sec, dat, nn, kp, x⟩ (by have := Hb.out; simp; omega)
            have hp4 : (t.play ⟨0, sec, dat, nn, kp, x⟩).2.pend.length ≤ k + 1 := DSt.Ran.pend hpt
            have hdn : (t.play ⟨0, sec, dat, nn, kp, x⟩).2.down = false := by exact (hR4.up (by omega)).1
            rw [hc]
            have R4 := Lib.hid hR4
            have Hdn := Lib.hid hdn
            have Hp4 := Lib.hid hp4
            clear hst4 hD4 hR4 Da Ca Ba hc hdn hp4 C4 o0 o1 o2 o3 o4 o5 hW
            generalize (t.play ⟨0, sec, dat, nn, kp, x⟩).2 = t4 at *
            generalize Plus F wa w4 = F4' at *
            go_wp2_with fail
            refine (down_any D4.out).mono ?_
            rintro e w' ⟨rfl, rfl⟩
            rw [Hdn.out]
            clear q0 q1 q2
            go_wp2_with fail
            go_roundw
            case rel => exact ⟨k + 1, d, t4, F4', by omega, by go_num, rfl, by omega, B4.out, D4.out, F4.out, R4.out, Hp4.out⟩
            case measure => simp [intOf]; omega
        · have hle : ((dat.length : Int) == (m : Int)) = false := by simp; omega
          have hb0 := hb.1
          have hb1 := hb.2.1
          have Hb := Lib.hid hb
          clear hb
          rcases (show d = N + 1 ∨ d ≤ N by omega) with hd | hd
          · have hd2 : N < d := by omega
            have Hd := Lib.hid hd
            clear hd
            have O0 : Hid (Inn F wr) := HD.out.inn
            go_wp2_with fail
            generalize hW : wr.alloc (.cells #[.int .i64 0, .int .i64 sec, .slice oda dat.length odc, .int .i64 nn, .slice oka kp.length okc, .int .u8 (x.toNat : Int)] 50) = wa at *
            have Ba : Below wr.heap.size wr wa := hW ▸ (Below.refl _ _).alloc (Nat.le_refl _) _
            have Ca : Blk wa wr.heap.size [.int .i64 0, .int .i64 sec, .slice oda dat.length odc, .int .i64 nn, .slice oka kp.length okc, .int .u8 (x.toNat : Int)] 50 := hW ▸ Blk.new _ _ _
            have Sa : w.heap.size ≤ wa.heap.size := Nat.le_trans Hbl.out.size Ba.size
            have Da := Lib.hid (HD.out.below Ba)
            refine (play_at Da.out (by omega) ⟨0, sec, dat, nn, kp, x⟩ Hfit.out _ _ (Hdv.out.grow Ba) (SV.grow Hkv.out Ba) (fun y hy hf => by have := HF.out y hf; omega)).mono ?_
            rintro e w4 ⟨rv, rfl, hst4, hD4, _⟩
            have B4 := Lib.hid ((Hbl.out.trans (Ba.mono Hbl.out.size)).trans (hst4.below HF.out Sa))
            have D4 := Lib.hid hD4
            have F4 := Lib.hid (Plus.froms (w' := w4) HF.out Sa)
            have C4 : Blk w4 wr.heap.size [.int .i64 0, .int .i64 sec, .slice oda dat.length odc, .int .i64 nn, .slice oka kp.length okc, .int .u8 (x.toNat : Int)] 50 := Ca.of_same (hst4.keep _ Ca.lt (fun hf => Nat.lt_irrefl _ (O0.out _ hf)))
            have q0 := C4.cell (i := 0) rfl
            have q1 := C4.cell (i := 1) rfl
            have q2 := C4.cell (i := 2) rfl
            obtain ⟨hc, hR4⟩ := (show DSt.Ran t n m N (N + 1) from Hd.out ▸ HR.out).gone ⟨0, sec, dat, nn, kp, x⟩ (by simp)
            have hp4 : (t.play ⟨0, sec, dat, nn, kp, x⟩).2.pend.length ≤ k + 1 := DSt.Ran.pend hpt
            rw [← Hd.out] at hR4
            have hdn : (t.play ⟨0, sec, dat, nn, kp, x⟩).2.down = true := by have := Hd.out; exact hR4.off (by omega)
            rw [hc]
            have R4 := Lib.hid hR4
            have Hdn := Lib.hid hdn
            have Hp4 := Lib.hid hp4
            clear hst4 hD4 hR4 Da Ca Ba hc hdn hp4 C4 o0 o1 o2 o3 o4 o5 hW
            generalize (t.play ⟨0, sec, dat, nn, kp, x⟩).2 = t4 at *
            generalize Plus F wa w4 = F4' at *
            go_wp2_with fail
            refine (down_any D4.out).mono ?_
            rintro e w' ⟨rfl, rfl⟩
            rw [Hdn.out]
            clear q0 q1 q2
            go_wp2_with fail
            go_roundw
            case rel => exact ⟨k + 1, d, t4, F4', by omega, by go_num, rfl, by omega, B4.out, D4.out, F4.out, R4.out, Hp4.out⟩
            case measure => simp [intOf]; omega
          · have O0 : Hid (Inn F wr) := HD.out.inn
            go_wp2_with fail
            generalize hW : wr.alloc (.cells #[.int .i64 0, .int .i64 sec, .slice oda dat.length odc, .int .i64 nn, .slice oka kp.length okc, .int .u8 (x.toNat : Int)] 50) = wa at *
            have Ba : Below wr.heap.size wr wa := hW ▸ (Below.refl _ _).alloc (Nat.le_refl _) _
            have Ca : Blk wa wr.heap.size [.int .i64 0, .int .i64 sec, .slice oda dat.length odc, .int .i64 nn, .slice oka kp.length okc, .int .u8 (x.toNat : Int)] 50 := hW ▸ Blk.new _ _ _
            have Sa : w.heap.size ≤ wa.heap.size := Nat.le_trans Hbl.out.size Ba.size
            have Da := Lib.hid (HD.out.below Ba)
            refine (play_at Da.out (by omega) ⟨0, sec, dat, nn, kp, x⟩ Hfit.out _ _ (Hdv.out.grow Ba) (SV.grow Hkv.out Ba) (fun y hy hf => by have := HF.out y hf; omega)).mono ?_
            rintro e w4 ⟨rv, rfl, hst4, hD4, _⟩
            have B4 := Lib.hid ((Hbl.out.trans (Ba.mono Hbl.out.size)).trans (hst4.below HF.out Sa))
            have D4 := Lib.hid hD4
            have F4 := Lib.hid (Plus.froms (w' := w4) HF.out Sa)
            have C4 : Blk w4 wr.heap.size [.int .i64 0, .int .i64 sec, .slice oda dat.length odc, .int .i64 nn, .slice oka kp.length okc, .int .u8 (x.toNat : Int)] 50 := Ca.of_same (hst4.keep _ Ca.lt (fun hf => Nat.lt_irrefl _ (O0.out _ hf)))
            have q0 := C4.cell (i := 0) rfl
            have q1 := C4.cell (i := 1) rfl
            have q2 := C4.cell (i := 2) rfl
            obtain ⟨hc, hR4⟩ := HR.out.bad hd ⟨0, sec, dat, nn, kp, x⟩ (by have := Hb.out; simp; omega)
            have hp4 : (t.play ⟨0, sec, dat, nn, kp, x⟩).2.pend.length ≤ k + 1 := DSt.Ran.pend hpt
            have hdn : (t.play ⟨0, sec, dat, nn, kp, x⟩).2.down = false := by exact (hR4.up (by omega)).1
            rw [hc]
            have R4 := Lib.hid hR4
            have Hdn := Lib.hid hdn
            have Hp4 := Lib.hid hp4
            clear hst4 hD4 hR4 Da Ca Ba hc hdn hp4 C4 o0 o1 o2 o3 o4 o5 hW
            generalize (t.play ⟨0, sec, dat, nn, kp, x⟩).2 = t4 at *
            generalize Plus F wa w4 = F4' at *
            go_wp2_with fail
            refine (down_any D4.out).mono ?_
            rintro e w' ⟨rfl, rfl⟩
            rw [Hdn.out]
            clear q0 q1 q2
            go_wp2_with fail
            go_roundw
            case rel => exact ⟨k + 1, d, t4, F4', by omega, by go_num, rfl, by omega, B4.out, D4.out, F4.out, R4.out, Hp4.out⟩
            case measure => simp [intOf]; omega
        · have hle : ((dat.length : Int) == (m : Int)) = true := by simp; omega
          have hb0 := hb.1
          have hb1 := hb.2.1
          have Hb := Lib.hid hb
          clear hb
          rcases (show d = N + 1 ∨ d < N ∨ d = N by omega) with hd | hd | hd
          · have hd2 : N < d := by omega
            have Hd := Lib.hid hd
            clear hd
            have O0 : Hid (Inn F wr) := HD.out.inn
            go_wp2_with fail
            generalize hW : wr.alloc (.cells #[.int .i64 0, .int .i64 sec, .slice oda dat.length odc, .int .i64 nn, .slice oka kp.length okc, .int .u8 (x.toNat : Int)] 50) = wa at *
            have Ba : Below wr.heap.size wr wa := hW ▸ (Below.refl _ _).alloc (Nat.le_refl _) _
            have Ca : Blk wa wr.heap.size [.int .i64 0, .int .i64 sec, .slice oda dat.length odc, .int .i64 nn, .slice oka kp.length okc, .int .u8 (x.toNat : Int)] 50 := hW ▸ Blk.new _ _ _
            have Sa : w.heap.size ≤ wa.heap.size := Nat.le_trans Hbl.out.size Ba.size
            have Da := Lib.hid (HD.out.below Ba)
            refine (play_at Da.out (by omega) ⟨0, sec, dat, nn, kp, x⟩ Hfit.out _ _ (Hdv.out.grow Ba) (SV.grow Hkv.out Ba) (fun y hy hf => by have := HF.out y hf; omega)).mono ?_
            rintro e w4 ⟨rv, rfl, hst4, hD4, _⟩
            have B4 := Lib.hid ((Hbl.out.trans (Ba.mono Hbl.out.size)).trans (hst4.below HF.out Sa))
            have D4 := Lib.hid hD4
            have F4 := Lib.hid (Plus.froms (w' := w4) HF.out Sa)
            have C4 : Blk w4 wr.heap.size [.int .i64 0, .int .i64 sec, .slice oda dat.length odc, .int .i64 nn, .slice oka kp.length okc, .int .u8 (x.toNat : Int)] 50 := Ca.of_same (hst4.keep _ Ca.lt (fun hf => Nat.lt_irrefl _ (O0.out _ hf)))
            have q0 := C4.cell (i := 0) rfl
            have q1 := C4.cell (i := 1) rfl
            have q2 := C4.cell (i := 2) rfl
            obtain ⟨hc, hR4⟩ := (show DSt.Ran t n m N (N + 1) from Hd.out ▸ HR.out).gone ⟨0, sec, dat, nn, kp, x⟩ (by simp)
            have hp4 : (t.play ⟨0, sec, dat, nn, kp, x⟩).2.pend.length ≤ k + 1 := DSt.Ran.pend hpt
            rw [← Hd.out] at hR4
            have hdn : (t.play ⟨0, sec, dat, nn, kp, x⟩).2.down = true := by have := Hd.out; exact hR4.off (by omega)
            rw [hc]
            have R4 := Lib.hid hR4
            have Hdn := Lib.hid hdn
            have Hp4 := Lib.hid hp4
            clear hst4 hD4 hR4 Da Ca Ba hc hdn hp4 C4 o0 o1 o2 o3 o4 o5 hW
            generalize (t.play ⟨0, sec, dat, nn, kp, x⟩).2 = t4 at *
            generalize Plus F wa w4 = F4' at *
            go_wp2_with fail
            refine (down_any D4.out).mono ?_
            rintro e w' ⟨rfl, rfl⟩
            rw [Hdn.out]
            clear q0 q1 q2
            go_wp2_with fail
            go_roundw
            case rel => exact ⟨k + 1, d, t4, F4', by omega, by go_num, rfl, by omega, B4.out, D4.out, F4.out, R4.out, Hp4.out⟩
            case measure => simp [intOf]; omega
          · have O0 : Hid (Inn F wr) := HD.out.inn
            go_wp2_with fail
            generalize hW : wr.alloc (.cells #[.int .i64 0, .int .i64 sec, .slice oda dat.length odc, .int .i64 nn, .slice oka kp.length okc, .int .u8 (x.toNat : Int)] 50) = wa at *
            have Ba : Below wr.heap.size wr wa := hW ▸ (Below.refl _ _).alloc (Nat.le_refl _) _
            have Ca : Blk wa wr.heap.size [.int .i64 0, .int .i64 sec, .slice oda dat.length odc, .int .i64 nn, .slice oka kp.length okc, .int .u8 (x.toNat : Int)] 50 := hW ▸ Blk.new _ _ _
            have Sa : w.heap.size ≤ wa.heap.size := Nat.le_trans Hbl.out.size Ba.size
            have Da := Lib.hid (HD.out.below Ba)
            refine (play_at Da.out (by omega) ⟨0, sec, dat, nn, kp, x⟩ Hfit.out _ _ (Hdv.out.grow Ba) (SV.grow Hkv.out Ba) (fun y hy hf => by have := HF.out y hf; omega)).mono ?_
            rintro e w4 ⟨rv, rfl, hst4, hD4, _⟩
            have B4 := Lib.hid ((Hbl.out.trans (Ba.mono Hbl.out.size)).trans (hst4.below HF.out Sa))
            have D4 := Lib.hid hD4
            have F4 := Lib.hid (Plus.froms (w' := w4) HF.out Sa)
            have C4 : Blk w4 wr.heap.size [.int .i64 0, .int .i64 sec, .slice oda dat.length odc, .int .i64 nn, .slice oka kp.length okc, .int .u8 (x.toNat : Int)] 50 := Ca.of_same (hst4.keep _ Ca.lt (fun hf => Nat.lt_irrefl _ (O0.out _ hf)))
            have q0 := C4.cell (i := 0) rfl
            have q1 := C4.cell (i := 1) rfl
            have q2 := C4.cell (i := 2) rfl
            obtain ⟨hc, hR4⟩ := HR.out.go (Int.le_of_lt hd) ⟨0, sec, dat, nn, kp, x⟩ (.inr ⟨rfl, Hb.out⟩)
            rw [if_neg (by omega)] at hc
            have hp4 : (t.play ⟨0, sec, dat, nn, kp, x⟩).2.pend.length ≤ k + 1 := DSt.Ran.pend hpt
            have hdn : (t.play ⟨0, sec, dat, nn, kp, x⟩).2.down = false := by exact (hR4.up (by omega)).1
            rw [hc]
            have R4 := Lib.hid hR4
            have Hdn := Lib.hid hdn
            have Hp4 := Lib.hid hp4
            clear hst4 hD4 hR4 Da Ca Ba hc hdn hp4 C4 o0 o1 o2 o3 o4 o5 hW
            generalize (t.play ⟨0, sec, dat, nn, kp, x⟩).2 = t4 at *
            generalize Plus F wa w4 = F4' at *
            go_wp2_with fail
            refine (down_any D4.out).mono ?_
            rintro e w' ⟨rfl, rfl⟩
            rw [Hdn.out]
            clear q0 q1 q2
            go_wp2_with fail
            go_roundw
            case rel => exact ⟨k + 1, d + 1, t4, F4', by omega, by go_num, rfl, by omega, B4.out, D4.out, F4.out, R4.out, Hp4.out⟩
            case measure => simp [intOf]; omega
          · have hd2 : ¬ d < N := by omega
            have hd3 : ¬ N < d := by omega
            have hd6 : N < d + 1 := by omega
            have hd4 : 0 ≤ d ∧ d + 1 ≤ 41 := by omega
            obtain ⟨hd4, hd5⟩ := hd4
            have Hd := Lib.hid hd
            clear hd
            have O0 : Hid (Inn F wr) := HD.out.inn
            go_wp2_with fail
            generalize hW : wr.alloc (.cells #[.int .i64 0, .int .i64 sec, .slice oda dat.length odc, .int .i64 nn, .slice oka kp.length okc, .int .u8 (x.toNat : Int)] 50) = wa at *
            have Ba : Below wr.heap.size wr wa := hW ▸ (Below.refl _ _).alloc (Nat.le_refl _) _
            have Ca : Blk wa wr.heap.size [.int .i64 0, .int .i64 sec, .slice oda dat.length odc, .int .i64 nn, .slice oka kp.length okc, .int .u8 (x.toNat : Int)] 50 := hW ▸ Blk.new _ _ _
            have Sa : w.heap.size ≤ wa.heap.size := Nat.le_trans Hbl.out.size Ba.size
            have Da := Lib.hid (HD.out.below Ba)
            refine (play_at Da.out (by omega) ⟨0, sec, dat, nn, kp, x⟩ Hfit.out _ _ (Hdv.out.grow Ba) (SV.grow Hkv.out Ba) (fun y hy hf => by have := HF.out y hf; omega)).mono ?_
            rintro e w4 ⟨rv, rfl, hst4, hD4, _⟩
            have B4 := Lib.hid ((Hbl.out.trans (Ba.mono Hbl.out.size)).trans (hst4.below HF.out Sa))
            have D4 := Lib.hid hD4
            have F4 := Lib.hid (Plus.froms (w' := w4) HF.out Sa)
            have C4 : Blk w4 wr.heap.size [.int .i64 0, .int .i64 sec, .slice oda dat.length odc, .int .i64 nn, .slice oka kp.length okc, .int .u8 (x.toNat : Int)] 50 := Ca.of_same (hst4.keep _ Ca.lt (fun hf => Nat.lt_irrefl _ (O0.out _ hf)))
            have q0 := C4.cell (i := 0) rfl
            have q1 := C4.cell (i := 1) rfl
            have q2 := C4.cell (i := 2) rfl
            obtain ⟨hc, hR4⟩ := HR.out.go (Int.le_of_eq Hd.out) ⟨0, sec, dat, nn, kp, x⟩ (.inr ⟨rfl, Hb.out⟩)
            rw [if_pos Hd.out] at hc
            have hp4 : (t.play ⟨0, sec, dat, nn, kp, x⟩).2.pend.length ≤ k + 1 := DSt.Ran.pend hpt
            have hdn : (t.play ⟨0, sec, dat, nn, kp, x⟩).2.down = true := by have := Hd.out; exact hR4.off (by omega)
            rw [hc]
            have R4 := Lib.hid hR4
            have Hdn := Lib.hid hdn
            have Hp4 := Lib.hid hp4
            clear hst4 hD4 hR4 Da Ca Ba hc hdn hp4 C4 o0 o1 o2 o3 o4 o5 hW
            generalize (t.play ⟨0, sec, dat, nn, kp, x⟩).2 = t4 at *
            generalize Plus F wa w4 = F4' at *
            go_wp2_with fail
            refine (down_any D4.out).mono ?_
            rintro e w' ⟨rfl, rfl⟩
            rw [Hdn.out]
            clear q0 q1 q2
            go_wp2_with fail
            go_roundw
            case rel => exact ⟨k + 1, d + 1, t4, F4', by omega, by go_num, rfl, by omega, B4.out, D4.out, F4.out, R4.out, Hp4.out⟩
            case measure => simp [intOf]; omega
      · rcases (show (sec < 0) ∨ (0 ≤ sec ∧ (n : Int) ≤ sec) ∨ (0 ≤ sec ∧ sec < (n : Int)) by omega) with hb | hb | hb
        · have hb0 := hb
          have Hb := Lib.hid hb
          clear hb
          rcases (show d = N + 1 ∨ d ≤ N by omega) with hd | hd
          · have hd2 : N < d := by omega
            have Hd := Lib.hid hd
            clear hd
            have O0 : Hid (Inn F wr) := HD.out.inn
            go_wp2_with fail
            generalize hW : wr.alloc (.cells #[.int .i64 1, .int .i64 sec, .slice oda dat.length odc, .int .i64 nn, .slice oka kp.length okc, .int .u8 (x.toNat : Int)] 50) = wa at *
            have Ba : Below wr.heap.size wr wa := hW ▸ (Below.refl _ _).alloc (Nat.le_refl _) _
            have Ca : Blk wa wr.heap.size [.int .i64 1, .int .i64 sec, .slice oda dat.length odc, .int .i64 nn, .slice oka kp.length okc, .int .u8 (x.toNat : Int)] 50 := hW ▸ Blk.new _ _ _
            have Sa : w.heap.size ≤ wa.heap.size := Nat.le_trans Hbl.out.size Ba.size
            have Da := Lib.hid (HD.out.below Ba)
            refine (play_at Da.out (by omega) ⟨1, sec, dat, nn, kp, x⟩ Hfit.out _ _ (Hdv.out.grow Ba) (SV.grow Hkv.out Ba) (fun y hy hf => by have := HF.out y hf; omega)).mono ?_
            rintro e w4 ⟨rv, rfl, hst4, hD4, _⟩
            have B4 := Lib.hid ((Hbl.out.trans (Ba.mono Hbl.out.size)).trans (hst4.below HF.out Sa))
            have D4 := Lib.hid hD4
            have F4 := Lib.hid (Plus.froms (w' := w4) HF.out Sa)
            have C4 : Blk w4 wr.heap.size [.int .i64 1, .int .i64 sec, .slice oda dat.length odc, .int .i64 nn, .slice oka kp.length okc, .int .u8 (x.toNat : Int)] 50 := Ca.of_same (hst4.keep _ Ca.lt (fun hf => Nat.lt_irrefl _ (O0.out _ hf)))
            have q0 := C4.cell (i := 0) rfl
            have q1 := C4.cell (i := 1) rfl
            have q2 := C4.cell (i := 2) rfl
            obtain ⟨hc, hR4⟩ := (show DSt.Ran t n m N (N + 1) from Hd.out ▸ HR.out).gone ⟨1, sec, dat, nn, kp, x⟩ (by simp)
            have hp4 : (t.play ⟨1, sec, dat, nn, kp, x⟩).2.pend.length ≤ k + 1 := DSt.Ran.pend hpt
            rw [← Hd.out] at hR4
            have hdn : (t.play ⟨1, sec, dat, nn, kp, x⟩).2.down = true := by have := Hd.out; exact hR4.off (by omega)
            rw [hc]
            have R4 := Lib.hid hR4
            have Hdn := Lib.hid hdn
            have Hp4 := Lib.hid hp4
            clear hst4 hD4 hR4 Da Ca Ba hc hdn hp4 C4 o0 o1 o2 o3 o4 o5 hW
            generalize (t.play ⟨1, sec, dat, nn, kp, x⟩).2 = t4 at *
            generalize Plus F wa w4 = F4' at *
            go_wp2_with fail
            refine (down_any D4.out).mono ?_
            rintro e w' ⟨rfl, rfl⟩
            rw [Hdn.out]
            clear q0 q1 q2
            go_wp2_with fail
            go_roundw
            case rel => exact ⟨k + 1, d, t4, F4', by omega, by go_num, rfl, by omega, B4.out, D4.out, F4.out, R4.out, Hp4.out⟩
            case measure => simp [intOf]; omega
          · have O0 : Hid (Inn F wr) := HD.out.inn
            go_wp2_with fail
            generalize hW : wr.alloc (.cells #[.int .i64 1, .int .i64 sec, .slice oda dat.length odc, .int .i64 nn, .slice oka kp.length okc, .int .u8 (x.toNat : Int)] 50) = wa at *
            have Ba : Below wr.heap.size wr wa := hW ▸ (Below.refl _ _).alloc (Nat.le_refl _) _
            have Ca : Blk wa wr.heap.size [.int .i64 1, .int .i64 sec, .slice oda dat.length odc, .int .i64 nn, .slice oka kp.length okc, .int .u8 (x.toNat : Int)] 50 := hW ▸ Blk.new _ _ _
            have Sa : w.heap.size ≤ wa.heap.size := Nat.le_trans Hbl.out.size Ba.size
            have Da := Lib.hid (HD.out.below Ba)
            refine (play_at Da.out (by omega) ⟨1, sec, dat, nn, kp, x⟩ Hfit.out _ _ (Hdv.out.grow Ba) (SV.grow Hkv.out Ba) (fun y hy hf => by have := HF.out y hf; omega)).mono ?_
            rintro e w4 ⟨rv, rfl, hst4, hD4, _⟩
            have B4 := Lib.hid ((Hbl.out.trans (Ba.mono Hbl.out.size)).trans (hst4.below HF.out Sa))
            have D4 := Lib.hid hD4
            have F4 := Lib.hid (Plus.froms (w' := w4) HF.out Sa)
            have C4 : Blk w4 wr.heap.size [.int .i64 1, .int .i64 sec, .slice oda dat.length odc, .int .i64 nn, .slice oka kp.length okc, .int .u8 (x.toNat : Int)] 50 := Ca.of_same (hst4.keep _ Ca.lt (fun hf => Nat.lt_irrefl _ (O0.out _ hf)))
            have q0 := C4.cell (i := 0) rfl
            have q1 := C4.cell (i := 1) rfl
            have q2 := C4.cell (i := 2) rfl
            obtain ⟨hc, hR4⟩ := HR.out.bad hd ⟨1, sec, dat, nn, kp, x⟩ (by have := Hb.out; simp; omega)
            have hp4 : (t.play ⟨1, sec, dat, nn, kp, x⟩).2.pend.length ≤ k + 1 := DSt.Ran.pend hpt
            have hdn : (t.play ⟨1, sec, dat, nn, kp, x⟩).2.down = false := by exact (hR4.up (by omega)).1
            rw [hc]
            have R4 := Lib.hid hR4
            have Hdn := Lib.hid hdn
            have Hp4 := Lib.hid hp4
            clear hst4 hD4 hR4 Da Ca Ba hc hdn hp4 C4 o0 o1 o2 o3 o4 o5 hW
            generalize (t.play ⟨1, sec, dat, nn, kp, x⟩).2 = t4 at *
            generalize Plus F wa w4 = F4' at *
            go_wp2_with fail
            refine (down_any D4.out).mono ?_
            rintro e w' ⟨rfl, rfl⟩
            rw [Hdn.out]
            clear q0 q1 q2
            go_wp2_with fail
            go_roundw
            case rel => exact ⟨k + 1, d, t4, F4', by omega, by go_num, rfl, by omega, B4.out, D4.out, F4.out, R4.out, Hp4.out⟩
            case measure => simp [intOf]; omega
        · have hb0 := hb.1
          have hb1 := hb.2
          have Hb := Lib.hid hb
          clear hb
          rcases (show d = N + 1 ∨ d ≤ N by omega) with hd | hd
          · have hd2 : N < d := by omega
            have Hd := Lib.hid hd
            clear hd
            have O0 : Hid (Inn F wr) := HD.out.inn
            go_wp2_with fail
            generalize hW : wr.alloc (.cells #[.int .i64 1, .int .i64 sec, .slice oda dat.length odc, .int .i64 nn, .slice oka kp.length okc, .int .u8 (x.toNat : Int)] 50) = wa at *
            have Ba : Below wr.heap.size wr wa := hW ▸ (Below.refl _ _).alloc (Nat.le_refl _) _
            have Ca : Blk wa wr.heap.size [.int .i64 1, .int .i64 sec, .slice oda dat.length odc, .int .i64 nn, .slice oka kp.length okc, .int .u8 (x.toNat : Int)] 50 := hW ▸ Blk.new _ _ _
            have Sa : w.heap.size ≤ wa.heap.size := Nat.le_trans Hbl.out.size Ba.size
            have Da := Lib.hid (HD.out.below Ba)
            refine (play_at Da.out (by omega) ⟨1, sec, dat, nn, kp, x⟩ Hfit.out _ _ (Hdv.out.grow Ba) (SV.grow Hkv.out Ba) (fun y hy hf => by have := HF.out y hf; omega)).mono ?_
            rintro e w4 ⟨rv, rfl, hst4, hD4, _⟩
            have B4 := Lib.hid ((Hbl.out.trans (Ba.mono Hbl.out.size)).trans (hst4.below HF.out Sa))
            have D4 := Lib.hid hD4
            have F4 := Lib.hid (Plus.froms (w' := w4) HF.out Sa)
            have C4 : Blk w4 wr.heap.size [.int .i64 1, .int .i64 sec, .slice oda dat.length odc, .int .i64 nn, .slice oka kp.length okc, .int .u8 (x.toNat : Int)] 50 := Ca.of_same (hst4.keep _ Ca.lt (fun hf => Nat.lt_irrefl _ (O0.out _ hf)))
            have q0 := C4.cell (i := 0) rfl
            have q1 := C4.cell (i := 1) rfl
            have q2 := C4.cell (i := 2) rfl
            obtain ⟨hc, hR4⟩ := (show DSt.Ran t n m N (N + 1) from Hd.out ▸ HR.out).gone ⟨1, sec, dat, nn, kp, x⟩ (by simp)
            have hp4 : (t.play ⟨1, sec, dat, nn, kp, x⟩).2.pend.length ≤ k + 1 := DSt.Ran.pend hpt
            rw [← Hd.out] at hR4
            have hdn : (t.play ⟨1, sec, dat, nn, kp, x⟩).2.down = true := by have := Hd.out; exact hR4.off (by omega)
            rw [hc]
            have R4 := Lib.hid hR4
            have Hdn := Lib.hid hdn
            have Hp4 := Lib.hid hp4
            clear hst4 hD4 hR4 Da Ca Ba hc hdn hp4 C4 o0 o1 o2 o3 o4 o5 hW
            generalize (t.play ⟨1, sec, dat, nn, kp, x⟩).2 = t4 at *
            generalize Plus F wa w4 = F4' at *
            go_wp2_with fail
            refine (down_any D4.out).mono ?_
            rintro e w' ⟨rfl, rfl⟩
            rw [Hdn.out]
            clear q0 q1 q2
            go_wp2_with fail
            go_roundw
            case rel => exact ⟨k + 1, d, t4, F4', by omega, by go_num, rfl, by omega, B4.out, D4.out, F4.out, R4.out, Hp4.out⟩
            case measure => simp [intOf]; omega
          · have O0 : Hid (Inn F wr) := HD.out.inn
            go_wp2_with fail
            generalize hW : wr.alloc (.cells #[.int .i64 1, .int .i64 sec, .slice oda dat.length odc, .int .i64 nn, .slice oka kp.length okc, .int .u8 (x.toNat : Int)] 50) = wa at *
            have Ba : Below wr.heap.size wr wa := hW ▸ (Below.refl _ _).alloc (Nat.le_refl _) _
            have Ca : Blk wa wr.heap.size [.int .i64 1, .int .i64 sec, .slice oda dat.length odc, .int .i64 nn, .slice oka kp.length okc, .int .u8 (x.toNat : Int)] 50 := hW ▸ Blk.new _ _ _
            have Sa : w.heap.size ≤ wa.heap.size := Nat.le_trans Hbl.out.size Ba.size
            have Da := Lib.hid (HD.out.below Ba)
            refine (play_at Da.out (by omega) ⟨1, sec, dat, nn, kp, x⟩ Hfit.out _ _ (Hdv.out.grow Ba) (SV.grow Hkv.out Ba) (fun y hy hf => by have := HF.out y hf; omega)).mono ?_
            rintro e w4 ⟨rv, rfl, hst4, hD4, _⟩
            have B4 := Lib.hid ((Hbl.out.trans (Ba.mono Hbl.out.size)).trans (hst4.below HF.out Sa))
            have D4 := Lib.hid hD4
            have F4 := Lib.hid (Plus.froms (w' := w4) HF.out Sa)
            have C4 : Blk w4 wr.heap.size [.int .i64 1, .int .i64 sec, .slice oda dat.length odc, .int .i64 nn, .slice oka kp.length okc, .int .u8 (x.toNat : Int)] 50 := Ca.of_same (hst4.keep _ Ca.lt (fun hf => Nat.lt_irrefl _ (O0.out _ hf)))
            have q0 := C4.cell (i := 0) rfl
            have q1 := C4.cell (i := 1) rfl
            have q2 := C4.cell (i := 2) rfl
            obtain ⟨hc, hR4⟩ := HR.out.bad hd ⟨1, sec, dat, nn, kp, x⟩ (by have := Hb.out; simp; omega)
            have hp4 : (t.play ⟨1, sec, dat, nn, kp, x⟩).2.pend.length ≤ k + 1 := DSt.Ran.pend hpt
            have hdn : (t.play ⟨1, sec, dat, nn, kp, x⟩).2.down = false := by exact (hR4.up (by omega)).1
            rw [hc]
            have R4 := Lib.hid hR4
            have Hdn := Lib.hid hdn
            have Hp4 := Lib.hid hp4
            clear hst4 hD4 hR4 Da Ca Ba hc hdn hp4 C4 o0 o1 o2 o3 o4 o5 hW
            generalize (t.play ⟨1, sec, dat, nn, kp, x⟩).2 = t4 at *
            generalize Plus F wa w4 = F4' at *
            go_wp2_with fail
            refine (down_any D4.out).mono ?_
            rintro e w' ⟨rfl, rfl⟩
            rw [Hdn.out]
            clear q0 q1 q2
            go_wp2_with fail
            go_roundw
            case rel => exact ⟨k + 1, d, t4, F4', by omega, by go_num, rfl, by omega, B4.out, D4.out, F4.out, R4.out, Hp4.out⟩
            case measure => simp [intOf]; omega
        · have hb0 := hb.1
          have hb1 := hb.2
          have Hb := Lib.hid hb
          clear hb
          rcases (show d = N + 1 ∨ d ≤ N by omega) with hd | hd
          · have hd2 : N < d := by omega
            have Hd := Lib.hid hd
            clear hd
            have O0 : Hid (Inn F wr) := HD.out.inn
            go_wp2_with fail
            generalize hW : wr.alloc (.cells #[.int .i64 1, .int .i64 sec, .slice oda dat.length odc, .int .i64 nn, .slice oka kp.length okc, .int .u8 (x.toNat : Int)] 50) = wa at *
            have Ba : Below wr.heap.size wr wa := hW ▸ (Below.refl _ _).alloc (Nat.le_refl _) _
            have Ca : Blk wa wr.heap.size [.int .i64 1, .int .i64 sec, .slice oda dat.length odc, .int .i64 nn, .slice oka kp.length okc, .int .u8 (x.toNat : Int)] 50 := hW ▸ Blk.new _ _ _
            have Sa : w.heap.size ≤ wa.heap.size := Nat.le_trans Hbl.out.size Ba.size
            have Da := Lib.hid (HD.out.below Ba)
            refine (play_at Da.out (by omega) ⟨1, sec, dat, nn, kp, x⟩ Hfit.out _ _ (Hdv.out.grow Ba) (SV.grow Hkv.out Ba) (fun y hy hf => by have := HF.out y hf; omega)).mono ?_
            rintro e w4 ⟨rv, rfl, hst4, hD4, _⟩
            have B4 := Lib.hid ((Hbl.out.trans (Ba.mono Hbl.out.size)).trans (hst4.below HF.out Sa))
            have D4 := Lib.hid hD4
            have F4 := Lib.hid (Plus.froms (w' := w4) HF.out Sa)
            have C4 : Blk w4 wr.heap.size [.int .i64 1, .int .i64 sec, .slice oda dat.length odc, .int .i64 nn, .slice oka kp.length okc, .int .u8 (x.toNat : Int)] 50 := Ca.of_same (hst4.keep _ Ca.lt (fun hf => Nat.lt_irrefl _ (O0.out _ hf)))
            have q0 := C4.cell (i := 0) rfl
            have q1 := C4.cell (i := 1) rfl
            have q2 := C4.cell (i := 2) rfl
            obtain ⟨hc, hR4⟩ := (show DSt.Ran t n m N (N + 1) from Hd.out ▸ HR.out).gone ⟨1, sec, dat, nn, kp, x⟩ (by simp)
            have hp4 : (t.play ⟨1, sec, dat, nn, kp, x⟩).2.pend.length ≤ k + 1 := DSt.Ran.pend hpt
            rw [← Hd.out] at hR4
            have hdn : (t.play ⟨1, sec, dat, nn, kp, x⟩).2.down = true := by have := Hd.out; exact hR4.off (by omega)
            rw [hc]
            have R4 := Lib.hid hR4
            have Hdn := Lib.hid hdn
            have Hp4 := Lib.hid hp4
            clear hst4 hD4 hR4 Da Ca Ba hc hdn hp4 C4 o0 o1 o2 o3 o4 o5 hW
            generalize (t.play ⟨1, sec, dat, nn, kp, x⟩).2 = t4 at *
            generalize Plus F wa w4 = F4' at *
            go_wp2_with fail
            refine (down_any D4.out).mono ?_
            rintro e w' ⟨rfl, rfl⟩
            rw [Hdn.out]
            clear q0 q1 q2
            go_wp2_with fail
            go_roundw
            case rel => exact ⟨k + 1, d, t4, F4', by omega, by go_num, rfl, by omega, B4.out, D4.out, F4.out, R4.out, Hp4.out⟩
            case measure => simp [intOf]; omega
          · have O0 : Hid (Inn F wr) := HD.out.inn
            go_wp2_with fail
            generalize hW : wr.alloc (.cells #[.int .i64 1, .int .i64 sec, .slice oda dat.length odc, .int .i64 nn, .slice oka kp.length okc, .int .u8 (x.toNat : Int)] 50) = wa at *
            have Ba : Below wr.heap.size wr wa := hW ▸ (Below.refl _ _).alloc (Nat.le_refl _) _
            have Ca : Blk wa wr.heap.size [.int .i64 1, .int .i64 sec, .slice oda dat.length odc, .int .i64 nn, .slice oka kp.length okc, .int .u8 (x.toNat : Int)] 50 := hW ▸ Blk.new _ _ _
            have Sa : w.heap.size ≤ wa.heap.size := Nat.le_trans Hbl.out.size Ba.size
            have Da := Lib.hid (HD.out.below Ba)
            refine (play_at Da.out (by omega) ⟨1, sec, dat, nn, kp, x⟩ Hfit.out _ _ (Hdv.out.grow Ba) (SV.grow Hkv.out Ba) (fun y hy hf => by have := HF.out y hf; omega)).mono ?_
            rintro e w4 ⟨rv, rfl, hst4, hD4, _⟩
            have B4 := Lib.hid ((Hbl.out.trans (Ba.mono Hbl.out.size)).trans (hst4.below HF.out Sa))
            have D4 := Lib.hid hD4
            have F4 := Lib.hid (Plus.froms (w' := w4) HF.out Sa)
            have C4 : Blk w4 wr.heap.size [.int .i64 1, .int .i64 sec, .slice oda dat.length odc, .int .i64 nn, .slice oka kp.length okc, .int .u8 (x.toNat : Int)] 50 := Ca.of_same (hst4.keep _ Ca.lt (fun hf => Nat.lt_irrefl _ (O0.out _ hf)))
            have q0 := C4.cell (i := 0) rfl
            have q1 := C4.cell (i := 1) rfl
            have q2 := C4.cell (i := 2) rfl
            obtain ⟨hc, hR4⟩ := HR.out.look hd ⟨1, sec, dat, nn, kp, x⟩ rfl Hb.out.1 Hb.out.2
            have hp4 : (t.play ⟨1, sec, dat, nn, kp, x⟩).2.pend.length ≤ k + 1 := DSt.Ran.pend hpt
            have hdn : (t.play ⟨1, sec, dat, nn, kp, x⟩).2.down = false := by exact (hR4.up (by omega)).1
            rw [hc]
            have R4 := Lib.hid hR4
            have Hdn := Lib.hid hdn
            have Hp4 := Lib.hid hp4
            clear hst4 hD4 hR4 Da Ca Ba hc hdn hp4 C4 o0 o1 o2 o3 o4 o5 hW
            generalize (t.play ⟨1, sec, dat, nn, kp, x⟩).2 = t4 at *
            generalize Plus F wa w4 = F4' at *
            go_wp2_with fail
            refine (down_any D4.out).mono ?_
            rintro e w' ⟨rfl, rfl⟩
            rw [Hdn.out]
            clear q0 q1 q2
            go_wp2_with fail
            go_roundw
            case rel => exact ⟨k + 1, d, t4, F4', by omega, by go_num, rfl, by omega, B4.out, D4.out, F4.out, R4.out, Hp4.out⟩
            case measure => simp [intOf]; omega
      · rcases (show d = N + 1 ∨ d < N ∨ d = N by omega) with hd | hd | hd
        · have hd2 : N < d := by omega
          have Hd := Lib.hid hd
          clear hd
          have O0 : Hid (Inn F wr) := HD.out.inn
          go_wp2_with fail
          generalize hW : wr.alloc (.cells #[.int .i64 2, .int .i64 sec, .slice oda dat.length odc, .int .i64 nn, .slice oka kp.length okc, .int .u8 (x.toNat : Int)] 50) = wa at *
          have Ba : Below wr.heap.size wr wa := hW ▸ (Below.refl _ _).alloc (Nat.le_refl _) _
          have Ca : Blk wa wr.heap.size [.int .i64 2, .int .i64 sec, .slice oda dat.length odc, .int .i64 nn, .slice oka kp.length okc, .int .u8 (x.toNat : Int)] 50 := hW ▸ Blk.new _ _ _
          have Sa : w.heap.size ≤ wa.heap.size := Nat.le_trans Hbl.out.size Ba.size
          have Da := Lib.hid (HD.out.below Ba)
          refine (play_at Da.out (by omega) ⟨2, sec, dat, nn, kp, x⟩ Hfit.out _ _ (Hdv.out.grow Ba) (SV.grow Hkv.out Ba) (fun y hy hf => by have := HF.out y hf; omega)).mono ?_
          rintro e w4 ⟨rv, rfl, hst4, hD4, _⟩
          have B4 := Lib.hid ((Hbl.out.trans (Ba.mono Hbl.out.size)).trans (hst4.below HF.out Sa))
          have D4 := Lib.hid hD4
          have F4 := Lib.hid (Plus.froms (w' := w4) HF.out Sa)
          have C4 : Blk w4 wr.heap.size [.int .i64 2, .int .i64 sec, .slice oda dat.length odc, .int .i64 nn, .slice oka kp.length okc, .int .u8 (x.toNat : Int)] 50 := Ca.of_same (hst4.keep _ Ca.lt (fun hf => Nat.lt_irrefl _ (O0.out _ hf)))
          have q0 := C4.cell (i := 0) rfl
          have q1 := C4.cell (i := 1) rfl
          have q2 := C4.cell (i := 2) rfl
          obtain ⟨hc, hR4⟩ := (show DSt.Ran t n m N (N + 1) from Hd.out ▸ HR.out).gone ⟨2, sec, dat, nn, kp, x⟩ (by simp)
          have hp4 : (t.play ⟨2, sec, dat, nn, kp, x⟩).2.pend.length ≤ k + 1 := DSt.Ran.pend hpt
          rw [← Hd.out] at hR4
          have hdn : (t.play ⟨2, sec, dat, nn, kp, x⟩).2.down = true := by have := Hd.out; exact hR4.off (by omega)
          rw [hc]
          have R4 := Lib.hid hR4
          have Hdn := Lib.hid hdn
          have Hp4 := Lib.hid hp4
          clear hst4 hD4 hR4 Da Ca Ba hc hdn hp4 C4 o0 o1 o2 o3 o4 o5 hW
          generalize (t.play ⟨2, sec, dat, nn, kp, x⟩).2 = t4 at *
          generalize Plus F wa w4 = F4' at *
          go_wp2_with fail
          refine (down_any D4.out).mono ?_
          rintro e w' ⟨rfl, rfl⟩
          rw [Hdn.out]
          clear q0 q1 q2
          go_wp2_with fail
          go_roundw
          case rel => exact ⟨k + 1, d, t4, F4', by omega, by go_num, rfl, by omega, B4.out, D4.out, F4.out, R4.out, Hp4.out⟩
          case measure => simp [intOf]; omega
        · have O0 : Hid (Inn F wr) := HD.out.inn
          go_wp2_with fail
          generalize hW : wr.alloc (.cells #[.int .i64 2, .int .i64 sec, .slice oda dat.length odc, .int .i64 nn, .slice oka kp.length okc, .int .u8 (x.toNat : Int)] 50) = wa at *
          have Ba : Below wr.heap.size wr wa := hW ▸ (Below.refl _ _).alloc (Nat.le_refl _) _
          have Ca : Blk wa wr.heap.size [.int .i64 2, .int .i64 sec, .slice oda dat.length odc, .int .i64 nn, .slice oka kp.length okc, .int .u8 (x.toNat : Int)] 50 := hW ▸ Blk.new _ _ _
          have Sa : w.heap.size ≤ wa.heap.size := Nat.le_trans Hbl.out.size Ba.size
          have Da := Lib.hid (HD.out.below Ba)
          refine (play_at Da.out (by omega) ⟨2, sec, dat, nn, kp, x⟩ Hfit.out _ _ (Hdv.out.grow Ba) (SV.grow Hkv.out Ba) (fun y hy hf => by have := HF.out y hf; omega)).mono ?_
          rintro e w4 ⟨rv, rfl, hst4, hD4, _⟩
          have B4 := Lib.hid ((Hbl.out.trans (Ba.mono Hbl.out.size)).trans (hst4.below HF.out Sa))
          have D4 := Lib.hid hD4
          have F4 := Lib.hid (Plus.froms (w' := w4) HF.out Sa)
          have C4 : Blk w4 wr.heap.size [.int .i64 2, .int .i64 sec, .slice oda dat.length odc, .int .i64 nn, .slice oka kp.length okc, .int .u8 (x.toNat : Int)] 50 := Ca.of_same (hst4.keep _ Ca.lt (fun hf => Nat.lt_irrefl _ (O0.out _ hf)))
          have q0 := C4.cell (i := 0) rfl
          have q1 := C4.cell (i := 1) rfl
          have q2 := C4.cell (i := 2) rfl
          obtain ⟨hc, hR4⟩ := HR.out.go (Int.le_of_lt hd) ⟨2, sec, dat, nn, kp, x⟩ (.inl rfl)
          rw [if_neg (by omega)] at hc
          have hp4 : (t.play ⟨2, sec, dat, nn, kp, x⟩).2.pend.length ≤ k + 1 := DSt.Ran.pend hpt
          have hdn : (t.play ⟨2, sec, dat, nn, kp, x⟩).2.down = false := by exact (hR4.up (by omega)).1
          rw [hc]
          have R4 := Lib.hid hR4
          have Hdn := Lib.hid hdn
          have Hp4 := Lib.hid hp4
          clear hst4 hD4 hR4 Da Ca Ba hc hdn hp4 C4 o0 o1 o2 o3 o4 o5 hW
          generalize (t.play ⟨2, sec, dat, nn, kp, x⟩).2 = t4 at *
          generalize Plus F wa w4 = F4' at *
          go_wp2_with fail
          refine (down_any D4.out).mono ?_
          rintro e w' ⟨rfl, rfl⟩
          rw [Hdn.out]
          clear q0 q1 q2
          go_wp2_with fail
          go_roundw
          case rel => exact ⟨k + 1, d + 1, t4, F4', by omega, by go_num, rfl, by omega, B4.out, D4.out, F4.out, R4.out, Hp4.out⟩
          case measure => simp [intOf]; omega
        · have hd2 : ¬ d < N := by omega
          have hd3 : ¬ N < d := by omega
          have hd6 : N < d + 1 := by omega
          have hd4 : 0 ≤ d ∧ d + 1 ≤ 41 := by omega
          obtain ⟨hd4, hd5⟩ := hd4
          have Hd := Lib.hid hd
          clear hd
          have O0 : Hid (Inn F wr) := HD.out.inn
          go_wp2_with fail
          generalize hW : wr.alloc (.cells #[.int .i64 2, .int .i64 sec, .slice oda dat.length odc, .int .i64 nn, .slice oka kp.length okc, .int .u8 (x.toNat : Int)] 50) = wa at *
          have Ba : Below wr.heap.size wr wa := hW ▸ (Below.refl _ _).alloc (Nat.le_refl _) _
          have Ca : Blk wa wr.heap.size [.int .i64 2, .int .i64 sec, .slice oda dat.length odc, .int .i64 nn, .slice oka kp.length okc, .int .u8 (x.toNat : Int)] 50 := hW ▸ Blk.new _ _ _
          have Sa : w.heap.size ≤ wa.heap.size := Nat.le_trans Hbl.out.size Ba.size
          have Da := Lib.hid (HD.out.below Ba)
          refine (play_at Da.out (by omega) ⟨2, sec, dat, nn, kp, x⟩ Hfit.out _ _ (Hdv.out.grow Ba) (SV.grow Hkv.out Ba) (fun y hy hf => by have := HF.out y hf; omega)).mono ?_
          rintro e w4 ⟨rv, rfl, hst4, hD4, _⟩
          have B4 := Lib.hid ((Hbl.out.trans (Ba.mono Hbl.out.size)).trans (hst4.below HF.out Sa))
          have D4 := Lib.hid hD4
          have F4 := Lib.hid (Plus.froms (w' := w4) HF.out Sa)
          have C4 : Blk w4 wr.heap.size [.int .i64 2, .int .i64 sec, .slice oda dat.length odc, .int .i64 nn, .slice oka kp.length okc, .int .u8 (x.toNat : Int)] 50 := Ca.of_same (hst4.keep _ Ca.lt (fun hf => Nat.lt_irrefl _ (O0.out _ hf)))
          have q0 := C4.cell (i := 0) rfl
          have q1 := C4.cell (i := 1) rfl
          have q2 := C4.cell (i := 2) rfl
          obtain ⟨hc, hR4⟩ := HR.out.go (Int.le_of_eq Hd.out) ⟨2, sec, dat, nn, kp, x⟩ (.inl rfl)
          rw [if_pos Hd.out] at hc
          have hp4 : (t.play ⟨2, sec, dat, nn, kp, x⟩).2.pend.length ≤ k + 1 := DSt.Ran.pend hpt
          have hdn : (t.play ⟨2, sec, dat, nn, kp, x⟩).2.down = true := by have := Hd.out; exact hR4.off (by omega)
          rw [hc]
          have R4 := Lib.hid hR4
          have Hdn := Lib.hid hdn
          have Hp4 := Lib.hid hp4
          clear hst4 hD4 hR4 Da Ca Ba hc hdn hp4 C4 o0 o1 o2 o3 o4 o5 hW
          generalize (t.play ⟨2, sec, dat, nn, kp, x⟩).2 = t4 at *
          generalize Plus F wa w4 = F4' at *
          go_wp2_with fail
          refine (down_any D4.out).mono ?_
          rintro e w' ⟨rfl, rfl⟩
          rw [Hdn.out]
          clear q0 q1 q2
          go_wp2_with fail
          go_roundw
          case rel => exact ⟨k + 1, d + 1, t4, F4', by omega, by go_num, rfl, by omega, B4.out, D4.out, F4.out, R4.out, Hp4.out⟩
          case measure => simp [intOf]; omega
    · obtain rfl : k = ops.length := by omega
      have HD := Lib.hid hD
      have Hbl := Lib.hid hbl
      have HF := Lib.hid hF
      have hr0 := hR.d0
      have hr1 := hR.le
      have hdn : (t.fail (-1)).down = decide (N < d) := by
        have e1 : (t.fail (-1)).down = t.down := by unfold DSt.fail; split <;> rfl
        rw [e1]
        by_cases h : d ≤ N
        · rw [(hR.up h).1]; simp; omega
        · rw [hR.off (by omega)]; simp; omega
      have hpf : (t.fail (-1)).pend.length ≤ ops.length := by
        have e1 : (t.fail (-1)).pend = t.pend := by unfold DSt.fail; split <;> rfl
        rw [e1]; exact hpt
      have Hdn := Lib.hid hdn
      have Hpf := Lib.hid hpf
      clear hD hbl hF hR hpt hdn hpf B3 D3 F3 R3 B1
      go_wp2_with fail
      refine (fail_any HD.out (-1) (by omega)).mono ?_
      rintro e w4 ⟨rfl, hst4, hD4⟩
      have B4 := Lib.hid (Hbl.out.trans (hst4.below HF.out Hbl.out.size))
      have D4 := Lib.hid hD4
      have F4 := Lib.hid (Plus.froms (w' := w4) HF.out Hbl.out.size)
      clear hst4 hD4 HD Hbl HF
      generalize t.fail (-1) = t4 at *
      generalize Plus F wr w4 = F4' at *
      go_wp2_with fail
      refine (down_any D4.out).mono ?_
      rintro e w' ⟨rfl, rfl⟩
      rw [Hdn.out]
      go_wp2_with fail
      obtain ⟨bd, bm, dvs, pv, pvs, DD, hDD⟩ := D4.out
      refine (crash_loop hDD (by have := Hpf.out; omega) _ [] (BoolsV.empty _ (fun _ => False)) (fun _ h => h.elim) 0).mono ?_
      rintro e w5 ⟨rfl, hst5, hD5⟩
      have B5 := Lib.hid (B4.out.trans (hst5.below F4.out B4.out.size))
      have D5 := Lib.hid hD5
      have F5 := Lib.hid (Plus.froms (w' := w5) F4.out B4.out.size)
      have hs5 : (t4.crash [] 0).sync.1 = 0 := DSt.Ran.sync_zero rfl rfl
      have hp5 : (t4.crash [] 0).pend.length = 0 := rfl
      have hd5 : (t4.crash [] 0).down = false := rfl
      have Hs5 := Lib.hid hs5
      have Hp5 := Lib.hid hp5
      have Hd5 := Lib.hid hd5
      clear hst5 hD5 hDD hs5 hp5 hd5 D4 F4 B4
      generalize t4.crash [] 0 = t5 at *
      generalize Plus F4' w4 w5 = F5' at *
      by_cases hdd : N < d
      · go_wp2_with fail
        refine (down_any D5.out).mono ?_
        rintro e w' ⟨rfl, rfl⟩
        rw [Hd5.out]
        go_wp2_with fail
        refine (sync_any D5.out (by have := Hp5.out; omega)).mono ?_
        rintro e w6 ⟨rfl, hst6, hD6⟩
        rw [Hs5.out]
        have B6 := Lib.hid (B5.out.trans (hst6.below F5.out B5.out.size))
        clear hst6 hD6
        go_wp2_with fail
        go_ret
        exact ⟨rfl, B6.out⟩
      · go_wp2_with fail
        refine (down_any D5.out).mono ?_
        rintro e w' ⟨rfl, rfl⟩
        rw [Hd5.out]
        go_wp2_with fail
        refine (sync_any D5.out (by have := Hp5.out; omega)).mono ?_
        rintro e w6 ⟨rfl, hst6, hD6⟩
        rw [Hs5.out]
        have B6 := Lib.hid (B5.out.trans (hst6.below F5.out B5.out.size))
        clear hst6 hD6
        go_wp2_with fail
        go_ret
        exact ⟨rfl, B6.out⟩
end Go.Proofs.Ytibojbbhffoldaa
