/- Contracts of the reference's Write for every sector, of 'model', and of 'play' with a footprint. -/
import Derived.Test.YtibojbbhffoldaaDrC
import Derived.Test.YtibojbbhffoldaaDrW
import Derived.Test.YtibojbbhffoldaaPlay
namespace Go.Proofs.Ytibojbbhffoldaa
open Go.RowKit Go.Maps
set_option linter.unusedSimpArgs false
section
variable {w w' : World} {s : DSt} {b : Nat} {F G : Nat → Prop} {dv lv v : Value} {dvs : List Value} {pvs : List (Nat × Value)} {left : Int} {l : List UInt8}
set_option maxRecDepth 100000 in
set_option maxHeartbeats 1000000 in
theorem rwrite_bad (h : RefAt w s b F) (k : Int) (da : Option Addr) (n dc : Nat) (hd : s.down = false) (hk : s.valid k = false ∨ n ≠ s.size) :
    Calls Try.prog 35 #[.pointer (some ⟨b, 0, none⟩), .int .i64 k, .slice da n dc] w fun e w' => e = .returned (.int .i64 1) ∧ w = w' := by
  obtain ⟨ok, dv, dvs, lv, pvs, left, h⟩ := h
  obtain ⟨a, c, rfl⟩ := h.dvForm
  have c0 := h.cells.cell (i := 0) rfl
  have c1 := h.cells.cell (i := 1) rfl
  have c5 := h.cells.cell (i := 3) rfl
  rw [hd] at c5
  have V := Lib.hid (rsector_any b k a s.dur.length c w c1)
  clear h hd ok
  by_cases hv : s.valid k = false
  · have hv' : decide (0 ≤ k ∧ k < (s.dur.length : Int)) = false := hv
    rw [hv'] at V
    clear hk hv hv'
    go_enter Try.func35, Try.ntmps35
    go_wp2_with (go_at_call 41; refine (V.out).mono ?_; rintro e w' ⟨rfl, rfl⟩)
    go_ret
    exact ⟨rfl, rfl⟩
  · have hv' : decide (0 ≤ k ∧ k < (s.dur.length : Int)) = true := by simpa [DSt.valid] using hv
    have hn : ((n : Int) != (s.size : Int)) = true := by
      rcases hk with hk | hk
      · exact absurd hk hv
      · simp; omega
    rw [hv'] at V
    clear hk hv hv'
    go_enter Try.func35, Try.ntmps35
    go_wp2_with (go_at_call 41; refine (V.out).mono ?_; rintro e w' ⟨rfl, rfl⟩)
    go_ret
    exact ⟨rfl, rfl⟩
set_option maxRecDepth 100000 in
set_option maxHeartbeats 1000000 in
theorem rwrite_down (h : RefAt w s b F) (k : Int) (dv : Value) (hd : s.down = true) :
    Calls Try.prog 35 #[.pointer (some ⟨b, 0, none⟩), .int .i64 k, dv] w fun e w' => e = .returned (.int .i64 8) ∧ w = w' := by
  obtain ⟨ok, dv, dvs, lv, pvs, left, h⟩ := h
  have c5 := h.cells.cell (i := 3) rfl
  rw [hd] at c5
  clear h hd ok
  go_enter Try.func35, Try.ntmps35
  go_wp2_with fail
  go_ret
  exact ⟨rfl, rfl⟩
theorem rwrite_any (h : RefAt w s b F) (k : Int) (dv : Value) (l : List UInt8) (hv : BV w G dv l) (hp : s.pend.length < 1000000) :
    Calls Try.prog 35 #[.pointer (some ⟨b, 0, none⟩), .int .i64 k, dv] w (RefP w b F (s.write k l).2 (.int .i64 (s.write k l).1)) := by
  cases hd : s.down
  · by_cases hk : s.valid k = false ∨ l.length ≠ s.size
    · have e : s.write k l = (1, s) := by
        unfold DSt.write
        rw [hd, if_neg (by simp), if_pos (by rcases hk with hk | hk <;> simp [hk])]
      rw [e]
      obtain ⟨da, dc, rfl⟩ : ∃ da dc, dv = .slice da l.length dc := by obtain ⟨a, c, e, _⟩ := hv; exact ⟨a, c, e⟩
      refine (rwrite_bad h k da l.length dc hd hk).mono ?_
      rintro e w' ⟨rfl, rfl⟩
      exact ⟨rfl, Stp.refl _ _, h.plus⟩
    · have hv1 : 0 ≤ k ∧ k < (s.dur.length : Int) := by
        have : s.valid k = true := by
          cases hx : s.valid k
          · exact absurd (.inl hx) hk
          · rfl
        simpa [DSt.valid] using this
      have hv2 : l.length = s.size := by
        apply Decidable.byContradiction
        intro hx
        exact hk (.inr hx)
      obtain ⟨n, rfl⟩ := Int.eq_ofNat_of_zero_le hv1.1
      obtain ⟨ok, dv, dvs, lv, pvs, left, h⟩ := h
      rw [DSt.write_eq hd (by omega) hv2]
      exact rwrite_yes h ok hd n (by omega) _ hv hv2 hp _ rfl
  · have e : s.write k l = (8, s) := by simp [DSt.write, hd]
    rw [e]
    refine (rwrite_down h k dv hd).mono ?_
    rintro e w' ⟨rfl, rfl⟩
    exact ⟨rfl, Stp.refl _ _, h.plus⟩
def ModelP (w : World) (b : Nat) (F : Nat → Prop) (r : (List UInt8 × Int) × DSt) (e : Ending) (w' : World) : Prop :=
  ∃ v, e = .returned (.tuple #[v, .int .i64 r.1.2]) ∧ Stp F w w' ∧ RefAt w' r.2 b (Plus F w w') ∧ BV w' (fun k => w.heap.size ≤ k) v r.1.1
def PlayFP (w : World) (b : Nat) (F : Nat → Prop) (r : (List UInt8 × Int) × DSt) (e : Ending) (w' : World) : Prop :=
  ∃ v, e = .returned (.tuple #[v, .int .i64 r.1.2]) ∧ Stp F w w' ∧ DiskAt w' r.2 b (Plus F w w') ∧ BV w' (fun k => w.heap.size ≤ k) v r.1.1
theorem RefAt.onward {W W' : World} (st : Stp F w W) (h1 : Stp F W W') (h2 : RefAt W' s b (Plus F W W')) (hF : Inn F w) : Stp F w W' ∧ RefAt W' s b (Plus F w W') := by
  have s1 := st.trans' h1
  refine ⟨s1, h2.mono (fun k hk => ?_) (Plus.inn hF s1.size)⟩
  rcases hk with hk | hk
  · exact .inl hk
  · exact .inr ⟨by have := st.size; omega, hk.2⟩
theorem DiskAt.onward {W W' : World} (st : Stp F w W) (h1 : Stp F W W') (h2 : DiskAt W' s b (Plus F W W')) (hF : Inn F w) : Stp F w W' ∧ DiskAt W' s b (Plus F w W') := by
  have s1 := st.trans' h1
  refine ⟨s1, h2.mono (fun k hk => ?_) (Plus.inn hF s1.size)⟩
  rcases hk with hk | hk
  · exact .inl hk
  · exact .inr ⟨by have := st.size; omega, hk.2⟩
theorem crashF_any (h : DiskAt w s b F) (hp : s.pend.length < 1000000) (kv : Value) (keep : List Bool) (hk : BoolsV w G kv keep) (hkF : Dj G F) (tn : Int) :
    Calls Try.prog 27 #[.pointer (some ⟨b, 0, none⟩), kv, .int .i64 tn] w (DiskP w b F (s.crash keep tn) (.tuple #[])) := by
  obtain ⟨bd, bm, dvs, pv, pvs, D, h⟩ := h; exact crash_loop h hp kv keep hk hkF tn
set_option maxRecDepth 100000 in
set_option maxHeartbeats 2000000 in
theorem playF_any (h : DiskAt w s b F) (hp : s.pend.length < 1000000) (o : Op15) (ho : o.Fits) (dv kv : Value) (hd : BV w G dv o.data) (hk : BoolsV w G kv o.keep) (hG : Dj G F) :
    Calls Try.prog 26 #[.pointer (some ⟨b, 0, none⟩), .agg #[.int .i64 o.kind, .int .i64 o.sector, dv, .int .i64 o.n, kv, .int .u8 (o.x.toNat : Int)]] w (PlayFP w b F (s.play o)) := by
  have hb1 := (Below.refl w.heap.size w).alloc (Nat.le_refl _) (.cells #[.int .i64 o.kind, .int .i64 o.sector, dv, .int .i64 o.n, kv, .int .u8 (o.x.toNat : Int)] 50)
  have H := Lib.hid (h.below hb1)
  have HB := Lib.hid (Stp.of_below F hb1)
  have Hd := Lib.hid (hd.grow hb1)
  have Hk := Lib.hid (SV.grow hk hb1)
  have HS := Lib.hid hb1.size
  have HI := Lib.hid h.inn
  have HG := Lib.hid hG
  obtain ⟨da, dc, rfl, d1, d2, _⟩ := hd.get
  obtain ⟨ka, kc, rfl, k1, k2, _⟩ := SV.get hk
  have Hp := Lib.hid hp
  have hn2 := ho.n2
  clear h hb1 hd hk hp ho hG
  obtain ⟨kind, sector, data, n, keep, x⟩ := o
  simp only at *
  by_cases h0 : kind = 0
  · subst h0
    go_enter Try.func26, Try.ntmps26
    go_wp2_with fail
    refine (write_any H.out sector _ data Hd.out Hp.out).mono ?_
    rintro e w2 ⟨rfl, hb2, hD2⟩
    have R2 := Lib.hid (DiskAt.onward HB.out hb2 hD2 HI.out)
    clear hb2 hD2
    go_wp2_with fail
    go_ret2
    exact ⟨_, rfl, R2.out.1, R2.out.2, BV.nil _ _⟩
  by_cases h1 : kind = 1
  · subst h1
    go_enter Try.func26, Try.ntmps26
    go_wp2_with fail
    refine (read_any H.out sector).mono ?_
    rintro e w2 ⟨v, rfl, hb2, hv2⟩
    have R2 := Lib.hid (DiskAt.onward HB.out (Stp.of_below F hb2) (H.out.below hb2 |>.mono (fun _ hk => .inl hk) (Plus.inn H.out.inn hb2.size)) HI.out)
    have V2 := hv2.bv.mono (G := fun k => w.heap.size ≤ k) (fun k hk => Nat.le_trans HS.out hk)
    clear hb2 hv2
    go_wp2_with fail
    go_ret2
    exact ⟨_, rfl, R2.out.1, R2.out.2, V2⟩
  by_cases h2 : kind = 2
  · subst h2
    go_enter Try.func26, Try.ntmps26
    go_wp2_with fail
    refine (sync_any H.out Hp.out).mono ?_
    rintro e w2 ⟨rfl, hb2, hD2⟩
    have R2 := Lib.hid (DiskAt.onward HB.out hb2 hD2 HI.out)
    clear hb2 hD2
    go_wp2_with fail
    go_ret2
    exact ⟨_, rfl, R2.out.1, R2.out.2, BV.nil _ _⟩
  by_cases h3 : kind = 3
  · subst h3
    go_enter Try.func26, Try.ntmps26
    go_wp2_with fail
    refine (fail_any H.out n hn2).mono ?_
    rintro e w2 ⟨rfl, hb2, hD2⟩
    have R2 := Lib.hid (DiskAt.onward HB.out hb2 hD2 HI.out)
    clear hb2 hD2
    go_wp2_with fail
    go_ret2
    exact ⟨_, rfl, R2.out.1, R2.out.2, BV.nil _ _⟩
  by_cases h4 : kind = 4
  · subst h4
    go_enter Try.func26, Try.ntmps26
    go_wp2_with fail
    refine (crashF_any H.out Hp.out _ keep Hk.out HG.out n).mono ?_
    rintro e w2 ⟨rfl, hb2, hD2⟩
    have R2 := Lib.hid (DiskAt.onward HB.out hb2 hD2 HI.out)
    clear hb2 hD2
    go_wp2_with fail
    go_ret2
    exact ⟨_, rfl, R2.out.1, R2.out.2, BV.nil _ _⟩
  by_cases h5 : kind = 5
  · subst h5
    go_enter Try.func26, Try.ntmps26
    go_wp2_with fail
    refine (spoil_any H.out sector n x).mono ?_
    rintro e w2 ⟨rfl, hb2, hD2⟩
    have R2 := Lib.hid (DiskAt.onward HB.out hb2 hD2 HI.out)
    clear hb2 hD2
    go_wp2_with fail
    go_ret2
    exact ⟨_, rfl, R2.out.1, R2.out.2, BV.nil _ _⟩
  have e : DSt.play s ⟨kind, sector, data, n, keep, x⟩ = (([], 0), s) := by simp [DSt.play, *]
  rw [e]
  clear e
  go_enter Try.func26, Try.ntmps26
  go_wp2_with fail
  go_ret2
  exact ⟨_, rfl, HB.out, H.out.mono (fun _ hk => .inl hk) (Plus.inn HI.out HB.out.size), BV.nil _ _⟩
set_option maxRecDepth 100000 in
set_option maxHeartbeats 2000000 in
theorem model_any (h : RefAt w s b F) (hp : s.pend.length < 1000000) (o : Op15) (ho : o.Fits) (dv kv : Value) (hd : BV w G dv o.data) (hk : BoolsV w G kv o.keep) (hG : Dj G F) :
    Calls Try.prog 29 #[.pointer (some ⟨b, 0, none⟩), .agg #[.int .i64 o.kind, .int .i64 o.sector, dv, .int .i64 o.n, kv, .int .u8 (o.x.toNat : Int)]] w (ModelP w b F (s.play o)) := by
  have hb1 := (Below.refl w.heap.size w).alloc (Nat.le_refl _) (.cells #[.int .i64 o.kind, .int .i64 o.sector, dv, .int .i64 o.n, kv, .int .u8 (o.x.toNat : Int)] 50)
  have H := Lib.hid (h.below hb1)
  have HB := Lib.hid (Stp.of_below F hb1)
  have Hd := Lib.hid (hd.grow hb1)
  have Hk := Lib.hid (SV.grow hk hb1)
  have HS := Lib.hid hb1.size
  have HI := Lib.hid h.inn
  have HG := Lib.hid hG
  obtain ⟨da, dc, rfl, d1, d2, _⟩ := hd.get
  obtain ⟨ka, kc, rfl, k1, k2, _⟩ := SV.get hk
  have Hp := Lib.hid hp
  have hn2 := ho.n2
  clear h hb1 hd hk hp ho hG
  obtain ⟨kind, sector, data, n, keep, x⟩ := o
  simp only at *
  by_cases h0 : kind = 0
  · subst h0
    go_enter Try.func29, Try.ntmps29
    go_wp2_with fail
    refine (rwrite_any H.out sector _ data Hd.out Hp.out).mono ?_
    rintro e w2 ⟨rfl, hb2, hD2⟩
    have R2 := Lib.hid (RefAt.onward HB.out hb2 hD2 HI.out)
    clear hb2 hD2
    go_wp2_with fail
    go_ret2
    exact ⟨_, rfl, R2.out.1, R2.out.2, BV.nil _ _⟩
  by_cases h1 : kind = 1
  · subst h1
    go_enter Try.func29, Try.ntmps29
    go_wp2_with fail
    refine (rread_any H.out sector).mono ?_
    rintro e w2 ⟨v, rfl, hb2, hv2⟩
    have R2 := Lib.hid (RefAt.onward HB.out (Stp.of_below F hb2) (H.out.below hb2 |>.mono (fun _ hk => .inl hk) (Plus.inn H.out.inn hb2.size)) HI.out)
    have V2 := hv2.mono (G := fun k => w.heap.size ≤ k) (fun k hk => Nat.le_trans HS.out hk)
    clear hb2 hv2
    go_wp2_with fail
    go_ret2
    exact ⟨_, rfl, R2.out.1, R2.out.2, V2⟩
  by_cases h2 : kind = 2
  · subst h2
    go_enter Try.func29, Try.ntmps29
    go_wp2_with fail
    refine (rsync_any H.out).mono ?_
    rintro e w2 ⟨rfl, hb2, hD2⟩
    have R2 := Lib.hid (RefAt.onward HB.out hb2 hD2 HI.out)
    clear hb2 hD2
    go_wp2_with fail
    go_ret2
    exact ⟨_, rfl, R2.out.1, R2.out.2, BV.nil _ _⟩
  by_cases h3 : kind = 3
  · subst h3
    go_enter Try.func29, Try.ntmps29
    go_wp2_with fail
    refine (rfail_any H.out n hn2).mono ?_
    rintro e w2 ⟨rfl, hb2, hD2⟩
    have R2 := Lib.hid (RefAt.onward HB.out hb2 hD2 HI.out)
    clear hb2 hD2
    go_wp2_with fail
    go_ret2
    exact ⟨_, rfl, R2.out.1, R2.out.2, BV.nil _ _⟩
  by_cases h4 : kind = 4
  · subst h4
    go_enter Try.func29, Try.ntmps29
    go_wp2_with fail
    refine (rcrash_any H.out _ keep Hk.out HG.out n).mono ?_
    rintro e w2 ⟨rfl, hb2, hD2⟩
    have R2 := Lib.hid (RefAt.onward HB.out hb2 hD2 HI.out)
    clear hb2 hD2
    go_wp2_with fail
    go_ret2
    exact ⟨_, rfl, R2.out.1, R2.out.2, BV.nil _ _⟩
  by_cases h5 : kind = 5
  · subst h5
    go_enter Try.func29, Try.ntmps29
    go_wp2_with fail
    refine (rspoil_any H.out sector n x).mono ?_
    rintro e w2 ⟨rfl, hb2, hD2⟩
    have R2 := Lib.hid (RefAt.onward HB.out hb2 hD2 HI.out)
    clear hb2 hD2
    go_wp2_with fail
    go_ret2
    exact ⟨_, rfl, R2.out.1, R2.out.2, BV.nil _ _⟩
  have e : DSt.play s ⟨kind, sector, data, n, keep, x⟩ = (([], 0), s) := by simp [DSt.play, *]
  rw [e]
  clear e
  go_enter Try.func29, Try.ntmps29
  go_wp2_with fail
  go_ret2
  exact ⟨_, rfl, HB.out, H.out.mono (fun _ hk => .inl hk) (Plus.inn HI.out HB.out.size), BV.nil _ _⟩
end
end Go.Proofs.Ytibojbbhffoldaa
