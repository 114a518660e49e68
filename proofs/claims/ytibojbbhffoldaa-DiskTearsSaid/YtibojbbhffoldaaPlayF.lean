/- The contract of 'play' with the disk's footprint. -/
import Derived.Test.YtibojbbhffoldaaPlays
namespace Go.Proofs.Ytibojbbhffoldaa
open Go.RowKit Go.Maps
/-- What 'play' leaves, in the words of the disk's footprint. -/
def PlayF (w : World) (b : Nat) (F : Nat → Prop) (r : (List UInt8 × Int) × DSt) (e : Ending) (w' : World) : Prop :=
  ∃ v, e = .returned (.tuple #[v, .int .i64 r.1.2]) ∧ Stp F w w' ∧ DiskAt w' r.2 b (Plus F w w') ∧ BV w' (fun k => w.heap.size ≤ k) v r.1.1
theorem DiskP.back {w w1 w2 : World} {b : Nat} {F : Nat → Prop} {s' : DSt} {v : Value} {e : Ending} (h : DiskP w1 b F s' v e w2) (hF : Inn F w) (h1 : Stp F w w1) : Stp F w w2 ∧ DiskAt w2 s' b (Plus F w w2) := by
  have hst := h1.trans' h.2.1
  refine ⟨hst, h.2.2.mono (fun k hk => ?_) (Plus.inn hF hst.size)⟩
  rcases hk with h' | ⟨h', h''⟩
  · exact .inl h'
  · exact .inr ⟨Nat.le_trans h1.size h', h''⟩
section
variable {B : Nat} {w : World} {s : DSt} {b : Nat} {F G K : Nat → Prop}
set_option maxRecDepth 100000 in
set_option maxHeartbeats 2000000 in
theorem play_at (h : DiskAt w s b F) (hp : s.pend.length < 1000000) (o : Op15) (ho : o.Fits) (dv kv : Value) (hd : BV w G dv o.data) (hk : BoolsV w K kv o.keep) (hKF : ∀ k, K k → ¬ F k) :
    Calls Try.prog 26 #[.pointer (some ⟨b, 0, none⟩), .agg #[.int .i64 o.kind, .int .i64 o.sector, dv, .int .i64 o.n, kv, .int .u8 (o.x.toNat : Int)]] w (PlayF w b F (s.play o)) := by
  have hb1 := (Below.refl w.heap.size w).alloc (Nat.le_refl _) (.cells #[.int .i64 o.kind, .int .i64 o.sector, dv, .int .i64 o.n, kv, .int .u8 (o.x.toNat : Int)] 50)
  have H := Lib.hid (h.below hb1)
  have HB := Lib.hid (Stp.of_below F hb1)
  have HF := Lib.hid h.inn
  have Hd := Lib.hid (hd.grow hb1)
  have Hk := Lib.hid (SV.grow hk hb1)
  have HS := Lib.hid hb1.size
  obtain ⟨da, dc, rfl, d1, d2, _⟩ := hd.get
  obtain ⟨ka, kc, rfl, k1, k2, _⟩ := SV.get hk
  have Hp := Lib.hid hp
  have hn2 := ho.n2
  clear h hb1 hd hk hp ho
  obtain ⟨kind, sector, data, n, keep, x⟩ := o
  simp only at *
  by_cases h0 : kind = 0
  · subst h0
    go_enter Try.func26, Try.ntmps26
    go_wp2_with fail
    refine (write_any H.out sector _ data Hd.out Hp.out).mono ?_
    intro e w2 hq
    obtain ⟨hst2, hDD2⟩ := hq.back HF.out HB.out
    obtain ⟨rfl, _, _⟩ := hq
    go_wp2_with fail
    go_ret2
    exact ⟨_, rfl, hst2, hDD2, BV.nil _ _⟩
  by_cases h1 : kind = 1
  · subst h1
    go_enter Try.func26, Try.ntmps26
    go_wp2_with fail
    refine (read_any H.out sector).mono ?_
    rintro e w2 ⟨v, rfl, hb2, hv2⟩
    have R2 : Stp F w w2 := HB.out.trans' (Stp.of_below F hb2)
    have D2 := (H.out.below hb2).mono (fun _ hk => .inl hk) (Plus.inn HF.out R2.size)
    have V2 := hv2.bv.mono (G := fun k => w.heap.size ≤ k) (fun k hk => Nat.le_trans HS.out hk)
    go_wp2_with fail
    go_ret2
    exact ⟨_, rfl, R2, D2, V2⟩
  by_cases h2 : kind = 2
  · subst h2
    go_enter Try.func26, Try.ntmps26
    go_wp2_with fail
    refine (sync_any H.out Hp.out).mono ?_
    intro e w2 hq
    obtain ⟨hst2, hDD2⟩ := hq.back HF.out HB.out
    obtain ⟨rfl, _, _⟩ := hq
    go_wp2_with fail
    go_ret2
    exact ⟨_, rfl, hst2, hDD2, BV.nil _ _⟩
  by_cases h3 : kind = 3
  · subst h3
    go_enter Try.func26, Try.ntmps26
    go_wp2_with fail
    refine (fail_any H.out n hn2).mono ?_
    intro e w2 hq
    obtain ⟨hst2, hDD2⟩ := hq.back HF.out HB.out
    obtain ⟨rfl, _, _⟩ := hq
    go_wp2_with fail
    go_ret2
    exact ⟨_, rfl, hst2, hDD2, BV.nil _ _⟩
  by_cases h4 : kind = 4
  · subst h4
    go_enter Try.func26, Try.ntmps26
    go_wp2_with fail
    obtain ⟨bd, bm, dvs, pv, pvs, D, hD0⟩ := H.out
    refine (crash_loop hD0 Hp.out _ keep Hk.out hKF n).mono ?_
    clear hD0
    intro e w2 hq
    obtain ⟨hst2, hDD2⟩ := hq.back HF.out HB.out
    obtain ⟨rfl, _, _⟩ := hq
    go_wp2_with fail
    go_ret2
    exact ⟨_, rfl, hst2, hDD2, BV.nil _ _⟩
  by_cases h5 : kind = 5
  · subst h5
    go_enter Try.func26, Try.ntmps26
    go_wp2_with fail
    refine (spoil_any H.out sector n x).mono ?_
    intro e w2 hq
    obtain ⟨hst2, hDD2⟩ := hq.back HF.out HB.out
    obtain ⟨rfl, _, _⟩ := hq
    go_wp2_with fail
    go_ret2
    exact ⟨_, rfl, hst2, hDD2, BV.nil _ _⟩
  have e : DSt.play s ⟨kind, sector, data, n, keep, x⟩ = (([], 0), s) := by simp [DSt.play, *]
  rw [e]
  clear e
  go_enter Try.func26, Try.ntmps26
  go_wp2_with fail
  go_ret2
  exact ⟨_, rfl, HB.out, H.out.mono (fun _ hk => .inl hk) (Plus.inn HF.out HB.out.size), BV.nil _ _⟩
end
end Go.Proofs.Ytibojbbhffoldaa
