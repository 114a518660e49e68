/- Operations on a disk as data ('Op15'); how a list of them lies in memory; the contract of 'play'. -/
import Derived.Test.YtibojbbhffoldaaDiskK
import Derived.Test.YtibojbbhffoldaaOpen
namespace Go.Proofs.Ytibojbbhffoldaa
open Go.RowKit Go.Maps
structure Op15 where
  kind : Int
  sector : Int
  data : List UInt8
  n : Int
  keep : List Bool
  x : UInt8
/-- What an operation's integers are. -/
structure Op15.Fits (o : Op15) : Prop where
  k1 : -9223372036854775808 ≤ o.kind
  k2 : o.kind ≤ 9223372036854775807
  s1 : -9223372036854775808 ≤ o.sector
  s2 : o.sector ≤ 9223372036854775807
  n1 : -9223372036854775808 ≤ o.n
  n2 : o.n ≤ 9223372036854775807
/-- The six cells of an operation in memory. -/
def OpV (w : World) (F : Nat → Prop) (E : List Value) (o : Op15) : Prop :=
  o.Fits ∧ ∃ dv kv, E = [.int .i64 o.kind, .int .i64 o.sector, dv, .int .i64 o.n, kv, .int .u8 (o.x.toNat : Int)] ∧ BV w F dv o.data ∧ BoolsV w F kv o.keep
/-- The slice value v reads as the operations l. -/
def OpsV (w : World) (F : Nat → Prop) (v : Value) (l : List Op15) : Prop :=
  ∃ a c, v = .slice a l.length c ∧ l.length ≤ c ∧ c ≤ maxLen ∧ (a = none → c = 0) ∧
    (0 < l.length → ∃ b o, a = some ⟨b, o, none⟩ ∧ F b ∧ ∀ i, (h : i < l.length) → ∃ E, OpV w F E l[i] ∧ ∀ j, j < 6 → w.cell? ⟨b, o + i * 6 + j, none⟩ = E[j]?)
section
variable {F G : Nat → Prop} {w w' : World} {v : Value} {l : List Op15} {E : List Value} {o : Op15}
theorem OpV.same (h : OpV w F E o) (hs : Same F w w') : OpV w' F E o := by
  obtain ⟨hf, dv, kv, e, h1, h2⟩ := h; exact ⟨hf, dv, kv, e, h1.same hs, SV.same h2 hs⟩
theorem OpsV.same (h : OpsV w F v l) (hs : Same F w w') : OpsV w' F v l := by
  obtain ⟨a, c, e, h1, h2, h3, h4⟩ := h
  refine ⟨a, c, e, h1, h2, h3, fun hp => ?_⟩
  obtain ⟨b, o, e2, hb, hc⟩ := h4 hp
  refine ⟨b, o, e2, hb, fun i hi => ?_⟩
  obtain ⟨E, hE, hj⟩ := hc i hi
  exact ⟨E, hE.same hs, fun j h => (hs.cell (p := ⟨b, o + i * 6 + j, none⟩) hb).trans (hj j h)⟩
theorem OpsV.get (h : OpsV w F v l) : ∃ a c, v = .slice a l.length c ∧ l.length ≤ c ∧ c ≤ maxLen ∧ ∀ i, (hi : i < l.length) → ∃ b o dv kv, a = some ⟨b, o, none⟩ ∧ F b ∧ l[i].Fits ∧ BV w F dv l[i].data ∧ BoolsV w F kv l[i].keep ∧
    w.cell? ⟨b, o + i * 6, none⟩ = some (.int .i64 l[i].kind) ∧ w.cell? ⟨b, o + i * 6 + 1, none⟩ = some (.int .i64 l[i].sector) ∧ w.cell? ⟨b, o + i * 6 + 2, none⟩ = some dv ∧
    w.cell? ⟨b, o + i * 6 + 3, none⟩ = some (.int .i64 l[i].n) ∧ w.cell? ⟨b, o + i * 6 + 4, none⟩ = some kv ∧ w.cell? ⟨b, o + i * 6 + 5, none⟩ = some (.int .u8 (l[i].x.toNat : Int)) := by
  obtain ⟨a, c, e, h1, h2, h3, h4⟩ := h
  refine ⟨a, c, e, h1, h2, fun i hi => ?_⟩
  obtain ⟨b, o, e2, hF, hc⟩ := h4 (by omega)
  obtain ⟨E, ⟨hf, dv, kv, rfl, hd, hk⟩, hj⟩ := hc i hi
  exact ⟨b, o, dv, kv, e2, hF, hf, hd, hk, hj 0 (by omega), hj 1 (by omega), hj 2 (by omega), hj 3 (by omega), hj 4 (by omega), hj 5 (by omega)⟩
end

/-- What an operation does to a disk; the bytes and the error that 'play' returns. -/
def DSt.play (s : DSt) (o : Op15) : (List UInt8 × Int) × DSt :=
  if o.kind = 0 then (([], (s.write o.sector o.data).1), (s.write o.sector o.data).2)
  else if o.kind = 1 then (((s.read o.sector).2, (s.read o.sector).1), s)
  else if o.kind = 2 then (([], s.sync.1), s.sync.2)
  else if o.kind = 3 then (([], 0), s.fail o.n)
  else if o.kind = 4 then (([], 0), s.crash o.keep o.n)
  else if o.kind = 5 then (([], (s.spoil o.sector o.n o.x).1), (s.spoil o.sector o.n o.x).2)
  else (([], 0), s)
def PlayP (B : Nat) (w : World) (b : Nat) (r : (List UInt8 × Int) × DSt) (e : Ending) (w' : World) : Prop :=
  ∃ v, e = .returned (.tuple #[v, .int .i64 r.1.2]) ∧ Below B w w' ∧ DiskIn B w' r.2 b ∧ BV w' (fun k => w.heap.size ≤ k) v r.1.1
section
variable {B : Nat} {w : World} {s : DSt} {b : Nat} {G : Nat → Prop}
set_option maxRecDepth 100000 in
set_option maxHeartbeats 2000000 in
theorem play_any (h : DiskIn B w s b) (hB : B ≤ w.heap.size) (hp : s.pend.length < 1000000) (o : Op15) (ho : o.Fits) (dv kv : Value) (hd : BV w (fun k => k < B) dv o.data) (hk : BoolsV w (fun k => k < B) kv o.keep) :
    Calls Try.prog 26 #[.pointer (some ⟨b, 0, none⟩), .agg #[.int .i64 o.kind, .int .i64 o.sector, dv, .int .i64 o.n, kv, .int .u8 (o.x.toNat : Int)]] w (PlayP B w b (s.play o)) := by
  have hb1 := (Below.refl w.heap.size w).alloc (Nat.le_refl _) (.cells #[.int .i64 o.kind, .int .i64 o.sector, dv, .int .i64 o.n, kv, .int .u8 (o.x.toNat : Int)] 50)
  have H := Lib.hid (h.below hb1)
  have HB := Lib.hid (hb1.mono hB)
  have Hd := Lib.hid (hd.grow hb1)
  have Hk := Lib.hid (SV.grow hk hb1)
  have HS := Lib.hid hb1.size
  obtain ⟨da, dc, rfl, d1, d2, _⟩ := hd.get
  obtain ⟨ka, kc, rfl, k1, k2, _⟩ := SV.get hk
  have Hp := Lib.hid hp
  have hn2 := ho.n2
  clear h hb1 hd hk hp ho
  obtain ⟨kind, sector, data, n, keep, x⟩ := o
  simp only at *
  have hBB : Hid (B ≤ (w.alloc (.cells #[.int .i64 kind, .int .i64 sector, .slice da data.length dc, .int .i64 n, .slice ka keep.length kc, .int .u8 (x.toNat : Int)] 50)).heap.size) := Nat.le_trans hB HS.out
  by_cases h0 : kind = 0
  · subst h0
    go_enter Try.func26, Try.ntmps26
    go_wp2_with fail
    refine (H.out.write hBB.out sector _ data Hd.out Hp.out).mono ?_
    rintro e w2 ⟨rfl, hb2, hD2⟩
    have R2 : Below B w w2 := HB.out.trans hb2
    go_wp2_with fail
    go_ret2
    exact ⟨_, rfl, R2, hD2, BV.nil _ _⟩
  by_cases h1 : kind = 1
  · subst h1
    go_enter Try.func26, Try.ntmps26
    go_wp2_with fail
    refine (H.out.read sector).mono ?_
    rintro e w2 ⟨v, rfl, hb2, hv2⟩
    have R2 : Below B w w2 := HB.out.trans (hb2.mono hBB.out)
    have D2 := H.out.below hb2
    have V2 := hv2.bv.mono (G := fun k => w.heap.size ≤ k) (fun k hk => Nat.le_trans HS.out hk)
    go_wp2_with fail
    go_ret2
    exact ⟨_, rfl, R2, D2, V2⟩
  by_cases h2 : kind = 2
  · subst h2
    go_enter Try.func26, Try.ntmps26
    go_wp2_with fail
    refine (H.out.sync hBB.out Hp.out).mono ?_
    rintro e w2 ⟨rfl, hb2, hD2⟩
    have R2 : Below B w w2 := HB.out.trans hb2
    go_wp2_with fail
    go_ret2
    exact ⟨_, rfl, R2, hD2, BV.nil _ _⟩
  by_cases h3 : kind = 3
  · subst h3
    go_enter Try.func26, Try.ntmps26
    go_wp2_with fail
    refine (H.out.fail hBB.out n hn2).mono ?_
    rintro e w2 ⟨rfl, hb2, hD2⟩
    have R2 : Below B w w2 := HB.out.trans hb2
    go_wp2_with fail
    go_ret2
    exact ⟨_, rfl, R2, hD2, BV.nil _ _⟩
  by_cases h4 : kind = 4
  · subst h4
    go_enter Try.func26, Try.ntmps26
    go_wp2_with fail
    refine (H.out.crash hBB.out Hp.out _ keep Hk.out n).mono ?_
    rintro e w2 ⟨rfl, hb2, hD2⟩
    have R2 : Below B w w2 := HB.out.trans hb2
    go_wp2_with fail
    go_ret2
    exact ⟨_, rfl, R2, hD2, BV.nil _ _⟩
  by_cases h5 : kind = 5
  · subst h5
    go_enter Try.func26, Try.ntmps26
    go_wp2_with fail
    refine (H.out.spoil hBB.out sector n x).mono ?_
    rintro e w2 ⟨rfl, hb2, hD2⟩
    have R2 : Below B w w2 := HB.out.trans hb2
    go_wp2_with fail
    go_ret2
    exact ⟨_, rfl, R2, hD2, BV.nil _ _⟩
  have e : DSt.play s ⟨kind, sector, data, n, keep, x⟩ = (([], 0), s) := by simp [DSt.play, *]
  rw [e]
  clear e
  go_enter Try.func26, Try.ntmps26
  go_wp2_with fail
  go_ret2
  exact ⟨_, rfl, HB.out, H.out, BV.nil _ _⟩
end
end Go.Proofs.Ytibojbbhffoldaa
