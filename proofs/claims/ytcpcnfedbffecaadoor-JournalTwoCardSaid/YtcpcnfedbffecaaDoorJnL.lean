/- Chains of batches in sectors: zeros, and what the journal's operations leave. Plain. Then a journal with its disk, apart from what came before. -/
import Derived.Test.YtcpcnfedbffecaaDoorJnO
namespace Go.Proofs.YtcpcnfedbffecaaDoor
open Go.RowKit Go.Maps
set_option linter.unusedSimpArgs false
namespace Jn
theorem Holds.zeros (size : Nat) (h1 : 64 ≤ size) (h2 : size ≤ 4096) : Holds (List.replicate size 0) z32 0 [] where
  smb := by simp [z32]
  fits := by simp [flen, recs]; omega
  eb := by omega
  lb := by simp
  len := by simpa using h2
  pos := by simp
  eq := by
    have e : flen [] = 40 := rfl
    rw [e, List.take_replicate, Nat.min_eq_left (by omega)]
    rfl
theorem Chain.zeros {f : Nat → List UInt8} {first room size : Nat} (e : Nat) (h1 : 64 ≤ size) (h2 : size ≤ 4096) (h : 0 < room → f first = List.replicate size 0) : Chain f first room size e [] where
  le := by simp
  each := fun i hi => by simp at hi
  stop := fun hr => ⟨z32, 0, by rw [List.length_nil, Nat.add_zero, h (by simpa using hr)]; exact Holds.zeros size h1 h2⟩
theorem Holds.put {size e : Nat} {last : List UInt8} {l : List (List UInt8)} (h1 : 64 ≤ size) (h2 : size ≤ 4096) (he : e < 2147483648) (hf : flen l ≤ size) (hl : l.length ≤ 10000) (hp : ∀ r ∈ l, 0 < r.length) :
    Holds (chunk size (data last e l) 0) (Sha.sum (last ++ body e l)) e l := by
  have hfl : 40 ≤ flen l := by unfold flen; omega
  have hn : need size (data last e l).length = 1 := by
    rw [data_length]
    unfold need
    rw [show flen l + size - 1 = (flen l - 1) + 1 * size from by omega, Nat.add_mul_div_right _ _ (by omega), Nat.div_eq_of_lt (by omega)]
  have hc : chunk size (data last e l) 0 = pad size (data last e l) := by
    unfold chunk
    rw [Nat.zero_mul, List.drop_zero]
    exact List.take_of_length_le (by rw [pad_length _ _ (by omega), hn]; omega)
  have hlen : (pad size (data last e l)).length = size := by rw [pad_length _ _ (by omega), hn]; omega
  rw [hc]
  refine ⟨rfl, by rw [hlen]; exact hf, he, hl, by rw [hlen]; exact h2, hp, ?_⟩
  unfold pad
  rw [← data_length last e l, List.take_left]
  rfl
theorem put_at {f : Nat → List UInt8} {a size : Nat} {d : List UInt8} (h : 0 < d.length) (hs : 0 < size) : put f a size d a = chunk size d 0 := by
  unfold put
  have := need_mul size d.length hs
  rw [if_pos ⟨Nat.le_refl _, by
    have h1 : 0 < need size d.length := Nat.pos_of_ne_zero (fun q => by rw [q] at this; omega)
    omega⟩, Nat.sub_self]
theorem put_off {f : Nat → List UInt8} {a size k : Nat} {d : List UInt8} (h : k < a ∨ a + need size d.length ≤ k) : put f a size d k = f k := by
  unfold put
  rw [if_neg (by omega)]
def A1 : List (List UInt8) := [[97]]
def A2 : List (List UInt8) := [[98], [99]]
def A3 : List (List UInt8) := [[100]]
theorem n1 (last : List UInt8) (e : Nat) : need 64 (data last e A1).length = 1 := by rw [data_length]; decide
theorem n2 (last : List UInt8) (e : Nat) : need 64 (data last e A2).length = 1 := by rw [data_length]; decide
theorem n3 (last : List UInt8) (e : Nat) : need 64 (data last e A3).length = 1 := by rw [data_length]; decide
theorem awake_chains {f0 f1 f2 f3 : Nat → List UInt8} (h0 : ∀ k, k < 10 → f0 k = List.replicate 64 0) (h1 : ∀ k, k < 10 → f1 k = put f0 0 64 (data z32 0 A1) k) (h2 : ∀ k, k < 10 → f2 k = put f1 1 64 (data (Sha.sum (z32 ++ body 0 A1)) 0 A2) k) (h3 : ∀ k, k < 10 → f3 k = put f2 5 64 (data z32 1 A3) k) :
    Chain f3 0 5 64 0 [A1, A2] ∧ Chain f3 5 5 64 1 [A3] := by
  have lA1 := data_length z32 0 A1
  have lA2 := data_length (Sha.sum (z32 ++ body 0 A1)) 0 A2
  have lA3 := data_length z32 1 A3
  have k0 : f3 0 = chunk 64 (data z32 0 A1) 0 := by
    rw [h3 0 (by omega), put_off (.inl (by omega)), h2 0 (by omega), put_off (.inl (by omega)), h1 0 (by omega), put_at (by rw [lA1]; unfold flen; omega) (by omega)]
  have k1 : f3 1 = chunk 64 (data (Sha.sum (z32 ++ body 0 A1)) 0 A2) 0 := by
    rw [h3 1 (by omega), put_off (.inl (by omega)), h2 1 (by omega), put_at (by rw [lA2]; unfold flen; omega) (by omega)]
  have k2 : f3 2 = List.replicate 64 0 := by
    rw [h3 2 (by omega), put_off (.inl (by omega)), h2 2 (by omega), put_off (.inr (by rw [n2]; omega)), h1 2 (by omega), put_off (.inr (by rw [n1]; omega)), h0 2 (by omega)]
  have k5 : f3 5 = chunk 64 (data z32 1 A3) 0 := by
    rw [h3 5 (by omega), put_at (by rw [lA3]; unfold flen; omega) (by omega)]
  have k6 : f3 6 = List.replicate 64 0 := by
    rw [h3 6 (by omega), put_off (.inr (by rw [n3]; omega)), h2 6 (by omega), put_off (.inr (by rw [n2]; omega)), h1 6 (by omega), put_off (.inr (by rw [n1]; omega)), h0 6 (by omega)]
  refine ⟨⟨by simp, fun i hi => ?_, fun _ => ⟨z32, 0, ?_⟩⟩, ⟨by simp, fun i hi => ?_, fun _ => ⟨z32, 0, ?_⟩⟩⟩
  · have hi2 : i = 0 ∨ i = 1 := by simp at hi; omega
    rcases hi2 with rfl | rfl
    · refine ⟨?_, by simp [A1]⟩
      rw [Nat.zero_add, k0]
      exact Holds.put (l := A1) (by omega) (by omega) (by omega) (by decide) (by decide) (by decide)
    · refine ⟨?_, by simp [A2]⟩
      rw [Nat.zero_add, k1]
      exact Holds.put (l := A2) (by omega) (by omega) (by omega) (by decide) (by decide) (by decide)
  · show Holds (f3 2) _ _ _
    rw [k2]; exact Holds.zeros 64 (by omega) (by omega)
  · have hi2 : i = 0 := by simp at hi; omega
    subst hi2
    refine ⟨?_, by simp [A3]⟩
    rw [Nat.add_zero, k5]
    exact Holds.put (l := A3) (by omega) (by omega) (by omega) (by decide) (by decide) (by decide)
  · show Holds (f3 6) _ _ _
    rw [k6]; exact Holds.zeros 64 (by omega) (by omega)
end Jn
/-- A journal and its disk, in blocks from B on and below E. -/
def JD (B E : Nat) (w : World) (t : JSt) (s : DSt) (b bd : Nat) : Prop :=
  ∃ FJ FD, (∀ k, FJ k → B ≤ k ∧ k < E) ∧ (∀ k, FD k → B ≤ k ∧ k < E) ∧ Dj FD FJ ∧ DiskAt w s bd FD ∧ s.Calm ∧ s.pend.length ≤ 1000 ∧ JAt w t b bd FJ ∧ E ≤ w.heap.size ∧ B ≤ E
section
variable {w w' : World} {F G FJ FD FX : Nat → Prop} {t t' : JSt} {s : DSt} {b bd B E : Nat} {l : List (List UInt8)} {xv : Value} {x : List UInt8}
theorem JD.grow (h : JD B E w t s b bd) (hb : Below w.heap.size w w') : JD B E w' t s b bd := by
  obtain ⟨FJ, FD, h1, h2, h3, h4, h5, h6, h7, h8, h9⟩ := h
  exact ⟨FJ, FD, h1, h2, h3, h4.below hb, h5, h6, h7.below hb, Nat.le_trans h8 hb.size, h9⟩
theorem JD.wide {E' : Nat} (h : JD B E w t s b bd) (hE : E ≤ E') (hw : E' ≤ w.heap.size) : JD B E' w t s b bd := by
  obtain ⟨FJ, FD, h1, h2, h3, h4, h5, h6, h7, h8, h9⟩ := h
  exact ⟨FJ, FD, fun k hk => ⟨(h1 k hk).1, Nat.lt_of_lt_of_le (h1 k hk).2 hE⟩, fun k hk => ⟨(h2 k hk).1, Nat.lt_of_lt_of_le (h2 k hk).2 hE⟩, h3, h4, h5, h6, h7, hw, Nat.le_trans h9 hE⟩
/-- What an operation of such a journal leaves. -/
def JDP (B : Nat) (w : World) (b bd : Nat) (r : Int) (t' : JSt) (s : DSt) (f : Nat → List UInt8) (e : Ending) (w' : World) : Prop :=
  e = .returned (.int .i64 r) ∧ Below B w w' ∧ ∃ s', s.Turned s' f ∧ JD B w'.heap.size w' t' s' b bd
theorem JP.jd {r : Int} {f : Nat → List UInt8} {e : Ending} (h : JP w b bd FJ FD r t' s f e w') (h1 : ∀ k, FJ k → B ≤ k ∧ k < E) (h2 : ∀ k, FD k → B ≤ k ∧ k < E) (h6 : s.pend.length ≤ 1000) (h8 : E ≤ w.heap.size) (h9 : B ≤ E) : JDP B w b bd r t' s f e w' := by
  obtain ⟨he, hst, FJ', FD', s', g1, g2, g3, g4, g5, g6, g7⟩ := h
  have hsz := hst.size
  refine ⟨he, hst.below (fun k hk => ?_) (Nat.le_trans h9 h8), s', g5, FJ', FD', fun k hk => ?_, fun k hk => ?_, g3, g4, g5.calm, Nat.le_trans g6 h6, g7, Nat.le_refl _, by omega⟩
  · rcases hk with hk | hk
    · exact (h1 k hk).1
    · exact (h2 k hk).1
  · rcases g1 k hk with hk | hk
    · have := h1 k hk; omega
    · have := hk.1; have := hk.2; omega
  · rcases g2 k hk with hk | hk
    · have := h2 k hk; omega
    · have := hk.1; have := hk.2; omega
theorem JD.append (h : JD B E w t s b bd) (hg : Glob w) (ok : t.Ok s.dur.length) (hx : BV w FX xv x) (hXI : Inn FX w) (hX : ∀ k, FX k → k < B ∨ E ≤ k) (hfl : x.length ≤ 100000) :
    Calls Tryd.prog 12 #[.pointer (some ⟨b, 0, none⟩), xv] w (JDP B w b bd (t.appErr s.size [x]) (t.app s.size [x]) s (t.appImg s.size [x] s.look)) := by
  obtain ⟨FJ, FD, h1, h2, h3, h4, h5, h6, h7, h8, h9⟩ := h
  exact (append_any h7 h4 h5 h6 h3 hg ok hx hXI (fun k hk hf => by have := h2 k hf; have := hX k hk; omega) (fun k hk hf => by have := h1 k hf; have := hX k hk; omega) hfl).mono fun e w' q => q.jd h1 h2 h6 h8 h9
theorem JD.appendAll (h : JD B E w t s b bd) (hg : Glob w) (ok : t.Ok s.dur.length) (hx : LV w FX xv l) (hXI : Inn FX w) (hX : ∀ k, FX k → k < B ∨ E ≤ k) (hl1 : l.length ≤ 100000) (hfl : Jn.flen l ≤ 1000000) :
    Calls Tryd.prog 21 #[.pointer (some ⟨b, 0, none⟩), xv] w (JDP B w b bd (t.appErr s.size l) (t.app s.size l) s (t.appImg s.size l s.look)) := by
  obtain ⟨FJ, FD, h1, h2, h3, h4, h5, h6, h7, h8, h9⟩ := h
  exact (appendall_any h7 h4 h5 h6 h3 hg ok hx hXI (fun k hk hf => by have := h2 k hf; have := hX k hk; omega) (fun k hk hf => by have := h1 k hf; have := hX k hk; omega) hl1 hfl).mono fun e w' q => q.jd h1 h2 h6 h8 h9
theorem JD.reset (h : JD B E w t s b bd) (hg : Glob w) (ok : t.Ok s.dur.length) (hx : BV w FX xv x) (hXI : Inn FX w) (hX : ∀ k, FX k → k < B ∨ E ≤ k) (hfl : x.length ≤ 100000) :
    Calls Tryd.prog 22 #[.pointer (some ⟨b, 0, none⟩), xv] w (JDP B w b bd (t.resErr s.size x) (t.reset s.size x) s (t.resImg s.size x s.look)) := by
  obtain ⟨FJ, FD, h1, h2, h3, h4, h5, h6, h7, h8, h9⟩ := h
  exact (reset_any h7 h4 h5 h6 h3 hg ok hx hXI (fun k hk hf => by have := h2 k hf; have := hX k hk; omega) (fun k hk hf => by have := h1 k hf; have := hX k hk; omega) hfl).mono fun e w' q => q.jd h1 h2 h6 h8 h9
theorem JD.left (h : JD B E w t s b bd) (he : t.epoch < 1000000000) (hu : t.used ≤ t.room) (hr : t.room ≤ 65536) :
    Calls Tryd.prog 11 #[.pointer (some ⟨b, 0, none⟩)] w fun e w' => e = .returned (.int .i64 (t.left s.size)) ∧ ∃ k, w' = w.drewN k := by
  obtain ⟨FJ, FD, h1, h2, h3, h4, h5, h6, h7, h8, h9⟩ := h
  exact left_any h7 h4 he hu hr
theorem JD.records (h : JD B E w t s b bd) (he : t.epoch < 1000000000) (hl : t.recs.length ≤ 100000) (hr : ∀ r ∈ t.recs, r.length ≤ 1000000) :
    Calls Tryd.prog 13 #[.pointer (some ⟨b, 0, none⟩)] w fun e w' => ∃ rv, e = .returned rv ∧ Below w.heap.size w w' ∧ RecsV w' (fun k => w.heap.size ≤ k ∧ k < w'.heap.size) rv t.recs := by
  obtain ⟨FJ, FD, h1, h2, h3, h4, h5, h6, h7, h8, h9⟩ := h
  exact records_any h7 he hl hr
theorem JD.epoch (h : JD B E w t s b bd) : Calls Tryd.prog 14 #[.pointer (some ⟨b, 0, none⟩)] w fun e w' => e = .returned (.int .i64 (t.epoch : Int)) ∧ w = w' := by
  obtain ⟨FJ, FD, h1, h2, h3, h4, h5, h6, h7, h8, h9⟩ := h
  exact epoch_any h7
/-- A disk alone. -/
def DD (B E : Nat) (w : World) (s : DSt) (bd : Nat) : Prop := ∃ FD, (∀ k, FD k → B ≤ k ∧ k < E) ∧ DiskAt w s bd FD ∧ s.Calm ∧ s.pend.length ≤ 1000 ∧ E ≤ w.heap.size ∧ B ≤ E
theorem JD.dd (h : JD B E w t s b bd) : DD B E w s bd := by
  obtain ⟨FJ, FD, h1, h2, h3, h4, h5, h6, h7, h8, h9⟩ := h
  exact ⟨FD, h2, h4, h5, h6, h8, h9⟩
theorem DD.grow (h : DD B E w s bd) (hb : Below w.heap.size w w') : DD B E w' s bd := by
  obtain ⟨FD, h1, h2, h3, h4, h5, h6⟩ := h
  exact ⟨FD, h1, h2.below hb, h3, h4, Nat.le_trans h5 hb.size, h6⟩
def OpenD (B : Nat) (w : World) (t : JSt) (s : DSt) (bd : Nat) (e : Ending) (w' : World) : Prop :=
  ∃ b, e = .returned (.tuple #[.pointer (some ⟨b, 0, none⟩), .int .i64 0]) ∧ Below w.heap.size w w' ∧ JD B w'.heap.size w' t s b bd
theorem DD.opens {first n : Nat} {bs0 bs1 : List (List (List UInt8))} (h : DD B E w s bd) (hg : ∀ W, Below w.heap.size w W → Glob W) (hsz : 64 ≤ s.size) (hn : 4 ≤ n) (hfr : first + n ≤ s.dur.length) (h0 : Jn.Chain s.look first (n / 2) s.size 0 bs0) (h1 : Jn.Chain s.look (first + n / 2) (n / 2) s.size 1 bs1) :
    Calls Tryd.prog 9 #[.pointer (some ⟨bd, 0, none⟩), .int .i64 (first : Int), .int .i64 (n : Int)] w (OpenD B w (openSt first n bs0 bs1) s bd) := by
  obtain ⟨FD, g1, g2, g3, g4, g5, g6⟩ := h
  refine (open_any g2 g3 hg hsz hn hfr h0 h1).mono fun e w' q => ?_
  obtain ⟨b, he, hb, hJ⟩ := q
  have hs := hb.size
  exact ⟨b, he, hb, _, FD, fun k hk => ⟨by have := hk.1; omega, hk.2⟩, fun k hk => ⟨(g1 k hk).1, by have := (g1 k hk).2; omega⟩, fun k hf hk => by have := (g1 k hf).2; have := hk.1; omega, g2.below hb, g3, g4, hJ, Nat.le_refl _, by omega⟩
end
end Go.Proofs.YtcpcnfedbffecaaDoor
