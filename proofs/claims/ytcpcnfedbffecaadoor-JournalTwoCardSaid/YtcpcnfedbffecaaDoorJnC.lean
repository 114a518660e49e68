/- What stores into a half of a journal leave; bytes out of the middle; two strings. -/
import Derived.Test.YtcpcnfedbffecaaDoorJnB
import Derived.Test.YtcpcnfedbffecaaDoorJnZ
import Derived.Test.YtcpcnfedbffecaaDoorLaidG
namespace Go.Proofs.YtcpcnfedbffecaaDoor
open Go.RowKit Go.Maps
set_option linter.unusedSimpArgs false
section
variable {w w' w1 w2 : World} {F G : Nat → Prop} {hb o first epoch used : Nat} {P Q : List Value} {T : TypeId} {recs : List (List UInt8)} {last x : List UInt8} {rv v : Value} {rvs : List Value}
theorem hcells_used (u' : Nat) (hp : P.length = o) : (P ++ hcells first epoch used rv last ++ Q).set (o + 2) (.int .i64 (u' : Int)) = P ++ hcells first epoch u' rv last ++ Q := by
  subst hp; simp [hcells, List.set_append]
theorem hcells_last (l' : List UInt8) (hp : P.length = o) : (P ++ hcells first epoch used rv last ++ Q).set (o + 4) (Str l') = P ++ hcells first epoch used rv l' ++ Q := by
  subst hp; simp [hcells, List.set_append]
theorem hcells_recs (r' : Value) (hp : P.length = o) : (P ++ hcells first epoch used rv last ++ Q).set (o + 3) r' = P ++ hcells first epoch used r' last ++ Q := by
  subst hp; simp [hcells, List.set_append]
theorem hcells_epoch (e' : Nat) (hp : P.length = o) : (P ++ hcells first epoch used rv last ++ Q).set (o + 1) (.int .i64 (e' : Int)) = P ++ hcells first e' used rv last ++ Q := by
  subst hp; simp [hcells, List.set_append]
theorem RecsR.setb (h : RecsR w F rv rvs recs) (hk : ∀ k, k ≠ hb → w'.heap[k]? = w.heap[k]?) {L : List Value} (hB : Blk w hb L T) (t1 : T ≠ 39) (t2 : T ≠ 5) : RecsR w' F rv rvs recs := by
  refine ⟨Same.row (G := fun k => k ≠ hb) hk h.1 (fun g hg e => ?_), h.2.1.mono (fun v l r => ⟨r.1.same (F := fun k => k ≠ hb) hk (fun g hg e => ?_), r.2⟩), h.2.2⟩
  · subst e
    obtain ⟨cur, hb'⟩ := ownsRow_blk h.1 hg
    exact t1 (hB.inj hb').2
  · subst e
    obtain ⟨cur, hb'⟩ := r.blk hg
    exact t2 (hB.inj hb').2
/-- A store into the half itself. -/
theorem HalfAt.set (h : HalfAt w F hb P Q T first epoch used recs last) {i : Nat} {y : Value} {e' u' : Nat} {l' : List UInt8} (hL : ∀ rv, (P ++ hcells first epoch used rv last ++ Q).set i y = P ++ hcells first e' u' rv l' ++ Q) :
    Stp F w (w.setCell ⟨hb, i, none⟩ y) ∧ HalfAt (w.setCell ⟨hb, i, none⟩ y) F hb P Q T first e' u' recs l' := by
  obtain ⟨hI, hF, t1, t2, rv, hB, rvs, hR⟩ := h
  have st : Stp F w (w.setCell ⟨hb, i, none⟩ y) := (Stp.refl F w).set (.inl (.inl hF)) y
  have h1 := hB.set i y
  rw [hL] at h1
  exact ⟨st, fun k hk => Nat.lt_of_lt_of_le (hI k hk) st.size, hF, t1, t2, rv, h1, rvs, hR.setb (fun k hk => heap_setCell_other w ⟨hb, i, none⟩ k y hk) hB t1 t2⟩
/-- Rows xs more, that read as m: behind their making (w1) and the append (w2). -/
theorem HalfAt.push (hI : Inn F w) (hF : F hb) (t1 : T ≠ 39) (t2 : T ≠ 5) (hB : Blk w hb (P ++ hcells first epoch used rv last ++ Q) T) (hR : RecsR w F rv rvs recs) (hp : P.length = o)
    (hb1 : Below w.heap.size w w1) {xs : List Value} {m : List (List UInt8)} (hm : All2 (OwnF w1 (Plus F w w1)) xs m) {n k gg cap : Nat} (hn : recs.length = n) (hk : m.length = k)
    (hown : w2.ownsRow 0 39 1 (.slice (some ⟨gg, 0, none⟩) (n + k) cap) (n + k) (rvs ++ xs)) (hgrow : w1.grownBy w2 rv.ownBlock) (hat : rv.ownBlock = some gg ∨ gg = w1.heap.size) (hlt : gg < w2.heap.size) :
    Stp F w (w2.setCell ⟨hb, o + 3, none⟩ (.slice (some ⟨gg, 0, none⟩) (n + k) cap)) ∧
    HalfAt (w2.setCell ⟨hb, o + 3, none⟩ (.slice (some ⟨gg, 0, none⟩) (n + k) cap)) (Plus F w (w2.setCell ⟨hb, o + 3, none⟩ (.slice (some ⟨gg, 0, none⟩) (n + k) cap))) hb P Q T first epoch used (recs ++ m) last := by
  have hR1 : RecsR w1 (Plus F w w1) rv rvs recs := (hR.below hI hb1).mono (fun _ hk => .inl hk)
  obtain ⟨sp, R2⟩ := hR1.push hm hn hk hown hgrow hat hlt
  have s1 : Stp F w w1 := Stp.of_below F hb1
  have st2 : Stp F w w2 := s1.trans (sp.weaken (fun k hk => .inl (hR.2.2 k hk)))
  have st : Stp F w (w2.setCell ⟨hb, o + 3, none⟩ (.slice (some ⟨gg, 0, none⟩) (n + k) cap)) := st2.set (.inl (.inl hF)) _
  have hB2 : Blk w2 hb (P ++ hcells first epoch used rv last ++ Q) T := by
    refine (hB.of_same (hb1.block hb hB.lt)).of_same (hgrow.block hb (by have := hB.lt; have := hb1.size; omega) (fun e => ?_))
    obtain ⟨cur, hb'⟩ := ownsRow_blk hR.1 e.symm
    exact t1 (hB.inj hb').2
  have h3 := hB2.set (o + 3) (.slice (some ⟨gg, 0, none⟩) (n + k) cap)
  rw [hcells_recs _ hp] at h3
  refine ⟨st, Plus.inn hI st.size, .inl hF, t1, t2, _, h3, _, ((R2.setb (fun k hk => heap_setCell_other w2 ⟨hb, o + 3, none⟩ k _ hk) hB2 t1 t2).mono (fun k hk => ?_))⟩
  rcases hk with (hk | hk) | hk
  · exact .inl hk
  · exact .inr ⟨hk.1, by have := hk.2; have := sp.size; simp; omega⟩
  · exact .inr ⟨by have := hk.1; have := hb1.size; omega, by simpa using hk.2⟩
theorem BV.subAt {b o c n lo k : Nat} {l : List UInt8} (h : BV w F (.slice (some ⟨b, o, none⟩) n c) l) (hn : l.length = n) (hk : lo + k ≤ n) : BV w F (.slice (some ⟨b, o + lo, none⟩) k (c - lo)) ((l.drop lo).take k) := by
  obtain ⟨a', c', e, h1, h2, h3, h4⟩ := h
  injection e with e1 e2 e3
  subst e3
  have hlen : ((l.drop lo).take k).length = k := by rw [List.length_take, List.length_drop]; omega
  refine ⟨_, c - lo, by rw [hlen], by rw [hlen]; omega, by omega, (fun e => by cases e), fun h0 => ?_⟩
  obtain ⟨b', o', e, hb, hc⟩ := h4 (by rw [hlen] at h0; omega)
  rw [e] at e1
  have e1 := Option.some.inj e1
  injection e1 with e5 e6
  subst e5; subst e6
  refine ⟨b, o + lo, rfl, hb, fun i hi => ?_⟩
  rw [hlen] at hi
  have := hc (lo + i) (by omega)
  rw [show o + lo + i = o + (lo + i) from by omega, this]
  simp
theorem StringsV.two (W : World) (s t : ByteArray) : StringsV (W.alloc (.cells #[.string s, .string t] 9)) (fun k => k < (W.alloc (.cells #[.string s, .string t] 9)).heap.size) (.slice (some ⟨W.heap.size, 0, none⟩) 2 2) [s, t] := by
  refine ⟨_, 2, rfl, by simp, by unfold maxLen; omega, (fun e => by cases e), fun _ => ⟨W.heap.size, 0, rfl, by simp, fun i hi => ?_⟩⟩
  simp at hi
  rcases (show i = 0 ∨ i = 1 by omega) with rfl | rfl
  · exact (Blk.new W [.string s, .string t] 9).cell rfl
  · exact (Blk.new W [.string s, .string t] 9).cell rfl
theorem BV.convS {x : List UInt8} (h : BV w F v x) : (convert 39 9 v).run Tryd.prog w = .ok (.string ⟨x.toArray⟩) w := run_toString (P := Tryd.prog) h 39 5 9 Tryd.underlying39 Tryd.underlying5 Tryd.underlying9
end
end Go.Proofs.YtcpcnfedbffecaaDoor
