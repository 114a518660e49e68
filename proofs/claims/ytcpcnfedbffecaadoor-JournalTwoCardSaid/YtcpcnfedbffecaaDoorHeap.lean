/- Plain facts on worlds: a block that is known whole ('Blk'), a step that may write only to a footprint ('Stp'), byte slices that are only read ('BV'). No program in sight. -/
import Derived.WalkKit
import Derived.WalkSpells
import Derived.WalkLawsBesides
import Derived.Deep.AppendLies
import Derived.Lib.Hide
import Derived.Laws.CopyOwn
namespace Go.Proofs.YtcpcnfedbffecaaDoor
open Go.RowKit

/-- Block k is a row of the cells L of type T; none is frozen. -/
def Blk (w : World) (k : Nat) (L : List Value) (T : TypeId) : Prop := w.heap[k]? = some (.cells L.toArray T (0, 0))

section
variable {w w' : World} {k : Nat} {L : List Value} {T : TypeId}
theorem Blk.lt (h : Blk w k L T) : k < w.heap.size := by
  unfold Blk at h
  by_cases hk : k < w.heap.size
  · exact hk
  · rw [Array.getElem?_eq_none (by omega)] at h; cases h
theorem Blk.cell (h : Blk w k L T) {i : Nat} {v : Value} (hi : L[i]? = some v) : w.cell? ⟨k, i, none⟩ = some v := by
  rw [cell_of_row w k i _ _ _ h]; simpa using hi
theorem Blk.free (h : Blk w k L T) (i : Nat) : w.frozen? ⟨k, i, none⟩ = false := frozen_of_row w k i _ _ h
theorem Blk.of_same (h : Blk w k L T) (e : w'.heap[k]? = w.heap[k]?) : Blk w' k L T := by unfold Blk at *; rw [e, h]
theorem Blk.set (h : Blk w k L T) (i : Nat) (v : Value) : Blk (w.setCell ⟨k, i, none⟩ v) k (L.set i v) T := by
  unfold Blk at *
  rw [heap_setCell_same w k i _ T v h]; simp
theorem Blk.set_ne (h : Blk w k L T) {a : Addr} (hne : k ≠ a.block) (v : Value) : Blk (w.setCell a v) k L T :=
  h.of_same (heap_setCell_other w a k v hne)
theorem Blk.alloc (h : Blk w k L T) (o : Obj) : Blk (w.alloc o) k L T := h.of_same (Below.heap_alloc w o k h.lt)
theorem Blk.drew (h : Blk w k L T) : Blk w.drew k L T := h
theorem Blk.new (w : World) (L : List Value) (T : TypeId) : Blk (w.alloc (.cells L.toArray T (0, 0))) w.heap.size L T := heap_alloc_new w _
theorem Blk.newAt (w : World) (L : List Value) (T : TypeId) (hk : k = w.heap.size) : Blk (w.alloc (.cells L.toArray T (0, 0))) k L T := by subst hk; exact heap_alloc_new w _
theorem Blk.inj {L' : List Value} {T' : TypeId} (h : Blk w k L T) (h' : Blk w k L' T') : L = L' ∧ T = T' := by
  unfold Blk at *; rw [h] at h'; simp at h'; exact h'
theorem Blk.setRow (h : Blk w k L T) (L' : List Value) : Blk (w.setRow k L'.toArray) k L' T := by
  unfold Blk at *; exact setRow_heap w k _ _ T _ h
end

/-- From w to w' only blocks of F may have turned (and new ones have come). -/
structure Stp (F : Nat → Prop) (w w' : World) : Prop where
  os : w'.os = w.os
  tape : w'.tape = w.tape
  output : w'.output = w.output
  size : w.heap.size ≤ w'.heap.size
  keep : ∀ k, k < w.heap.size → ¬ F k → w'.heap[k]? = w.heap[k]?

/-- F and the blocks that have come between w and w'. -/
def Plus (F : Nat → Prop) (w w' : World) : Nat → Prop := fun k => F k ∨ (w.heap.size ≤ k ∧ k < w'.heap.size)
/-- Two footprints have no block in common. -/
def Dj (F G : Nat → Prop) : Prop := ∀ k, F k → ¬ G k
/-- A footprint lies in the heap. -/
def Inn (F : Nat → Prop) (w : World) : Prop := ∀ k, F k → k < w.heap.size
/-- A footprint lies from block B on. -/
def From (B : Nat) (F : Nat → Prop) : Prop := ∀ k, F k → B ≤ k
/-- A world has the blocks of G as another world has them. -/
def Same (G : Nat → Prop) (w w' : World) : Prop := ∀ k, G k → w'.heap[k]? = w.heap[k]?

section
variable {F F' F'' G : Nat → Prop} {w w' w'' : World}
theorem Dj.symm (h : Dj F G) : Dj G F := fun k hg hf => h k hf hg
theorem Dj.mono {F1 G1 : Nat → Prop} (h : Dj F G) (hF : ∀ k, F1 k → F k) (hG : ∀ k, G1 k → G k) : Dj F1 G1 := fun k a b => h k (hF k a) (hG k b)
theorem Plus.old {k : Nat} (h : F k) : Plus F w w' k := .inl h
theorem Plus.new {k : Nat} (h1 : w.heap.size ≤ k) (h2 : k < w'.heap.size) : Plus F w w' k := .inr ⟨h1, h2⟩
theorem Plus.inn (h : Inn F w) (hs : w.heap.size ≤ w'.heap.size) : Inn (Plus F w w') w' := fun k hk => by
  rcases hk with hk | hk
  · exact Nat.lt_of_lt_of_le (h k hk) hs
  · exact hk.2
theorem Plus.froms {B : Nat} (h : From B F) (hB : B ≤ w.heap.size) : From B (Plus F w w') := fun k hk => by
  rcases hk with hk | hk
  · exact h k hk
  · omega
theorem Plus.dj (hG : Inn G w) (hd : Dj G F) : Dj G (Plus F w w') := fun k hk hp => by
  rcases hp with hp | hp
  · exact hd k hk hp
  · have := hG k hk; omega
theorem Stp.refl (F : Nat → Prop) (w : World) : Stp F w w := ⟨rfl, rfl, rfl, Nat.le_refl _, fun _ _ _ => rfl⟩
theorem Stp.trans (h : Stp F w w') (h' : Stp (Plus F w w') w' w'') : Stp F w w'' := by
  refine ⟨h'.os.trans h.os, h'.tape.trans h.tape, h'.output.trans h.output, Nat.le_trans h.size h'.size, fun k hk hF => ?_⟩
  rw [h'.keep k (Nat.lt_of_lt_of_le hk h.size) (fun h1 => by rcases h1 with h1 | h1; exact hF h1; omega), h.keep k hk hF]
theorem Stp.trans' (h : Stp F w w') (h' : Stp F w' w'') : Stp F w w'' := by
  refine ⟨h'.os.trans h.os, h'.tape.trans h.tape, h'.output.trans h.output, Nat.le_trans h.size h'.size, fun k hk hF => ?_⟩
  rw [h'.keep k (Nat.lt_of_lt_of_le hk h.size) hF, h.keep k hk hF]
theorem Stp.same (h : Stp F w w') (hG : Inn G w) (hd : Dj G F) : Same G w w' := fun k hk => h.keep k (hG k hk) (hd k hk)
theorem Stp.inn (h : Stp F w w') (hG : Inn G w) : Inn G w' := fun k hk => Nat.lt_of_lt_of_le (hG k hk) h.size
theorem Stp.below {B : Nat} (h : Stp F w w') (hF : From B F) (hB : B ≤ w.heap.size) : Below B w w' :=
  ⟨h.os, h.tape, h.output, h.size, fun k hk => h.keep k (by omega) (fun hf => by have := hF k hf; omega)⟩
theorem Stp.of_below (F : Nat → Prop) (h : Below w.heap.size w w') : Stp F w w' := ⟨h.os, h.tape, h.output, h.size, fun k hk _ => h.block k hk⟩
theorem Stp.weaken {F1 : Nat → Prop} (h : Stp F w w') (hs : ∀ k, F k → F1 k) : Stp F1 w w' :=
  ⟨h.os, h.tape, h.output, h.size, fun k hk hn => h.keep k hk (fun hf => hn (hs k hf))⟩
/-- The one step of a walk: a new block, a store, a draw, a law that ends in 'grownBy'. -/
theorem Stp.alloc (h : Stp F w w') (o : Obj) : Stp F w (w'.alloc o) :=
  h.trans ⟨rfl, rfl, rfl, by simp, fun k hk _ => Below.heap_alloc _ _ _ hk⟩
theorem Stp.set (h : Stp F w w') {a : Addr} (ha : Plus F w w' a.block ∨ w.heap.size ≤ a.block) (v : Value) : Stp F w (w'.setCell a v) := by
  refine h.trans ⟨rfl, rfl, rfl, by simp, fun k hk hn => Below.heap_setCell _ _ _ _ (fun e => hn (e ▸ ?_))⟩
  rcases ha with ha | ha
  · exact ha
  · exact .inr ⟨ha, e ▸ hk⟩
theorem Stp.drew (h : Stp F w w') : Stp F w w'.drew := ⟨h.os, h.tape, h.output, h.size, h.keep⟩
theorem Stp.grown (h : Stp F w w') {row : Option Nat} (hg : w'.grownBy w'' row) (hr : ∀ k, row = some k → F k ∨ w.heap.size ≤ k) : Stp F w w'' :=
  h.trans ⟨hg.os, hg.tape, hg.output, hg.size, fun k hk hn => hg.block k hk (fun e => hn (by rcases hr k e.symm with h1 | h1; exact .inl h1; exact .inr ⟨h1, hk⟩))⟩
theorem Same.blk {k : Nat} {L : List Value} {T : TypeId} (h : Same G w w') (hk : G k) (hb : Blk w k L T) : Blk w' k L T := hb.of_same (h k hk)
theorem Same.refl (G : Nat → Prop) (w : World) : Same G w w := fun _ _ => rfl
theorem Same.trans (h : Same G w w') (h' : Same G w' w'') : Same G w w'' := fun k hk => (h' k hk).trans (h k hk)
theorem Same.mono {G' : Nat → Prop} (h : Same G w w') (hs : ∀ k, G' k → G k) : Same G' w w' := fun k hk => h k (hs k hk)
theorem Same.of_below {B : Nat} (h : Below B w w') (hG : ∀ k, G k → k < B) : Same G w w' := fun k hk => h.block k (hG k hk)
theorem Same.cell (h : Same G w w') {p : Addr} (hp : G p.block) : w'.cell? p = w.cell? p := World.cell?_of_block (w := w) (h p.block hp)
theorem Same.row {base : Nat} {e : TypeId} {size : Nat} {v : Value} {n : Nat} {xs : List Value} (h : Same G w w') (ho : w.ownsRow base e size v n xs) (hv : ∀ g, v.ownBlock = some g → G g) : w'.ownsRow base e size v n xs := by
  obtain ⟨h1, h2⟩ := ho
  refine ⟨h1, ?_⟩
  rcases h2 with h2 | ⟨g, cap, cur, he, hg, hh, r⟩
  · exact .inl h2
  · exact .inr ⟨g, cap, cur, he, hg, (h g (hv g (by rw [he]; rfl))).trans hh, r⟩
end

/-- Bytes as cells. -/
def By (l : List UInt8) : List Value := l.map fun b => .int .u8 (b.toNat : Int)
@[simp] theorem By_length (l : List UInt8) : (By l).length = l.length := by simp [By]
theorem By_get (l : List UInt8) (i : Nat) (h : i < l.length) : (By l)[i]? = some (.int .u8 (l[i].toNat : Int)) := by simp [By, h]
theorem By_append (a b : List UInt8) : By (a ++ b) = By a ++ By b := by simp [By]
theorem By_take (l : List UInt8) (n : Nat) : By (l.take n) = (By l).take n := by simp [By, List.map_take]
theorem By_drop (l : List UInt8) (n : Nat) : By (l.drop n) = (By l).drop n := by simp [By, List.map_drop]
theorem By_set (l : List UInt8) (i : Nat) (b : UInt8) : By (l.set i b) = (By l).set i (.int .u8 (b.toNat : Int)) := by simp [By, List.map_set]
theorem By_oneCell (l : List UInt8) : ∀ u ∈ By l, u.oneCell' = true := by
  intro u hu; obtain ⟨_, _, rfl⟩ := List.mem_map.1 hu; rfl
theorem By_zero (n : Nat) : By (List.replicate n 0) = List.replicate n (.int .u8 0) := by simp [By]
theorem By_inj {a b : List UInt8} (h : By a = By b) : a = b := by
  unfold By at h
  refine (List.map_inj_right ?_).1 h
  intro x y hxy
  injection hxy with _ h2
  exact UInt8.toNat_inj.1 (by omega)

/-- The slice value v reads as the bytes l; its array's block (if there is a byte) is of F. -/
def BV (w : World) (F : Nat → Prop) (v : Value) (l : List UInt8) : Prop :=
  ∃ a c, v = .slice a l.length c ∧ l.length ≤ c ∧ c ≤ maxLen ∧ (a = none → c = 0) ∧
    (0 < l.length → ∃ b o, a = some ⟨b, o, none⟩ ∧ F b ∧ ∀ i, (h : i < l.length) → w.cell? ⟨b, o + i, none⟩ = some (.int .u8 (l[i].toNat : Int)))

section
variable {F G : Nat → Prop} {w w' : World} {v : Value} {l : List UInt8}
theorem BV.same (h : BV w F v l) (hs : Same F w w') : BV w' F v l := by
  obtain ⟨a, c, e, h1, h2, h3, h4⟩ := h
  refine ⟨a, c, e, h1, h2, h3, fun hp => ?_⟩
  obtain ⟨b, o, e2, hb, hc⟩ := h4 hp
  exact ⟨b, o, e2, hb, fun i hi => (hs.cell (p := ⟨b, o + i, none⟩) hb).trans (hc i hi)⟩
theorem BV.mono (h : BV w F v l) (hs : ∀ k, F k → G k) : BV w G v l := by
  obtain ⟨a, c, e, h1, h2, h3, h4⟩ := h
  refine ⟨a, c, e, h1, h2, h3, fun hp => ?_⟩
  obtain ⟨b, o, e2, hb, hc⟩ := h4 hp
  exact ⟨b, o, e2, hs b hb, hc⟩
theorem BV.grow (h : BV w F v l) (hb : Below w.heap.size w w') : BV w' F v l := by
  obtain ⟨a, c, e, h1, h2, h3, h4⟩ := h
  refine ⟨a, c, e, h1, h2, h3, fun hp => ?_⟩
  obtain ⟨b, o, e2, hF, hc⟩ := h4 hp
  exact ⟨b, o, e2, hF, fun i hi => (hb.cell (p := ⟨b, o + i, none⟩) (block_lt_of_cell (hc i hi))).trans (hc i hi)⟩
theorem BV.alloc (h : BV w F v l) (o : Obj) : BV (w.alloc o) F v l := h.grow ((Below.refl _ _).alloc (Nat.le_refl _) o)
/-- Only block m, that is no row of cells, has turned. -/
theorem BV.turn (h : BV w F v l) {m : Nat} (hm : ∀ o, w.cell? ⟨m, o, none⟩ = none) (hh : ∀ k, k < w.heap.size → k ≠ m → w'.heap[k]? = w.heap[k]?) : BV w' F v l := by
  obtain ⟨a, c, e, h1, h2, h3, h4⟩ := h
  refine ⟨a, c, e, h1, h2, h3, fun hp => ?_⟩
  obtain ⟨b, o, e2, hF, hc⟩ := h4 hp
  refine ⟨b, o, e2, hF, fun i hi => (World.cell?_of_block (w := w) (a := ⟨b, o + i, none⟩) (hh b (block_lt_of_cell (hc i hi)) (fun e => ?_))).trans (hc i hi)⟩
  subst e
  have := hc i hi
  rw [hm] at this
  cases this
theorem BV.len (h : BV w F v l) : l.length ≤ maxLen := by
  obtain ⟨a, c, e, h1, h2, h3, h4⟩ := h; omega
theorem BV.nil (w : World) (F : Nat → Prop) : BV w F (.slice none 0 0) [] := ⟨none, 0, rfl, by simp, by unfold maxLen; omega, fun _ => rfl, fun h => absurd h (by simp)⟩
theorem BV.of_blk {k c : Nat} {T : TypeId} {L : List Value} (h : Blk w k L T) (hl : L.take l.length = By l) (hc : l.length ≤ c) (hc2 : c ≤ maxLen) : BV w (· = k) (.slice (some ⟨k, 0, none⟩) l.length c) l := by
  refine ⟨_, c, rfl, hc, hc2, (fun e => by cases e), fun _ => ⟨k, 0, rfl, rfl, fun i hi => ?_⟩⟩
  rw [Nat.zero_add]
  refine h.cell ?_
  have := By_get l i hi
  rw [← hl, List.getElem?_take] at this
  simpa [hi] using this
/-- A row of bytes that has just been made, marked or not. -/
theorem BV.made (w : World) (l : List UInt8) (T : TypeId) (fr : Nat × Nat) (hl : l.length ≤ maxLen) : BV (w.alloc (.cells (By l).toArray T fr)) (· = w.heap.size) (.slice (some ⟨w.heap.size, 0, none⟩) l.length l.length) l := by
  refine ⟨_, _, rfl, Nat.le_refl _, hl, (fun e => by cases e), fun _ => ⟨w.heap.size, 0, rfl, rfl, fun i hi => ?_⟩⟩
  rw [Nat.zero_add, cell_of_row _ w.heap.size i _ T fr (heap_alloc_new w _)]
  simpa using By_get l i hi
/-- What a law that copies or appends asks of its source. -/
theorem BV.cells {a : Option Addr} {n c : Nat} (h : BV w F (.slice a n c) l) : l.length = n ∧ (a = none → n = 0 ∧ c = 0) ∧ (∀ ad, a = some ad → ∀ j u, (By l)[j]? = some u → w.cell? (ad.add j) = some u) := by
  obtain ⟨a', c', e, h1, h2, h3, h4⟩ := h
  injection e with e1 e2 e3
  subst e1; subst e2; subst e3
  refine ⟨rfl, fun e => by have := h3 e; omega, fun ad had j u hj => ?_⟩
  have hjl : j < l.length := by
    have := (List.getElem?_eq_some_iff.1 hj).1
    simpa using this
  obtain ⟨b, o, e2, hb, hc⟩ := h4 (by omega)
  rw [e2] at had
  obtain rfl := Option.some.inj had
  rw [Addr.add_lit, hc j hjl]
  rw [By_get l j hjl] at hj
  exact hj
end

/-- The slice value v reads as the list l of one-cell values f; its array's block (if there is an element) is of F. -/
def SV {α : Type} (f : α → Value) (w : World) (F : Nat → Prop) (v : Value) (l : List α) : Prop :=
  ∃ a c, v = .slice a l.length c ∧ l.length ≤ c ∧ c ≤ maxLen ∧ (a = none → c = 0) ∧
    (0 < l.length → ∃ b o, a = some ⟨b, o, none⟩ ∧ F b ∧ ∀ i, (h : i < l.length) → w.cell? ⟨b, o + i, none⟩ = some (f l[i]))
section
variable {α : Type} {f : α → Value} {F G : Nat → Prop} {w w' : World} {v : Value} {l : List α}
theorem SV.same (h : SV f w F v l) (hs : Same F w w') : SV f w' F v l := by
  obtain ⟨a, c, e, h1, h2, h3, h4⟩ := h
  refine ⟨a, c, e, h1, h2, h3, fun hp => ?_⟩
  obtain ⟨b, o, e2, hb, hc⟩ := h4 hp
  exact ⟨b, o, e2, hb, fun i hi => (hs.cell (p := ⟨b, o + i, none⟩) hb).trans (hc i hi)⟩
theorem SV.mono (h : SV f w F v l) (hs : ∀ k, F k → G k) : SV f w G v l := by
  obtain ⟨a, c, e, h1, h2, h3, h4⟩ := h
  refine ⟨a, c, e, h1, h2, h3, fun hp => ?_⟩
  obtain ⟨b, o, e2, hb, hc⟩ := h4 hp
  exact ⟨b, o, e2, hs b hb, hc⟩
theorem SV.grow (h : SV f w F v l) (hb : Below w.heap.size w w') : SV f w' F v l := by
  obtain ⟨a, c, e, h1, h2, h3, h4⟩ := h
  refine ⟨a, c, e, h1, h2, h3, fun hp => ?_⟩
  obtain ⟨b, o, e2, hF, hc⟩ := h4 hp
  exact ⟨b, o, e2, hF, fun i hi => (hb.cell (p := ⟨b, o + i, none⟩) (block_lt_of_cell (hc i hi))).trans (hc i hi)⟩
/-- The walk's own facts: the value written out; the cell of an index in range. -/
theorem SV.get (h : SV f w F v l) : ∃ a c, v = .slice a l.length c ∧ l.length ≤ c ∧ c ≤ maxLen ∧ ∀ i, (hi : i < l.length) → ∃ b o, a = some ⟨b, o, none⟩ ∧ F b ∧ w.cell? ⟨b, o + i, none⟩ = some (f l[i]) := by
  obtain ⟨a, c, e, h1, h2, h3, h4⟩ := h
  refine ⟨a, c, e, h1, h2, fun i hi => ?_⟩
  obtain ⟨b, o, e2, hF, hc⟩ := h4 (by omega)
  exact ⟨b, o, e2, hF, hc i hi⟩
theorem BV.get {l : List UInt8} (h : BV w F v l) : ∃ a c, v = .slice a l.length c ∧ l.length ≤ c ∧ c ≤ maxLen ∧ ∀ i, (hi : i < l.length) → ∃ b o, a = some ⟨b, o, none⟩ ∧ F b ∧ w.cell? ⟨b, o + i, none⟩ = some (.int .u8 (l[i].toNat : Int)) :=
  SV.get (f := fun b : UInt8 => .int .u8 (b.toNat : Int)) h
end
/-- The slice value v reads as the list L of byte slices. -/
def LV (w : World) (F : Nat → Prop) (v : Value) (L : List (List UInt8)) : Prop :=
  ∃ a c, v = .slice a L.length c ∧ L.length ≤ c ∧ c ≤ maxLen ∧ (a = none → c = 0) ∧
    (0 < L.length → ∃ b o, a = some ⟨b, o, none⟩ ∧ F b ∧ ∀ i, (h : i < L.length) → ∃ x, w.cell? ⟨b, o + i, none⟩ = some x ∧ BV w F x L[i])
section
variable {F G : Nat → Prop} {w w' : World} {v : Value} {L : List (List UInt8)}
theorem LV.same (h : LV w F v L) (hs : Same F w w') : LV w' F v L := by
  obtain ⟨a, c, e, h1, h2, h3, h4⟩ := h
  refine ⟨a, c, e, h1, h2, h3, fun hp => ?_⟩
  obtain ⟨b, o, e2, hb, hc⟩ := h4 hp
  refine ⟨b, o, e2, hb, fun i hi => ?_⟩
  obtain ⟨x, hx, hv⟩ := hc i hi
  exact ⟨x, (hs.cell (p := ⟨b, o + i, none⟩) hb).trans hx, hv.same hs⟩
theorem LV.mono (h : LV w F v L) (hs : ∀ k, F k → G k) : LV w G v L := by
  obtain ⟨a, c, e, h1, h2, h3, h4⟩ := h
  refine ⟨a, c, e, h1, h2, h3, fun hp => ?_⟩
  obtain ⟨b, o, e2, hb, hc⟩ := h4 hp
  refine ⟨b, o, e2, hs b hb, fun i hi => ?_⟩
  obtain ⟨x, hx, hv⟩ := hc i hi
  exact ⟨x, hx, hv.mono hs⟩
theorem LV.grow (h : LV w F v L) (hb : Below w.heap.size w w') : LV w' F v L := by
  obtain ⟨a, c, e, h1, h2, h3, h4⟩ := h
  refine ⟨a, c, e, h1, h2, h3, fun hp => ?_⟩
  obtain ⟨b, o, e2, hF, hc⟩ := h4 hp
  refine ⟨b, o, e2, hF, fun i hi => ?_⟩
  obtain ⟨x, hx, hv⟩ := hc i hi
  exact ⟨x, (hb.cell (p := ⟨b, o + i, none⟩) (block_lt_of_cell hx)).trans hx, hv.grow hb⟩
theorem LV.get (h : LV w F v L) : ∃ a c, v = .slice a L.length c ∧ L.length ≤ c ∧ c ≤ maxLen ∧ ∀ i, (hi : i < L.length) → ∃ b o x, a = some ⟨b, o, none⟩ ∧ F b ∧ w.cell? ⟨b, o + i, none⟩ = some x ∧ BV w F x L[i] := by
  obtain ⟨a, c, e, h1, h2, h3, h4⟩ := h
  refine ⟨a, c, e, h1, h2, fun i hi => ?_⟩
  obtain ⟨b, o, e2, hF, hc⟩ := h4 (by omega)
  obtain ⟨x, hx, hv⟩ := hc i hi
  exact ⟨b, o, x, e2, hF, hx, hv⟩
end
abbrev BoolsV := SV Value.bool
abbrev IntsV := SV (Value.int .i64)

end Go.Proofs.YtcpcnfedbffecaaDoor
