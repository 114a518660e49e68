/- A slice of byte slices that the call itself makes and appends to, beside an object with the footprint F. -/
import Derived.Test.YtibojbbhffoldaaPlays
import Derived.Deep.AppendLies
namespace Go.Proofs.Ytibojbbhffoldaa
open Go.RowKit
structure ListOwn (B : Nat) (w : World) (F G : Nat → Prop) (v : Value) (L : List (List UInt8)) (vs : List Value) : Prop where
  row : w.ownsRow 0 22 1 v L.length vs
  els : All2 (BV w G) vs L
  apart : ∀ g, v.ownBlock = some g → ¬ G g ∧ ¬ F g ∧ B ≤ g
  inn : Inn G w
  dj : Dj G F
  base : From B G
section
variable {B : Nat} {w w' : World} {F G : Nat → Prop} {v : Value} {L : List (List UInt8)} {vs : List Value}
theorem ListOwn.rowLt (h : ListOwn B w F G v L vs) : ∀ g, v.ownBlock = some g → g < w.heap.size := fun g hg => (World.ownsRow.lt h.row g hg).2
theorem ListOwn.below (h : ListOwn B w F G v L vs) (hb : Below w.heap.size w w') : ListOwn B w' F G v L vs :=
  ⟨Same.row (G := fun g => g < w.heap.size) (fun k hk => hb.block k hk) h.row h.rowLt, h.els.mono (fun _ _ r => r.same (fun k hk => hb.block k (h.inn k hk))), h.apart, fun k hk => Nat.lt_of_lt_of_le (h.inn k hk) hb.size, h.dj, h.base⟩
theorem ListOwn.stp (h : ListOwn B w F G v L vs) (hs : Stp F w w') : ListOwn B w' (Plus F w w') G v L vs := by
  refine ⟨Same.row (G := fun g => v.ownBlock = some g) (fun k hk => hs.keep k (h.rowLt k hk) (h.apart k hk).2.1) h.row (fun g hg => hg), h.els.mono (fun _ _ r => r.same (hs.same h.inn h.dj)), fun g hg => ?_, hs.inn h.inn, Plus.dj h.inn h.dj, h.base⟩
  have := h.apart g hg
  refine ⟨this.1, ?_, this.2.2⟩
  rintro (h1 | h1)
  · exact this.2.1 h1
  · have := h.rowLt g hg; omega
theorem ListOwn.lv (h : ListOwn B w F G v L vs) : LV w (fun k => G k ∨ v.ownBlock = some k) v L := by
  rcases h.row.2 with ⟨rfl, h0⟩ | ⟨g, cap, cur, rfl, hg, hb, h1, h2, hs, ht⟩
  · have hL : L = [] := List.eq_nil_of_length_eq_zero h0
    subst hL
    exact ⟨none, 0, rfl, Nat.le_refl _, by unfold maxLen; omega, fun _ => rfl, fun h => absurd h (by simp)⟩
  · refine ⟨_, cap, rfl, h1, h2, (fun e => by cases e), fun _ => ⟨g, 0, rfl, .inr rfl, fun i hi => ?_⟩⟩
    obtain ⟨x, hx, hv⟩ := h.els.get (i := i) (b := L[i]) (by simp [hi])
    refine ⟨x, ?_, hv.mono (fun _ h => .inl h)⟩
    rw [Nat.zero_add, h.row.cellAt i (by omega), hx]
theorem ListOwn.shape (h : ListOwn B w F G v L vs) : ∃ a c, v = .slice a L.length c := by
  rcases h.row.2 with ⟨rfl, h0⟩ | ⟨g, cap, cur, rfl, _⟩
  · exact ⟨none, 0, by rw [h0]⟩
  · exact ⟨_, cap, rfl⟩
/-- One element more: x reads as l in blocks of G' (new ones); the append itself ('wpList_append_lies'). -/
theorem ListOwn.push (h : ListOwn B w F G v L vs) {x : Value} {l : List UInt8} {G' : Nat → Prop} (hx : BV w G' x l) (hG : Inn G' w) (hG2 : ∀ k, G' k → B ≤ k ∧ ¬ F k ∧ v.ownBlock ≠ some k) (hFw : Inn F w) (hBw : B ≤ w.heap.size) {g cap n : Nat} (hn : L.length = n)
    (hown : w'.ownsRow 0 22 1 (.slice (some ⟨g, 0, none⟩) (n + 1) cap) (n + 1) (vs ++ [x])) (hg : w.grownBy w' v.ownBlock) (hat : v.ownBlock = some g ∨ g = w.heap.size) :
    ListOwn B w' F (fun k => G k ∨ G' k) (.slice (some ⟨g, 0, none⟩) (n + 1) cap) (L ++ [l]) (vs ++ [x]) := by
  subst hn
  have keepG : ∀ k, G k → w'.heap[k]? = w.heap[k]? := fun k hk => hg.block k (h.inn k hk) (fun e => (h.apart k e.symm).1 hk)
  have keepG' : ∀ k, G' k → w'.heap[k]? = w.heap[k]? := fun k hk => hg.block k (hG k hk) (fun e => (hG2 k hk).2.2 e.symm)
  refine ⟨by simpa using hown, ?_, fun j hj => ?_, fun k hk => ?_, fun k hk => ?_, fun k hk => ?_⟩
  · exact (h.els.mono (fun _ _ r => (r.same keepG).mono (fun _ h => .inl h))).snoc ((hx.same keepG').mono (fun _ h => .inr h))
  · simp only [Value.ownBlock, Option.some.injEq] at hj
    subst hj
    rcases hat with e | rfl
    · exact ⟨fun hk => by rcases hk with hk | hk; exact (h.apart _ e).1 hk; exact (hG2 _ hk).2.2 e, (h.apart _ e).2⟩
    · refine ⟨fun hk => ?_, fun hk => ?_, hBw⟩
      · rcases hk with hk | hk
        · have := h.inn _ hk; omega
        · have := hG _ hk; omega
      · have := hFw _ hk; omega
  · rcases hk with hk | hk
    · exact Nat.lt_of_lt_of_le (h.inn k hk) hg.size
    · exact Nat.lt_of_lt_of_le (hG k hk) hg.size
  · rcases hk with hk | hk
    · exact h.dj k hk
    · exact (hG2 k hk).2.1
  · rcases hk with hk | hk
    · exact h.base k hk
    · exact (hG2 k hk).1
end
end Go.Proofs.Ytibojbbhffoldaa
