/- A slice of bytes that the call appends to; all of it new: 'NewB'. -/
import Derived.Test.YtcpcnfedbffecaaDoorOwnB
namespace Go.Proofs.YtcpcnfedbffecaaDoor
open Go.RowKit
section
variable {w w' : World}
/-- A slice of bytes that the call appends to; all of it new. -/
def NewB (B : Nat) (w : World) (acc : List UInt8) (sv : Value) (wr : World) : Prop := Below B w wr ∧ OwnB wr sv acc ∧ B ≤ wr.heap.size ∧ ∀ g, sv.ownBlock = some g → B ≤ g
theorem NewB.alloc {B : Nat} {acc : List UInt8} {sv : Value} {wr : World} (h : NewB B w acc sv wr) (o : Obj) : NewB B w acc sv (wr.alloc o) :=
  ⟨h.1.alloc h.2.2.1 o, h.2.1.grow ((Below.refl _ _).alloc (Nat.le_refl _) o), by have := h.2.2.1; simp; omega, h.2.2.2⟩
theorem NewB.drew {B : Nat} {acc : List UInt8} {sv : Value} {wr : World} (h : NewB B w acc sv wr) : NewB B w acc sv wr.drew := ⟨h.1.drew, h.2.1, h.2.2.1, h.2.2.2⟩
theorem NewB.push {B : Nat} {acc m : List UInt8} {sv sv' : Value} {wr wr2 : World} (h : NewB B w acc sv wr) (hO : OwnB wr2 sv' (acc ++ m)) (hg : wr.grownBy wr2 sv.ownBlock) (ho : sv'.ownBlock = sv.ownBlock ∨ sv'.ownBlock = some wr.heap.size) : NewB B w (acc ++ m) sv' wr2 := by
  obtain ⟨h1, h2, h3, h4⟩ := h
  have st : Stp (fun x => sv.ownBlock = some x) wr wr2 := (Stp.refl _ _).grown hg (fun x hx => .inl hx)
  refine ⟨h1.trans (st.below (fun x hx => h4 x hx) h3), hO, Nat.le_trans h3 st.size, fun g e => ?_⟩
  rcases ho with e' | e'
  · exact h4 g (by rw [← e', e])
  · rw [e'] at e; simp only [Option.some.injEq] at e; omega
theorem NewB.made (w : World) (n : Nat) (h : n ≤ 1000000000000) : NewB w.heap.size w [] (.slice (some ⟨w.heap.size, 0, none⟩) 0 n) (w.alloc (.cells (List.replicate n (.int .u8 0)).toArray 5)) := by
  refine ⟨(Below.refl _ _).alloc (Nat.le_refl _) _, ?_, by simp, fun g hg => by simp only [Value.ownBlock, Option.some.injEq] at hg; omega⟩
  unfold OwnB
  exact ⟨by simp [By], .inr ⟨w.heap.size, n, (List.replicate n (Value.int .u8 0)).toArray, rfl, Nat.zero_le _, heap_alloc_new w _, by simp, by unfold maxLen; omega, by simp, by simp [By]⟩⟩
theorem NewB.wrote {B q : Nat} {acc d : List UInt8} {sv : Value} {wr w2 : World} {gg cap n : Nat} {o : Obj} (h : NewB B w acc sv wr) (hq : acc.length = q) (hd : d.length = n)
    (hown : w2.ownsRow 0 5 1 (.slice (some ⟨gg, 0, none⟩) (q + n) cap) (q + n) (By acc ++ By d)) (hg : ((wr.alloc o).drew).grownBy w2 sv.ownBlock) (hat : sv.ownBlock = some gg ∨ gg = wr.heap.size + 1) :
    NewB B w (acc ++ d) (.slice (some ⟨gg, 0, none⟩) (q + n) cap) w2 := by
  refine (h.alloc o).drew.push ?_ hg (hat.elim (fun e => .inl e.symm) (fun e => .inr ?_))
  · unfold OwnB
    rw [By_append, List.length_append, hq, hd]
    exact hown
  · subst e; simp [Value.ownBlock]
theorem NewB.empty (w : World) : NewB w.heap.size w [] (.slice (some ⟨w.heap.size, 0, none⟩) 0 0) (w.alloc (.cells #[] 5)) := by
  simpa using NewB.made w 0 (by omega)
end
end Go.Proofs.YtcpcnfedbffecaaDoor
