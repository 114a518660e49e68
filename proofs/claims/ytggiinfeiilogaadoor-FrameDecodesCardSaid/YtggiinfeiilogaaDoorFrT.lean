/- For the laws of chapter 37: an own slice of bytes that is stored into; two lists held against each other. -/
import Derived.Test.YtggiinfeiilogaaDoorFrR
namespace Go.Proofs.YtggiinfeiilogaaDoor
open Go.RowKit
section
variable {w w' : World} {F G : Nat → Prop} {B : Nat}
/-- The cells of a slice that the call has made, and a store into it. -/
theorem NewB_cells {acc : List UInt8} {sv : Value} {wr : World} (h : NewB B w acc sv wr) (h0 : 0 < acc.length) : ∃ g c, sv = .slice (some ⟨g, 0, none⟩) acc.length c ∧ acc.length ≤ c ∧ c ≤ maxLen ∧ g < wr.heap.size ∧
    (∀ i, (hi : i < acc.length) → wr.cell? ⟨g, i, none⟩ = some (.int .u8 (acc[i].toNat : Int))) ∧ (∀ i, wr.frozen? ⟨g, i, none⟩ = false) ∧ ∀ i (x : UInt8), i < acc.length → NewB B w (acc.set i x) sv (wr.setCell ⟨g, i, none⟩ (.int .u8 (x.toNat : Int))) := by
  obtain ⟨h1, h2, h3, h4⟩ := h
  obtain ⟨g, c, hv, q1, q2, hlt, hc, hf, hs⟩ := h2.cells h0
  have hg := h4 g (by rw [hv]; rfl)
  exact ⟨g, c, hv, q1, q2, hlt, hc, hf, fun i x hi => ⟨h1.setCell hg _, hs i x hi, by simpa using h3, h4⟩⟩
theorem xor8 (x y : UInt8) : bits BinOp.xor IntKind.u8 (x.toNat : Int) (y.toNat : Int) = ((x ^^^ y).toNat : Int) := by
  rw [u8_xor_nat _ _ x.toNat_lt y.toNat_lt, UInt8.toNat_xor]
theorem FitV_ok {L : List Fr.Msg} (h : ∀ m ∈ L, Fr.ok m) (n : Nat) : FitV L (n : Int) = .tuple #[.int .i64 (Fr.fit L n : Int), .int .i64 0] := by
  unfold FitV
  rw [if_neg (fun e => by rcases e with e | ⟨m, hm, e⟩; omega; exact e ⟨(h m hm).1, (h m hm).2.1⟩), if_neg (fun e => by obtain ⟨m, hm, e⟩ := e; have := (h m hm).2.2; omega)]
  rfl
end
end Go.Proofs.YtggiinfeiilogaaDoor
