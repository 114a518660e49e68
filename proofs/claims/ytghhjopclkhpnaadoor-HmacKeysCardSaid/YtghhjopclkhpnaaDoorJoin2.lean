/- Join of two strings; the bytes of a slice as a string. -/
import Derived.Test.YtghhjopclkhpnaaDoorShaN
namespace Go.Proofs.YtghhjopclkhpnaaDoor
open Go.RowKit
section
variable {b : Nat} {x y z : List UInt8} {w w' : World}
theorem BV.conv {F : Nat → Prop} {v : Value} (h : BV w F v x) : (convert 22 9 v).run Tryd.prog w = .ok (.string ⟨x.toArray⟩) w := run_toString (P := Tryd.prog) h 22 5 9 Tryd.underlying22 Tryd.underlying5 Tryd.underlying9
theorem shasum_at {l : List UInt8} {V : ByteArray} (hV : (⟨(Sha.sum l).toArray⟩ : ByteArray) = V) {T : TypeId} {rest : List Value} (h : ShaIs w b l rest T) (hg : Glob w) (hlen : l.length ≤ 1000000000) :
    Calls Tryd.prog 35 #[.pointer (some ⟨b, 0, none⟩)] w fun e w' => e = .returned (.string V) ∧ Below w.heap.size w w' := by
  rw [← hV]; exact shasum_any h hg hlen
theorem shajoin2_at {X Y V : ByteArray} {sv : Value} (hX : (⟨x.toArray⟩ : ByteArray) = X) (hY : (⟨y.toArray⟩ : ByteArray) = Y) (hV : (⟨(Sha.sum (x ++ y)).toArray⟩ : ByteArray) = V) (hx : StringsV w (fun k => k < w.heap.size) sv [X, Y]) (hg : Glob w) (hlen : (x ++ y).length ≤ 1000000000) :
    Calls Tryd.prog 31 #[sv] w fun e w' => e = .returned (.string V) ∧ Below w.heap.size w w' := by
  have e : Cat [X, Y] = x ++ y := by rw [← hX, ← hY]; simp [Cat]
  rw [← hV, ← e]; exact shajoin_any hx hg (by rw [e]; exact hlen)
theorem lits2 (w : World) (X Y : ByteArray) : StringsV (w.alloc (.cells #[.string X, .string Y] 9)) (fun k => k < (w.alloc (.cells #[.string X, .string Y] 9)).heap.size) (.slice (some ⟨w.heap.size, 0, none⟩) 2 2) [X, Y] := by
  refine ⟨_, 2, rfl, Nat.le_refl _, by unfold maxLen; omega, (fun e => by cases e), fun _ => ⟨w.heap.size, 0, rfl, by simp, fun i hi => ?_⟩⟩
  have hb := Blk.new w [.string X, .string Y] 9
  rw [Nat.zero_add]
  match i, hi with
  | 0, _ => exact hb.cell (i := 0) rfl
  | 1, _ => exact hb.cell (i := 1) rfl
theorem lits2d (w : World) (X Y : ByteArray) : StringsV (w.alloc (.cells #[.string X, .string Y] 9)).drew (fun k => k < (w.alloc (.cells #[.string X, .string Y] 9)).drew.heap.size) (.slice (some ⟨w.heap.size, 0, none⟩) 2 2) [X, Y] := lits2 w X Y
theorem StringsV.later {F : Nat → Prop} {v : Value} {l : List ByteArray} (h : StringsV w F v l) (hF : ∀ k, F k → k < w.heap.size) (hb : Below w.heap.size w w') : StringsV w' (fun k => k < w'.heap.size) v l :=
  (SV.grow h hb).mono (fun k hk => Nat.lt_of_lt_of_le (hF k hk) hb.size)
end
end Go.Proofs.YtghhjopclkhpnaaDoor
