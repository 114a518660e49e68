/- Arguments opened: lists of ints and of strings. -/
import Derived.Test.YtiakmpnmooobbaaDoorOpen
import Derived.Test.YtiakmpnmooobbaaDoorShaN
namespace Go.Proofs.YtiakmpnmooobbaaDoor
open Go.RowKit Go.Deep
section
variable {H : Type} {enc : TypeId × Value → H} {w : World} {sp : Nat → Bool} {held : Bool} {fuel : Nat} {cs : List Value} {x : DataW H × List MemPlace}
theorem open_intsV (h : DataW.trod enc Tryd.prog w 0 sp held fuel 34 cs = some x) : ∃ v l, cs = [v] ∧ IntsV w (fun k => k < w.heap.size) v l :=
  open_one (Value.int .i64) Tryd.underlying34 (by kernel_rfl) (fun fuel cs x h => by
    obtain ⟨n, rfl, _, _⟩ := DataW.trod_int Tryd.underlying3 h
    exact ⟨n, rfl⟩) h
theorem open_stringsV (h : DataW.trod enc Tryd.prog w 0 sp held fuel 26 cs = some x) : ∃ v l, cs = [v] ∧ StringsV w (fun k => k < w.heap.size) v l :=
  open_one Value.string Tryd.underlying26 (by kernel_rfl) (fun fuel cs x h => by
    obtain ⟨n, rfl, _⟩ := DataW.trod_string Tryd.underlying9 h
    exact ⟨n, rfl⟩) h
end
end Go.Proofs.YtiakmpnmooobbaaDoor
