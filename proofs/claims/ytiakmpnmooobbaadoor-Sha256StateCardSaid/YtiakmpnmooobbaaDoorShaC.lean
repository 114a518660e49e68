/- Contract of (*State).Clone. -/
import Derived.Test.YtiakmpnmooobbaaDoorShaG
import Derived.Test.YtiakmpnmooobbaaDoorRefC
namespace Go.Proofs.YtiakmpnmooobbaaDoor
open Go.RowKit
section
variable {w w' : World} {b : Nat} {l : List UInt8} {T : TypeId}
set_option maxRecDepth 100000 in
set_option maxHeartbeats 1000000 in
theorem shaclone_any (h : ShaIs w b l [] T) :
    Calls Tryd.prog 24 #[.pointer (some ⟨b, 0, none⟩)] w fun e w' => e = .returned (.pointer (some ⟨w.heap.size, 0, none⟩)) ∧ Below w.heap.size w w' ∧ ShaIs w' w.heap.size l [] 56 ∧ w'.heap.size = w.heap.size + 1 := by
  obtain ⟨v, buf, h64, hv, ht, hB⟩ := h
  have CC := Lib.hid (ShaIs.copy h64 hv ht w)
  have HB := Lib.hid hB
  have hz := Tryd.zeroState
  obtain ⟨L, hL⟩ : ∃ L, shaCells v buf l.length = L := ⟨_, rfl⟩
  have hLl : L.length = 73 := by rw [← hL]; exact shaCells_length h64
  have hL1 : ∀ u ∈ L, u.oneCell' = true := by rw [← hL]; exact shaCells_one
  rw [hL] at CC HB
  have HLl := Lib.hid hLl
  have HL1 := Lib.hid hL1
  clear hB hv ht hL hLl hL1
  go_enter Tryd.func24, Tryd.ntmps24
  go_wp2_with (first
    | (refine wpList_load_mid rfl 56 (.tmp 5) rfl b 0 (by rfl) L _ HB.out.rangeAt Tryd.underlying56 rfl (by rw [HLl.out]; exact Tryd.sizeState) ?_)
    | (refine wpList_store_mid rfl 56 (.tmp 3) (.tmp 6) rfl w.heap.size 0 L.toArray (by rfl) (by rfl) ((show Blk (w.alloc (.cells zst 56)) w.heap.size zst.toList 56 from Blk.new w zst.toList _).there (by simp only [List.size_toArray, HLl.out, zst_size]; omega)) (by simp only [List.size_toArray, HLl.out]; exact Tryd.sizeState) (all_oneCell_toArray HL1.out) ?_; change wpList _ _ _ _ _ ((w.alloc (.cells zst 56)).setCells w.heap.size 0 L)))
  go_ret
  exact ⟨rfl, CC.out⟩
end
end Go.Proofs.YtiakmpnmooobbaaDoor
