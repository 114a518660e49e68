/- Contracts of New and Sum. -/
import Derived.Test.YtcpcnfedbffecaaDoorShaS
import Derived.Laws.IdiomStrings
namespace Go.Proofs.YtcpcnfedbffecaaDoor
open Go.RowKit
section
variable {w w' : World} {b k : Nat} {l x : List UInt8} {L rest : List Value} {T : TypeId} {F : Nat → Prop} {xv : Value}
set_option maxRecDepth 100000 in
set_option maxHeartbeats 1000000 in
theorem shanew_any (hg : Glob w) : Calls Tryd.prog 45 #[] w fun e w' => ∃ b, e = .returned (.pointer (some ⟨b, 0, none⟩)) ∧ b = w.heap.size ∧ Below w.heap.size w w' ∧ ShaIs w' b [] [] 97 := by
  have d0 : w.cell? ⟨0, 0, none⟩ = some (.int .u32 1779033703) := hg.iv 0 (by omega)
  have d1 : w.cell? ⟨0, 1, none⟩ = some (.int .u32 3144134277) := hg.iv 1 (by omega)
  have d2 : w.cell? ⟨0, 2, none⟩ = some (.int .u32 1013904242) := hg.iv 2 (by omega)
  have d3 : w.cell? ⟨0, 3, none⟩ = some (.int .u32 2773480762) := hg.iv 3 (by omega)
  have d4 : w.cell? ⟨0, 4, none⟩ = some (.int .u32 1359893119) := hg.iv 4 (by omega)
  have d5 : w.cell? ⟨0, 5, none⟩ = some (.int .u32 2600822924) := hg.iv 5 (by omega)
  have d6 : w.cell? ⟨0, 6, none⟩ = some (.int .u32 528734635) := hg.iv 6 (by omega)
  have d7 : w.cell? ⟨0, 7, none⟩ = some (.int .u32 1541459225) := hg.iv 7 (by omega)
  have hz := Tryd.zeroState
  have hsz : zst.size = 73 := by kernel_rfl
  go_enter Tryd.func45, Tryd.ntmps45
  go_wp2_with fail
  go_ret
  refine ⟨_, rfl, rfl, (Below.refl _ _).alloc (Nat.le_refl _) _, Sha.iv, List.replicate 64 0, by simp, rfl, rfl, ?_⟩
  exact Blk.new w (shaCells Sha.iv (List.replicate 64 0) 0 ++ []) _

/-- '[]byte(s)': a new row; the rest stays. -/
theorem conv_bytes (w : World) (s : ByteArray) (hs : s.size ≤ 1000000000000) : ∃ c w', (convert 9 39 (.string s)).run Tryd.prog w = .ok (.slice (some ⟨w.heap.size, 0, none⟩) s.size c) w' ∧ Below w.heap.size w w' ∧ BV w' (· = w.heap.size) (.slice (some ⟨w.heap.size, 0, none⟩) s.size c) s.data.toList ∧ w'.heap.size = w.heap.size + 1 := by
  have hl : s.data.toList.length = s.size := rfl
  refine ⟨_, _, run_bytes_of_string (P := Tryd.prog) w 9 39 5 s Tryd.underlying9 Tryd.underlying39 Tryd.underlying5, (Below.refl _ _).drew.alloc (Nat.le_refl _) _, ?_, by simp⟩
  refine ⟨_, _, by rw [hl], by rw [hl]; exact grownCap_ge _ _ _ _, grownCap_le_maxLen _ _ _ _ (by unfold maxLen; omega), (fun e => by cases e), fun _ => ⟨w.heap.size, 0, rfl, rfl, fun i hi => ?_⟩⟩
  rw [Nat.zero_add, cell_of_row _ w.heap.size i _ _ _ (heap_alloc_new w.drew _)]
  have hi2 : i < s.size := by rw [← hl]; exact hi
  simp [bytesRow, Array.getElem?_append, hi2]
/-- The concatenation. -/
def Cat (l : List ByteArray) : List UInt8 := l.flatMap fun s => s.data.toList
theorem Cat_take (l : List ByteArray) (k : Nat) (hk : k < l.length) : Cat (l.take (k + 1)) = Cat (l.take k) ++ l[k].data.toList := by
  unfold Cat
  rw [List.take_succ_eq_append_getElem hk, List.flatMap_append]
  simp only [List.flatMap_cons, List.flatMap_nil, List.append_nil]
theorem Cat_le (l : List ByteArray) (k : Nat) (hk : k < l.length) : (Cat (l.take k)).length + l[k].data.toList.length ≤ (Cat l).length := by
  have h : Cat l = Cat (l.take (k + 1)) ++ Cat (l.drop (k + 1)) := by
    unfold Cat; rw [← List.flatMap_append, List.take_append_drop]
  rw [h, Cat_take l k hk]; simp only [List.length_append]; omega
abbrev StringsV := SV Value.string
end
end Go.Proofs.YtcpcnfedbffecaaDoor
