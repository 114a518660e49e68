/- Contracts of New, Sum and Join. -/
import Derived.Test.YtghhjopclkhpnaaDoorShaS
import Derived.Laws.IdiomStrings
namespace Go.Proofs.YtghhjopclkhpnaaDoor
open Go.RowKit
section
variable {w w' : World} {b k : Nat} {l x : List UInt8} {L rest : List Value} {T : TypeId} {F : Nat → Prop} {xv : Value}
set_option maxRecDepth 100000 in
set_option maxHeartbeats 1000000 in
theorem shanew_any (hg : Glob w) : Calls Tryd.prog 33 #[] w fun e w' => ∃ b, e = .returned (.pointer (some ⟨b, 0, none⟩)) ∧ b = w.heap.size ∧ Below w.heap.size w w' ∧ ShaIs w' b [] [] 50 := by
  have d0 : w.cell? ⟨1, 0, none⟩ = some (.int .u32 1779033703) := hg.iv 0 (by omega)
  have d1 : w.cell? ⟨1, 1, none⟩ = some (.int .u32 3144134277) := hg.iv 1 (by omega)
  have d2 : w.cell? ⟨1, 2, none⟩ = some (.int .u32 1013904242) := hg.iv 2 (by omega)
  have d3 : w.cell? ⟨1, 3, none⟩ = some (.int .u32 2773480762) := hg.iv 3 (by omega)
  have d4 : w.cell? ⟨1, 4, none⟩ = some (.int .u32 1359893119) := hg.iv 4 (by omega)
  have d5 : w.cell? ⟨1, 5, none⟩ = some (.int .u32 2600822924) := hg.iv 5 (by omega)
  have d6 : w.cell? ⟨1, 6, none⟩ = some (.int .u32 528734635) := hg.iv 6 (by omega)
  have d7 : w.cell? ⟨1, 7, none⟩ = some (.int .u32 1541459225) := hg.iv 7 (by omega)
  have hz := Tryd.zeroState
  have hsz : zst.size = 73 := by kernel_rfl
  go_enter Tryd.func33, Tryd.ntmps33
  go_wp2_with fail
  go_ret
  refine ⟨_, rfl, rfl, (Below.refl _ _).alloc (Nat.le_refl _) _, Sha.iv, List.replicate 64 0, by simp, rfl, rfl, ?_⟩
  exact Blk.new w (shaCells Sha.iv (List.replicate 64 0) 0 ++ []) _

set_option maxRecDepth 100000 in
set_option maxHeartbeats 1000000 in
theorem shaof_any (hx : BV w (fun k => k < w.heap.size) xv x) (hg : Glob w) (hlen : x.length ≤ 1000000000) :
    Calls Tryd.prog 23 #[xv] w fun e w' => e = .returned (.string ⟨(Sha.sum x).toArray⟩) ∧ Below w.heap.size w w' := by
  have HX := Lib.hid hx; clear hx
  have HG := Lib.hid hg; clear hg
  go_enter Tryd.func23, Tryd.ntmps23
  go_wp2_with fail
  refine (shanew_any HG.out).mono ?_
  rintro e w1 ⟨b, rfl, hb, hb1, hS1⟩
  have B1 := Lib.hid hb1
  have S1 := Lib.hid hS1
  have Hb := Lib.hid hb
  have hlt1 : b < w1.heap.size := by obtain ⟨_, _, _, _, _, h⟩ := hS1; exact h.lt
  have Hlt1 := Lib.hid hlt1
  clear hb1 hS1 hb hlt1
  go_wp2_with fail
  refine (shawrite_any S1.out (HX.out.grow B1.out) (fun k hk => ⟨by have := Hb.out; omega, by have := Hb.out; have := Hlt1.out; omega⟩) (HG.out.below B1.out HG.out.lt) (by have := Hb.out; have := HG.out.lt; omega) (by simp; omega)).mono ?_
  rintro e w2 ⟨rfl, hst, hS2⟩
  have B2 := Lib.hid (B1.out.trans (hst.below (B := w.heap.size) (fun k hk => by have := Hb.out; omega) B1.out.size))
  have S2 := Lib.hid hS2
  clear hst hS2 B1 S1
  go_wp2_with fail
  refine (shasum_any S2.out (HG.out.below B2.out HG.out.lt) (by simpa using hlen)).mono ?_
  rintro e w3 ⟨rfl, hb3⟩
  go_wp2_with fail
  go_ret
  exact ⟨by simp, B2.out.trans (hb3.mono B2.out.size)⟩
/-- '[]byte(s)': a new row; the rest stays. -/
theorem conv_bytes (w : World) (s : ByteArray) (hs : s.size ≤ 1000000000000) : ∃ c w', (convert 9 22 (.string s)).run Tryd.prog w = .ok (.slice (some ⟨w.heap.size, 0, none⟩) s.size c) w' ∧ Below w.heap.size w w' ∧ BV w' (· = w.heap.size) (.slice (some ⟨w.heap.size, 0, none⟩) s.size c) s.data.toList ∧ w'.heap.size = w.heap.size + 1 := by
  have hl : s.data.toList.length = s.size := rfl
  refine ⟨_, _, run_bytes_of_string (P := Tryd.prog) w 9 22 5 s Tryd.underlying9 Tryd.underlying22 Tryd.underlying5, (Below.refl _ _).drew.alloc (Nat.le_refl _) _, ?_, by simp⟩
  refine ⟨_, _, by rw [hl], by rw [hl]; exact grownCap_ge _ _ _ _, grownCap_le_maxLen _ _ _ _ (by unfold maxLen; omega), (fun e => by cases e), fun _ => ⟨w.heap.size, 0, rfl, rfl, fun i hi => ?_⟩⟩
  rw [Nat.zero_add, cell_of_row _ w.heap.size i _ _ _ (heap_alloc_new w.drew _)]
  have hi2 : i < s.size := by rw [← hl]; exact hi
  simp [bytesRow, Array.getElem?_append, hi2]
/-- The concatenation. -/
def Cat (l : List ByteArray) : List UInt8 := l.flatMap fun s => s.data.toList
theorem Cat_take (l : List ByteArray) (k : Nat) (hk : k < l.length) : Cat (l.take (k + 1)) = Cat (l.take k) ++ l[k].data.toList := by
  unfold Cat
  rw [List.take_succ_eq_append_getElem hk, List.flatMap_append]
  simp only [List.flatMap_cons, List.flatMap_nil, List.append_nil]
theorem Cat_le (l : List ByteArray) (k : Nat) (hk : k < l.length) : (Cat (l.take k)).length + l[k].data.toList.length ≤ (Cat l).length := by
  have h : Cat l = Cat (l.take (k + 1)) ++ Cat (l.drop (k + 1)) := by
    unfold Cat; rw [← List.flatMap_append, List.take_append_drop]
  rw [h, Cat_take l k hk]; simp only [List.length_append]; omega
abbrev StringsV := SV Value.string
set_option maxRecDepth 100000 in
set_option maxHeartbeats 1000000 in
theorem shajoin_any {ps : List ByteArray} (hx : StringsV w (fun k => k < w.heap.size) xv ps) (hg : Glob w) (hlen : (Cat ps).length ≤ 1000000000) :
    Calls Tryd.prog 31 #[xv] w fun e w' => e = .returned (.string ⟨(Sha.sum (Cat ps)).toArray⟩) ∧ Below w.heap.size w w' := by
  obtain ⟨xa, xc, rfl, xc1, xc2, _⟩ := hx.get
  unfold maxLen at xc2
  have HX := Lib.hid hx; clear hx
  have HG := Lib.hid hg; clear hg
  go_enter Tryd.func31, Tryd.ntmps31
  go_wp2_with fail
  refine (shanew_any HG.out).mono ?_
  rintro e w1 ⟨b, rfl, hb, hb1, hS1⟩
  have B1 := Lib.hid hb1
  have S1 : Hid (ShaIs w1 b (Cat (ps.take 0)) [] 50) := hS1
  have Hb := Lib.hid hb
  clear hb1 hS1 hb
  go_wp2_with fail
  go_loopw [9] (fun i wr => ∃ k : Nat, k ≤ ps.length ∧ i = .int .i64 (k : Int) ∧ Below w.heap.size w wr ∧ ShaIs wr b (Cat (ps.take k)) [] 50) (fun i _ => ps.length - (intOf i).toNat)
  case atStart => exact ⟨0, by omega, rfl, B1.out, S1.out⟩
  case round =>
    obtain ⟨k, hk, rfl, hbe, hS⟩ := hrel
    clear B1 S1
    have HBE := Lib.hid hbe
    have HS := Lib.hid hS
    have hlt2 : b < wr.heap.size := by obtain ⟨_, _, _, _, _, h⟩ := hS; exact h.lt
    have Hlt2 := Lib.hid hlt2
    clear hbe hS hlt2
    by_cases hlt : k < ps.length
    · have ik : (k : Int) < (ps.length : Int) := by omega
      obtain ⟨_, _, e1, _, _, hget⟩ := SV.get (SV.same HX.out (fun x hx => HBE.out.block x hx))
      obtain ⟨rfl, rfl⟩ : _ ∧ _ := by simpa using e1
      obtain ⟨pb, po, rfl, _, pc⟩ := hget k hlt
      have hle := Cat_le ps k hlt
      have htk := Cat_take ps k hlt
      obtain ⟨s, hs⟩ : ∃ s, ps[k] = s := ⟨_, rfl⟩
      rw [hs] at pc hle htk
      have hss : s.data.toList.length = s.size := rfl
      obtain ⟨c, w2, hconv, hb2, hbv, hsz⟩ := conv_bytes wr s (by omega)
      have B2 := Lib.hid (HBE.out.trans (hb2.mono HBE.out.size))
      have S2 := Lib.hid (HS.out.of_same (hb2.block b Hlt2.out))
      have BV2 := Lib.hid hbv
      have Hsz := Lib.hid hsz
      have Hle := Lib.hid hle
      have Htk := Lib.hid htk
      clear hb2 hbv hsz hle htk hget e1 hs hss
      go_wp2_with fail
      refine (shawrite_any S2.out BV2.out (fun k hk => ⟨by have := Hlt2.out; omega, by have := Hsz.out; omega⟩) (HG.out.below B2.out HG.out.lt) (by have := Hb.out; have := HG.out.lt; omega) (by have := Hle.out; omega)).mono ?_
      rintro e w3 ⟨rfl, hst, hS3⟩
      have B3 := Lib.hid (B2.out.trans (hst.below (B := w.heap.size) (fun k hk => by have := Hb.out; omega) B2.out.size))
      rw [← Htk.out] at hS3
      have S3 := Lib.hid hS3
      clear hst hS3 B2 S2 hconv
      go_wp2_with fail
      go_roundw
      case rel => exact ⟨k + 1, by omega, by go_num, B3.out, S3.out⟩
      case measure => simp [intOf]; omega
    · have e8 : k = ps.length := by omega
      rw [e8, List.take_length] at HS
      clear e8 hk
      go_wp2_with fail
      refine (shasum_any HS.out (HG.out.below HBE.out HG.out.lt) hlen).mono ?_
      rintro e w3 ⟨rfl, hb3⟩
      go_wp2_with fail
      go_ret
      exact ⟨rfl, HBE.out.trans (hb3.mono HBE.out.size)⟩
end
end Go.Proofs.YtghhjopclkhpnaaDoor
