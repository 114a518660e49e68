/- Contract of the reference's Join. -/
import Derived.Test.YtiakmpnmooobbaaDoorRefS
namespace Go.Proofs.YtiakmpnmooobbaaDoor
open Go.RowKit
section
variable {w w' : World} {xv : Value}
set_option maxRecDepth 100000 in
set_option maxHeartbeats 1000000 in
theorem refjoin_any {ps : List ByteArray} (hx : StringsV w (fun k => k < w.heap.size) xv ps) (hlen : (Cat ps).length ≤ 1000000000) :
    Calls Tryd.prog 15 #[xv] w fun e w' => e = .returned (.string ⟨(Sha.sum (Cat ps)).toArray⟩) ∧ Below w.heap.size w w' := by
  obtain ⟨xa, xc, rfl, xc1, xc2, hget⟩ := hx.get
  unfold maxLen at xc2
  have HG := Lib.hid hget
  clear hx hget
  go_enter Tryd.func15, Tryd.ntmps15
  go_wp2_with fail
  go_loop [3, 8] (fun sv i => ∃ (k : Nat) (s : ByteArray), k ≤ ps.length ∧ i = .int .i64 (k : Int) ∧ sv = .string s ∧ s.data.toList = Cat (ps.take k)) (fun _ i => ps.length - (intOf i).toNat)
  case atStart => exact ⟨0, _, by omega, rfl, rfl, rfl⟩
  case round =>
    obtain ⟨k, s, hk, rfl, rfl, hs⟩ := hrel
    have Hs := Lib.hid hs
    have hsz : s.size = (Cat (ps.take k)).length := by rw [← hs]; rfl
    clear hs
    by_cases hlt : k < ps.length
    · have ik : (k : Int) < (ps.length : Int) := by omega
      obtain ⟨pb, po, rfl, _, pc⟩ := HG.out k hlt
      have hle := Cat_le ps k hlt
      have htk := Cat_take ps k hlt
      obtain ⟨t, ht⟩ : ∃ s, ps[k] = s := ⟨_, rfl⟩
      rw [ht] at pc hle htk
      have Htk := Lib.hid htk
      have hts : t.size = t.data.toList.length := rfl
      have hsum : s.size + t.size ≤ 1000000000 := by omega
      clear htk ht hle hsz hts
      go_wp2_with fail
      go_round
      case rel => exact ⟨k + 1, s ++ t, by omega, by go_num, rfl, by rw [Htk.out, ← Hs.out]; simp⟩
      case measure => simp [intOf]; omega
    · have e8 : k = ps.length := by omega
      rw [e8, List.take_length] at Hs
      have hs1 : s.size = (Cat ps).length := by rw [← Hs.out]; rfl
      obtain ⟨c, w2, hconv, hb2, hbv, _⟩ := conv_bytes w s (by omega)
      have B2 := Lib.hid hb2
      have HBV := Lib.hid hbv
      rw [Hs.out] at HBV
      clear e8 hk hs1 hb2 hbv hsz
      go_wp2_with fail
      refine (refsum_any HBV.out hlen).mono ?_
      rintro e w3 ⟨rfl, hb3⟩
      have B3 := B2.out.trans (hb3.mono B2.out.size)
      clear hb3 hconv
      go_wp2_with fail
      go_ret
      exact ⟨rfl, B3⟩
end
end Go.Proofs.YtiakmpnmooobbaaDoor
