/- Contract of Join. -/
import Derived.Test.YtcpcnfedbffecaaDoorShaN
namespace Go.Proofs.YtcpcnfedbffecaaDoor
open Go.RowKit
section
variable {w w' : World} {b k : Nat} {l x : List UInt8} {L rest : List Value} {T : TypeId} {F : Nat → Prop} {xv : Value}
set_option maxRecDepth 100000 in
set_option maxHeartbeats 1000000 in
theorem shajoin_any {ps : List ByteArray} (hx : StringsV w (fun k => k < w.heap.size) xv ps) (hg : Glob w) (hlen : (Cat ps).length ≤ 1000000000) :
    Calls Tryd.prog 37 #[xv] w fun e w' => e = .returned (.string ⟨(Sha.sum (Cat ps)).toArray⟩) ∧ Below w.heap.size w w' := by
  obtain ⟨xa, xc, rfl, xc1, xc2, _⟩ := hx.get
  unfold maxLen at xc2
  have HX := Lib.hid hx; clear hx
  have HG := Lib.hid hg; clear hg
  go_enter Tryd.func37, Tryd.ntmps37
  go_wp2_with fail
  refine (shanew_any HG.out).mono ?_
  rintro e w1 ⟨b, rfl, hb, hb1, hS1⟩
  have B1 := Lib.hid hb1
  have S1 : Hid (ShaIs w1 b (Cat (ps.take 0)) [] 97) := hS1
  have Hb := Lib.hid hb
  clear hb1 hS1 hb
  go_wp2_with fail
  go_loopw [9] (fun i wr => ∃ k : Nat, k ≤ ps.length ∧ i = .int .i64 (k : Int) ∧ Below w.heap.size w wr ∧ ShaIs wr b (Cat (ps.take k)) [] 97) (fun i _ => ps.length - (intOf i).toNat)
  case atStart => exact ⟨0, by omega, rfl, B1.out, S1.out⟩
  case round =>
    obtain ⟨k, hk, rfl, hbe, hS⟩ := hrel
    clear B1 S1
    have HBE := Lib.hid hbe
    have HS := Lib.hid hS
    have hlt2 : b < wr.heap.size := by obtain ⟨_, _, _, _, _, h⟩ := hS; exact h.lt
    have Hlt2 := Lib.hid hlt2
    clear hbe hS hlt2
    by_cases hlt : k < ps.length
    · have ik : (k : Int) < (ps.length : Int) := by omega
      obtain ⟨_, _, e1, _, _, hget⟩ := SV.get (SV.same HX.out (fun x hx => HBE.out.block x hx))
      obtain ⟨rfl, rfl⟩ : _ ∧ _ := by simpa using e1
      obtain ⟨pb, po, rfl, _, pc⟩ := hget k hlt
      have hle := Cat_le ps k hlt
      have htk := Cat_take ps k hlt
      obtain ⟨s, hs⟩ : ∃ s, ps[k] = s := ⟨_, rfl⟩
      rw [hs] at pc hle htk
      have hss : s.data.toList.length = s.size := rfl
      obtain ⟨c, w2, hconv, hb2, hbv, hsz⟩ := conv_bytes wr s (by omega)
      have B2 := Lib.hid (HBE.out.trans (hb2.mono HBE.out.size))
      have S2 := Lib.hid (HS.out.of_same (hb2.block b Hlt2.out))
      have BV2 := Lib.hid hbv
      have Hsz := Lib.hid hsz
      have Hle := Lib.hid hle
      have Htk := Lib.hid htk
      clear hb2 hbv hsz hle htk hget e1 hs hss
      go_wp2_with fail
      refine (shawrite_any S2.out BV2.out (fun k hk => ⟨by have := Hlt2.out; omega, by have := Hsz.out; omega⟩) (HG.out.below B2.out HG.out.lt) (by have := Hb.out; have := HG.out.lt; omega) (by have := Hle.out; omega)).mono ?_
      rintro e w3 ⟨rfl, hst, hS3⟩
      have B3 := Lib.hid (B2.out.trans (hst.below (B := w.heap.size) (fun k hk => by have := Hb.out; omega) B2.out.size))
      rw [← Htk.out] at hS3
      have S3 := Lib.hid hS3
      clear hst hS3 B2 S2 hconv
      go_wp2_with fail
      go_roundw
      case rel => exact ⟨k + 1, by omega, by go_num, B3.out, S3.out⟩
      case measure => simp [intOf]; omega
    · have e8 : k = ps.length := by omega
      rw [e8, List.take_length] at HS
      clear e8 hk
      go_wp2_with fail
      refine (shasum_any HS.out (HG.out.below HBE.out HG.out.lt) hlen).mono ?_
      rintro e w3 ⟨rfl, hb3⟩
      go_wp2_with fail
      go_ret
      exact ⟨rfl, HBE.out.trans (hb3.mono HBE.out.size)⟩
end
end Go.Proofs.YtcpcnfedbffecaaDoor
