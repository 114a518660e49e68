/- Contract of the laws' awake. -/
import Derived.Test.YtiakmpnmooobbaaDoorShaF
namespace Go.Proofs.YtiakmpnmooobbaaDoor
open Go.RowKit
theorem fh_1 : FromHexV (⟨#[48, 48, 97, 98]⟩ : ByteArray).data.toList = .tuple #[.string ⟨#[0, 171]⟩, .int .i64 0] := by rfl
theorem fh_2 : FromHexV (⟨#[48, 65]⟩ : ByteArray).data.toList = .tuple #[.string ⟨#[]⟩, .int .i64 3] := by rfl
theorem StringsV.empty (w : World) (F : Nat → Prop) : StringsV w F (.slice none 0 0) [] := ⟨none, 0, rfl, by simp, by unfold maxLen; omega, fun _ => rfl, fun h => absurd h (by simp)⟩
theorem hex_abc : (Sha.hex (⟨(Sha.sum [97, 98, 99]).toArray⟩ : ByteArray).data.toList).toArray = #[98, 97, 55, 56, 49, 54, 98, 102, 56, 102, 48, 49, 99, 102, 101, 97, 52, 49, 52, 49, 52, 48, 100, 101, 53, 100, 97, 101, 50, 50, 50, 51, 98, 48, 48, 51, 54, 49, 97, 51, 57, 54, 49, 55, 55, 97, 57, 99, 98, 52, 49, 48, 102, 102, 54, 49, 102, 50, 48, 48, 49, 53, 97, 100] := by
  show (Sha.hex (Sha.sum [97, 98, 99]).toArray.toList).toArray = _
  rw [List.toList_toArray, Sha.abc]
theorem hex_none : (Sha.hex (⟨(Sha.sum (Cat [])).toArray⟩ : ByteArray).data.toList).toArray = #[101, 51, 98, 48, 99, 52, 52, 50, 57, 56, 102, 99, 49, 99, 49, 52, 57, 97, 102, 98, 102, 52, 99, 56, 57, 57, 54, 102, 98, 57, 50, 52, 50, 55, 97, 101, 52, 49, 101, 52, 54, 52, 57, 98, 57, 51, 52, 99, 97, 52, 57, 53, 57, 57, 49, 98, 55, 56, 53, 50, 98, 56, 53, 53] := by
  show (Sha.hex (Sha.sum []).toArray.toList).toArray = _
  rw [List.toList_toArray, Sha.nothing]
theorem sum_length (l : List UInt8) : (Sha.sum l).length = 32 := rfl
set_option maxRecDepth 100000 in
set_option maxHeartbeats 1000000 in
theorem awake_any (w : World) (hg : Glob w) : Calls Tryd.prog 11 #[] w fun e w' => e = .returned (.bool true) ∧ Below w.heap.size w w' := by
  have HG := Lib.hid hg; clear hg
  have kc := fun (w : World) (C : Array Value) (n c : Nat) => Lib.run_convert_bytes_const (P := Tryd.prog) w 22 5 C n c Tryd.underlying22 Tryd.underlying5
  go_enter Tryd.func11, Tryd.ntmps11
  go_wp2_with fail
  refine (fromhex_any w _ (by decide)).mono ?_
  rintro e w1 ⟨rfl, hb1⟩
  rw [fh_1]
  have B1 := Lib.hid hb1
  clear hb1
  go_wp2_with fail
  refine (fromhex_any w1 _ (by decide)).mono ?_
  rintro e w2 ⟨rfl, hb2⟩
  rw [fh_2]
  have B2 := Lib.hid (B1.out.trans (hb2.mono B1.out.size))
  clear hb2 B1
  have Y0 : BV (w2.alloc (.cells #[.int .u8 97, .int .u8 98, .int .u8 99] 5 (3, 4))) (· = w2.heap.size) (.slice (some ⟨w2.heap.size, 0, none⟩) 3 3) [97, 98, 99] := by
    have := BV.made w2 [97, 98, 99] 5 (3, 4) (by unfold maxLen; simp)
    (try simp only [World.size_alloc] at this)
    exact this
  have BV2 := Lib.hid (Y0.mono (G := fun k => k < (w2.alloc (.cells #[.int .u8 97, .int .u8 98, .int .u8 99] 5 (3, 4))).heap.size) (fun k hk => by subst hk; simp))
  have B3 := Lib.hid (B2.out.alloc B2.out.size (.cells #[.int .u8 97, .int .u8 98, .int .u8 99] 5 (3, 4)))
  clear Y0
  go_wp2_with fail
  generalize w2.alloc (.cells #[.int .u8 97, .int .u8 98, .int .u8 99] 5 (3, 4)) = w3 at *
  refine (shaof_any BV2.out (HG.out.below B3.out HG.out.lt) (by decide)).mono ?_
  rintro e w4 ⟨rfl, hb4⟩
  have B4 := Lib.hid (B3.out.trans (hb4.mono B3.out.size))
  clear hb4 B3 BV2 B2
  go_wp2_with fail
  refine (hex_any w4 _ (by show (Sha.sum [97, 98, 99]).length ≤ _; rw [sum_length]; omega)).mono ?_
  rintro e w5 ⟨rfl, hb5⟩
  rw [hex_abc]
  have B5 := Lib.hid (B4.out.trans (hb5.mono B4.out.size))
  clear hb5 B4
  go_wp2_with fail
  refine (shajoin_any (StringsV.empty w5 _) (HG.out.below B5.out HG.out.lt) (by decide)).mono ?_
  rintro e w6 ⟨rfl, hb6⟩
  have B6 := Lib.hid (B5.out.trans (hb6.mono B5.out.size))
  clear hb6 B5
  go_wp2_with fail
  refine (hex_any w6 _ (by show (Sha.sum (Cat [])).length ≤ _; rw [sum_length]; omega)).mono ?_
  rintro e w7 ⟨rfl, hb7⟩
  rw [hex_none]
  have B7 := Lib.hid (B6.out.trans (hb7.mono B6.out.size))
  clear hb7 B6
  go_wp2_with fail
  refine (shanew_any (HG.out.below B7.out HG.out.lt)).mono ?_
  rintro e w8 ⟨b, rfl, _, hb8, _⟩
  have B8 := Lib.hid (B7.out.trans (hb8.mono B7.out.size))
  clear hb8 B7
  go_wp2_with fail
  go_ret
  exact ⟨rfl, B8.out⟩
end Go.Proofs.YtiakmpnmooobbaaDoor
