/- The model's arithmetic on uint32 in the words of UInt32; contract of RotateLeft32. -/
import Derived.Test.YtcpcnfedbffecaaDoorChecked
import Derived.Test.YtcpcnfedbffecaaDoorHeap
import Derived.Test.YtcpcnfedbffecaaDoorShaM
import Derived.Laws.BitsAllLaws
namespace Go.Proofs.YtcpcnfedbffecaaDoor
open Go.RowKit
theorem w_xor (x y : UInt32) : bits BinOp.xor IntKind.u32 (x.toNat : Int) (y.toNat : Int) = ((x ^^^ y).toNat : Int) := by
  rw [u32_xor_nat _ _ x.toNat_lt y.toNat_lt, UInt32.toNat_xor]
theorem w_and (x y : UInt32) : bits BinOp.and IntKind.u32 (x.toNat : Int) (y.toNat : Int) = ((x &&& y).toNat : Int) := by
  rw [u32_and_nat _ _ x.toNat_lt y.toNat_lt, UInt32.toNat_and]
theorem w_or (x y : UInt32) : bits BinOp.or IntKind.u32 (x.toNat : Int) (y.toNat : Int) = ((x ||| y).toNat : Int) := by
  rw [u32_or_nat _ _ x.toNat_lt y.toNat_lt, UInt32.toNat_or]
theorem w_or8 (x : UInt32) (b : UInt8) : bits BinOp.or IntKind.u32 (x.toNat : Int) (b.toNat : Int) = ((x ||| b.toUInt32).toNat : Int) := by
  rw [u32_or_nat _ _ x.toNat_lt (by have := b.toNat_lt; omega), UInt32.toNat_or]; rfl
theorem w_add (x y : UInt32) : ((x.toNat : Int) + (y.toNat : Int)) % (4294967296 : Int) = ((x + y).toNat : Int) := by
  rw [UInt32.toNat_add]; omega
theorem w_shl (x : UInt32) (k m : Nat) (hk : k < 32) (hm : m = 2 ^ k) : (x.toNat : Int) * (m : Int) % 4294967296 = ((x <<< UInt32.ofNat k).toNat : Int) := by
  subst hm
  rw [UInt32.toNat_shiftLeft, Nat.shiftLeft_eq]
  simp only [UInt32.toNat_ofNat']
  rw [show k % 2 ^ 32 % 32 = k from by omega, Int.natCast_emod, Int.natCast_mul]
  rfl
theorem w_shr (x : UInt32) (k m : Nat) (hk : k < 32) (hm : m = 2 ^ k) : (x.toNat : Int) / (m : Int) = ((x >>> UInt32.ofNat k).toNat : Int) := by
  subst hm
  rw [UInt32.toNat_shiftRight, Nat.shiftRight_eq_div_pow]
  simp only [UInt32.toNat_ofNat']
  rw [show k % 2 ^ 32 % 32 = k from by omega, Int.natCast_ediv]
theorem w_shl8 (x : UInt8) (k m : Nat) (hk : k < 32) (hm : m = 2 ^ k) : (x.toNat : Int) * (m : Int) % 4294967296 = ((x.toUInt32 <<< UInt32.ofNat k).toNat : Int) := by
  rw [← w_shl _ k m hk hm]; rfl
theorem w_shl_7 (x : UInt32) : (x.toNat : Int) * (128 : Int) % (4294967296 : Int) = ((x <<< 7).toNat : Int) := w_shl x 7 128 (by omega) (by decide)
theorem w_shl_8 (x : UInt32) : (x.toNat : Int) * (256 : Int) % (4294967296 : Int) = ((x <<< 8).toNat : Int) := w_shl x 8 256 (by omega) (by decide)
theorem w_shl_10 (x : UInt32) : (x.toNat : Int) * (1024 : Int) % (4294967296 : Int) = ((x <<< 10).toNat : Int) := w_shl x 10 1024 (by omega) (by decide)
theorem w_shl_13 (x : UInt32) : (x.toNat : Int) * (8192 : Int) % (4294967296 : Int) = ((x <<< 13).toNat : Int) := w_shl x 13 8192 (by omega) (by decide)
theorem w_shl_14 (x : UInt32) : (x.toNat : Int) * (16384 : Int) % (4294967296 : Int) = ((x <<< 14).toNat : Int) := w_shl x 14 16384 (by omega) (by decide)
theorem w_shl_15 (x : UInt32) : (x.toNat : Int) * (32768 : Int) % (4294967296 : Int) = ((x <<< 15).toNat : Int) := w_shl x 15 32768 (by omega) (by decide)
theorem w_shl_16 (x : UInt32) : (x.toNat : Int) * (65536 : Int) % (4294967296 : Int) = ((x <<< 16).toNat : Int) := w_shl x 16 65536 (by omega) (by decide)
theorem w_shl_19 (x : UInt32) : (x.toNat : Int) * (524288 : Int) % (4294967296 : Int) = ((x <<< 19).toNat : Int) := w_shl x 19 524288 (by omega) (by decide)
theorem w_shl_21 (x : UInt32) : (x.toNat : Int) * (2097152 : Int) % (4294967296 : Int) = ((x <<< 21).toNat : Int) := w_shl x 21 2097152 (by omega) (by decide)
theorem w_shl_24 (x : UInt32) : (x.toNat : Int) * (16777216 : Int) % (4294967296 : Int) = ((x <<< 24).toNat : Int) := w_shl x 24 16777216 (by omega) (by decide)
theorem w_shl_25 (x : UInt32) : (x.toNat : Int) * (33554432 : Int) % (4294967296 : Int) = ((x <<< 25).toNat : Int) := w_shl x 25 33554432 (by omega) (by decide)
theorem w_shl_26 (x : UInt32) : (x.toNat : Int) * (67108864 : Int) % (4294967296 : Int) = ((x <<< 26).toNat : Int) := w_shl x 26 67108864 (by omega) (by decide)
theorem w_shl_30 (x : UInt32) : (x.toNat : Int) * (1073741824 : Int) % (4294967296 : Int) = ((x <<< 30).toNat : Int) := w_shl x 30 1073741824 (by omega) (by decide)
theorem w_shl8_24 (x : UInt8) : (x.toNat : Int) * (16777216 : Int) % (4294967296 : Int) = ((x.toUInt32 <<< 24).toNat : Int) := w_shl8 x 24 16777216 (by omega) (by decide)
theorem w_shl8_16 (x : UInt8) : (x.toNat : Int) * (65536 : Int) % (4294967296 : Int) = ((x.toUInt32 <<< 16).toNat : Int) := w_shl8 x 16 65536 (by omega) (by decide)
theorem w_shl8_8 (x : UInt8) : (x.toNat : Int) * (256 : Int) % (4294967296 : Int) = ((x.toUInt32 <<< 8).toNat : Int) := w_shl8 x 8 256 (by omega) (by decide)
theorem w_shr_2 (x : UInt32) : (x.toNat : Int) / (4 : Int) = ((x >>> 2).toNat : Int) := w_shr x 2 4 (by omega) (by decide)
theorem w_shr_3 (x : UInt32) : (x.toNat : Int) / (8 : Int) = ((x >>> 3).toNat : Int) := w_shr x 3 8 (by omega) (by decide)
theorem w_shr_6 (x : UInt32) : (x.toNat : Int) / (64 : Int) = ((x >>> 6).toNat : Int) := w_shr x 6 64 (by omega) (by decide)
theorem w_shr_7 (x : UInt32) : (x.toNat : Int) / (128 : Int) = ((x >>> 7).toNat : Int) := w_shr x 7 128 (by omega) (by decide)
theorem w_shr_8 (x : UInt32) : (x.toNat : Int) / (256 : Int) = ((x >>> 8).toNat : Int) := w_shr x 8 256 (by omega) (by decide)
theorem w_shr_10 (x : UInt32) : (x.toNat : Int) / (1024 : Int) = ((x >>> 10).toNat : Int) := w_shr x 10 1024 (by omega) (by decide)
theorem w_shr_11 (x : UInt32) : (x.toNat : Int) / (2048 : Int) = ((x >>> 11).toNat : Int) := w_shr x 11 2048 (by omega) (by decide)
theorem w_shr_13 (x : UInt32) : (x.toNat : Int) / (8192 : Int) = ((x >>> 13).toNat : Int) := w_shr x 13 8192 (by omega) (by decide)
theorem w_shr_16 (x : UInt32) : (x.toNat : Int) / (65536 : Int) = ((x >>> 16).toNat : Int) := w_shr x 16 65536 (by omega) (by decide)
theorem w_shr_17 (x : UInt32) : (x.toNat : Int) / (131072 : Int) = ((x >>> 17).toNat : Int) := w_shr x 17 131072 (by omega) (by decide)
theorem w_shr_18 (x : UInt32) : (x.toNat : Int) / (262144 : Int) = ((x >>> 18).toNat : Int) := w_shr x 18 262144 (by omega) (by decide)
theorem w_shr_19 (x : UInt32) : (x.toNat : Int) / (524288 : Int) = ((x >>> 19).toNat : Int) := w_shr x 19 524288 (by omega) (by decide)
theorem w_shr_22 (x : UInt32) : (x.toNat : Int) / (4194304 : Int) = ((x >>> 22).toNat : Int) := w_shr x 22 4194304 (by omega) (by decide)
theorem w_shr_24 (x : UInt32) : (x.toNat : Int) / (16777216 : Int) = ((x >>> 24).toNat : Int) := w_shr x 24 16777216 (by omega) (by decide)
theorem w_shr_25 (x : UInt32) : (x.toNat : Int) / (33554432 : Int) = ((x >>> 25).toNat : Int) := w_shr x 25 33554432 (by omega) (by decide)
section
set_option maxHeartbeats 400000 in
theorem rotl_17 (w : World) (x : UInt32) : Calls Tryd.prog 52 #[.int .u32 (x.toNat : Int), .int .i64 (-17)] w fun e w' => e = .returned (.int .u32 ((Sha.rot x 17).toNat : Int)) ∧ w = w' := by
  have hx := x.toNat_lt
  have h15 : bits .and .u64 (IntKind.u64.wrap (-17)) 31 = 15 := by decide +kernel
  go_enter Tryd.func52, Tryd.ntmps52
  go_wp2_with fail
  go_ret
  refine ⟨?_, rfl⟩
  show Ending.returned (.int .u32 (bits BinOp.or IntKind.u32 ((x.toNat : Int) * 32768 % 4294967296) ((x.toNat : Int) / 131072))) = _
  rw [w_shl_15, w_shr_17, w_or, show Sha.rot x 17 = x <<< 15 ||| x >>> 17 from by unfold Sha.rot; rw [UInt32.or_comm]; rfl]
set_option maxHeartbeats 400000 in
theorem rotl_19 (w : World) (x : UInt32) : Calls Tryd.prog 52 #[.int .u32 (x.toNat : Int), .int .i64 (-19)] w fun e w' => e = .returned (.int .u32 ((Sha.rot x 19).toNat : Int)) ∧ w = w' := by
  have hx := x.toNat_lt
  have h15 : bits .and .u64 (IntKind.u64.wrap (-19)) 31 = 13 := by decide +kernel
  go_enter Tryd.func52, Tryd.ntmps52
  go_wp2_with fail
  go_ret
  refine ⟨?_, rfl⟩
  show Ending.returned (.int .u32 (bits BinOp.or IntKind.u32 ((x.toNat : Int) * 8192 % 4294967296) ((x.toNat : Int) / 524288))) = _
  rw [w_shl_13, w_shr_19, w_or, show Sha.rot x 19 = x <<< 13 ||| x >>> 19 from by unfold Sha.rot; rw [UInt32.or_comm]; rfl]
set_option maxHeartbeats 400000 in
theorem rotl_7 (w : World) (x : UInt32) : Calls Tryd.prog 52 #[.int .u32 (x.toNat : Int), .int .i64 (-7)] w fun e w' => e = .returned (.int .u32 ((Sha.rot x 7).toNat : Int)) ∧ w = w' := by
  have hx := x.toNat_lt
  have h15 : bits .and .u64 (IntKind.u64.wrap (-7)) 31 = 25 := by decide +kernel
  go_enter Tryd.func52, Tryd.ntmps52
  go_wp2_with fail
  go_ret
  refine ⟨?_, rfl⟩
  show Ending.returned (.int .u32 (bits BinOp.or IntKind.u32 ((x.toNat : Int) * 33554432 % 4294967296) ((x.toNat : Int) / 128))) = _
  rw [w_shl_25, w_shr_7, w_or, show Sha.rot x 7 = x <<< 25 ||| x >>> 7 from by unfold Sha.rot; rw [UInt32.or_comm]; rfl]
set_option maxHeartbeats 400000 in
theorem rotl_18 (w : World) (x : UInt32) : Calls Tryd.prog 52 #[.int .u32 (x.toNat : Int), .int .i64 (-18)] w fun e w' => e = .returned (.int .u32 ((Sha.rot x 18).toNat : Int)) ∧ w = w' := by
  have hx := x.toNat_lt
  have h15 : bits .and .u64 (IntKind.u64.wrap (-18)) 31 = 14 := by decide +kernel
  go_enter Tryd.func52, Tryd.ntmps52
  go_wp2_with fail
  go_ret
  refine ⟨?_, rfl⟩
  show Ending.returned (.int .u32 (bits BinOp.or IntKind.u32 ((x.toNat : Int) * 16384 % 4294967296) ((x.toNat : Int) / 262144))) = _
  rw [w_shl_14, w_shr_18, w_or, show Sha.rot x 18 = x <<< 14 ||| x >>> 18 from by unfold Sha.rot; rw [UInt32.or_comm]; rfl]
set_option maxHeartbeats 400000 in
theorem rotl_6 (w : World) (x : UInt32) : Calls Tryd.prog 52 #[.int .u32 (x.toNat : Int), .int .i64 (-6)] w fun e w' => e = .returned (.int .u32 ((Sha.rot x 6).toNat : Int)) ∧ w = w' := by
  have hx := x.toNat_lt
  have h15 : bits .and .u64 (IntKind.u64.wrap (-6)) 31 = 26 := by decide +kernel
  go_enter Tryd.func52, Tryd.ntmps52
  go_wp2_with fail
  go_ret
  refine ⟨?_, rfl⟩
  show Ending.returned (.int .u32 (bits BinOp.or IntKind.u32 ((x.toNat : Int) * 67108864 % 4294967296) ((x.toNat : Int) / 64))) = _
  rw [w_shl_26, w_shr_6, w_or, show Sha.rot x 6 = x <<< 26 ||| x >>> 6 from by unfold Sha.rot; rw [UInt32.or_comm]; rfl]
set_option maxHeartbeats 400000 in
theorem rotl_11 (w : World) (x : UInt32) : Calls Tryd.prog 52 #[.int .u32 (x.toNat : Int), .int .i64 (-11)] w fun e w' => e = .returned (.int .u32 ((Sha.rot x 11).toNat : Int)) ∧ w = w' := by
  have hx := x.toNat_lt
  have h15 : bits .and .u64 (IntKind.u64.wrap (-11)) 31 = 21 := by decide +kernel
  go_enter Tryd.func52, Tryd.ntmps52
  go_wp2_with fail
  go_ret
  refine ⟨?_, rfl⟩
  show Ending.returned (.int .u32 (bits BinOp.or IntKind.u32 ((x.toNat : Int) * 2097152 % 4294967296) ((x.toNat : Int) / 2048))) = _
  rw [w_shl_21, w_shr_11, w_or, show Sha.rot x 11 = x <<< 21 ||| x >>> 11 from by unfold Sha.rot; rw [UInt32.or_comm]; rfl]
set_option maxHeartbeats 400000 in
theorem rotl_25 (w : World) (x : UInt32) : Calls Tryd.prog 52 #[.int .u32 (x.toNat : Int), .int .i64 (-25)] w fun e w' => e = .returned (.int .u32 ((Sha.rot x 25).toNat : Int)) ∧ w = w' := by
  have hx := x.toNat_lt
  have h15 : bits .and .u64 (IntKind.u64.wrap (-25)) 31 = 7 := by decide +kernel
  go_enter Tryd.func52, Tryd.ntmps52
  go_wp2_with fail
  go_ret
  refine ⟨?_, rfl⟩
  show Ending.returned (.int .u32 (bits BinOp.or IntKind.u32 ((x.toNat : Int) * 128 % 4294967296) ((x.toNat : Int) / 33554432))) = _
  rw [w_shl_7, w_shr_25, w_or, show Sha.rot x 25 = x <<< 7 ||| x >>> 25 from by unfold Sha.rot; rw [UInt32.or_comm]; rfl]
set_option maxHeartbeats 400000 in
theorem rotl_2 (w : World) (x : UInt32) : Calls Tryd.prog 52 #[.int .u32 (x.toNat : Int), .int .i64 (-2)] w fun e w' => e = .returned (.int .u32 ((Sha.rot x 2).toNat : Int)) ∧ w = w' := by
  have hx := x.toNat_lt
  have h15 : bits .and .u64 (IntKind.u64.wrap (-2)) 31 = 30 := by decide +kernel
  go_enter Tryd.func52, Tryd.ntmps52
  go_wp2_with fail
  go_ret
  refine ⟨?_, rfl⟩
  show Ending.returned (.int .u32 (bits BinOp.or IntKind.u32 ((x.toNat : Int) * 1073741824 % 4294967296) ((x.toNat : Int) / 4))) = _
  rw [w_shl_30, w_shr_2, w_or, show Sha.rot x 2 = x <<< 30 ||| x >>> 2 from by unfold Sha.rot; rw [UInt32.or_comm]; rfl]
set_option maxHeartbeats 400000 in
theorem rotl_13 (w : World) (x : UInt32) : Calls Tryd.prog 52 #[.int .u32 (x.toNat : Int), .int .i64 (-13)] w fun e w' => e = .returned (.int .u32 ((Sha.rot x 13).toNat : Int)) ∧ w = w' := by
  have hx := x.toNat_lt
  have h15 : bits .and .u64 (IntKind.u64.wrap (-13)) 31 = 19 := by decide +kernel
  go_enter Tryd.func52, Tryd.ntmps52
  go_wp2_with fail
  go_ret
  refine ⟨?_, rfl⟩
  show Ending.returned (.int .u32 (bits BinOp.or IntKind.u32 ((x.toNat : Int) * 524288 % 4294967296) ((x.toNat : Int) / 8192))) = _
  rw [w_shl_19, w_shr_13, w_or, show Sha.rot x 13 = x <<< 19 ||| x >>> 13 from by unfold Sha.rot; rw [UInt32.or_comm]; rfl]
set_option maxHeartbeats 400000 in
theorem rotl_22 (w : World) (x : UInt32) : Calls Tryd.prog 52 #[.int .u32 (x.toNat : Int), .int .i64 (-22)] w fun e w' => e = .returned (.int .u32 ((Sha.rot x 22).toNat : Int)) ∧ w = w' := by
  have hx := x.toNat_lt
  have h15 : bits .and .u64 (IntKind.u64.wrap (-22)) 31 = 10 := by decide +kernel
  go_enter Tryd.func52, Tryd.ntmps52
  go_wp2_with fail
  go_ret
  refine ⟨?_, rfl⟩
  show Ending.returned (.int .u32 (bits BinOp.or IntKind.u32 ((x.toNat : Int) * 1024 % 4294967296) ((x.toNat : Int) / 4194304))) = _
  rw [w_shl_10, w_shr_22, w_or, show Sha.rot x 22 = x <<< 10 ||| x >>> 22 from by unfold Sha.rot; rw [UInt32.or_comm]; rfl]
end
end Go.Proofs.YtcpcnfedbffecaaDoor
