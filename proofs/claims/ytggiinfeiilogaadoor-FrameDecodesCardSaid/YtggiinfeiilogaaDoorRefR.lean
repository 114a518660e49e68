/- Contracts of the reference's rotr and constants. -/
import Derived.Test.YtggiinfeiilogaaDoorShaA
import Derived.BigQuiet
import Derived.Deep.QuietTactic
namespace Go.Proofs.YtggiinfeiilogaaDoor
open Go.RowKit
set_option maxHeartbeats 400000 in
theorem rotr_17 (w : World) (x : UInt32) (n : Nat) : Calls Tryd.prog 66 #[.int .u32 (x.toNat : Int), .int .i64 17] (w.drewN n) fun e w' => e = .returned (.int .u32 ((Sha.rot x 17).toNat : Int)) ∧ ∃ m, w' = w.drewN m := by
  have hx := x.toNat_lt
  go_enter Tryd.func66, Tryd.ntmps66
  go_wp2_with fail
  go_quiet (fail)
  go_wp2_with fail
  go_ret
  refine ⟨?_, ⟨n + nq, by simp [World.drewN, Nat.add_assoc]⟩⟩
  show Ending.returned (.int .u32 (bits BinOp.or IntKind.u32 ((x.toNat : Int) / 131072) ((x.toNat : Int) * 32768 % 4294967296))) = _
  rw [w_shl_15, w_shr_17, w_or, show Sha.rot x 17 = x >>> 17 ||| x <<< 15 from rfl]
set_option maxHeartbeats 400000 in
theorem rotr_19 (w : World) (x : UInt32) (n : Nat) : Calls Tryd.prog 66 #[.int .u32 (x.toNat : Int), .int .i64 19] (w.drewN n) fun e w' => e = .returned (.int .u32 ((Sha.rot x 19).toNat : Int)) ∧ ∃ m, w' = w.drewN m := by
  have hx := x.toNat_lt
  go_enter Tryd.func66, Tryd.ntmps66
  go_wp2_with fail
  go_quiet (fail)
  go_wp2_with fail
  go_ret
  refine ⟨?_, ⟨n + nq, by simp [World.drewN, Nat.add_assoc]⟩⟩
  show Ending.returned (.int .u32 (bits BinOp.or IntKind.u32 ((x.toNat : Int) / 524288) ((x.toNat : Int) * 8192 % 4294967296))) = _
  rw [w_shl_13, w_shr_19, w_or, show Sha.rot x 19 = x >>> 19 ||| x <<< 13 from rfl]
set_option maxHeartbeats 400000 in
theorem rotr_7 (w : World) (x : UInt32) (n : Nat) : Calls Tryd.prog 66 #[.int .u32 (x.toNat : Int), .int .i64 7] (w.drewN n) fun e w' => e = .returned (.int .u32 ((Sha.rot x 7).toNat : Int)) ∧ ∃ m, w' = w.drewN m := by
  have hx := x.toNat_lt
  go_enter Tryd.func66, Tryd.ntmps66
  go_wp2_with fail
  go_quiet (fail)
  go_wp2_with fail
  go_ret
  refine ⟨?_, ⟨n + nq, by simp [World.drewN, Nat.add_assoc]⟩⟩
  show Ending.returned (.int .u32 (bits BinOp.or IntKind.u32 ((x.toNat : Int) / 128) ((x.toNat : Int) * 33554432 % 4294967296))) = _
  rw [w_shl_25, w_shr_7, w_or, show Sha.rot x 7 = x >>> 7 ||| x <<< 25 from rfl]
set_option maxHeartbeats 400000 in
theorem rotr_18 (w : World) (x : UInt32) (n : Nat) : Calls Tryd.prog 66 #[.int .u32 (x.toNat : Int), .int .i64 18] (w.drewN n) fun e w' => e = .returned (.int .u32 ((Sha.rot x 18).toNat : Int)) ∧ ∃ m, w' = w.drewN m := by
  have hx := x.toNat_lt
  go_enter Tryd.func66, Tryd.ntmps66
  go_wp2_with fail
  go_quiet (fail)
  go_wp2_with fail
  go_ret
  refine ⟨?_, ⟨n + nq, by simp [World.drewN, Nat.add_assoc]⟩⟩
  show Ending.returned (.int .u32 (bits BinOp.or IntKind.u32 ((x.toNat : Int) / 262144) ((x.toNat : Int) * 16384 % 4294967296))) = _
  rw [w_shl_14, w_shr_18, w_or, show Sha.rot x 18 = x >>> 18 ||| x <<< 14 from rfl]
set_option maxHeartbeats 400000 in
theorem rotr_6 (w : World) (x : UInt32) (n : Nat) : Calls Tryd.prog 66 #[.int .u32 (x.toNat : Int), .int .i64 6] (w.drewN n) fun e w' => e = .returned (.int .u32 ((Sha.rot x 6).toNat : Int)) ∧ ∃ m, w' = w.drewN m := by
  have hx := x.toNat_lt
  go_enter Tryd.func66, Tryd.ntmps66
  go_wp2_with fail
  go_quiet (fail)
  go_wp2_with fail
  go_ret
  refine ⟨?_, ⟨n + nq, by simp [World.drewN, Nat.add_assoc]⟩⟩
  show Ending.returned (.int .u32 (bits BinOp.or IntKind.u32 ((x.toNat : Int) / 64) ((x.toNat : Int) * 67108864 % 4294967296))) = _
  rw [w_shl_26, w_shr_6, w_or, show Sha.rot x 6 = x >>> 6 ||| x <<< 26 from rfl]
set_option maxHeartbeats 400000 in
theorem rotr_11 (w : World) (x : UInt32) (n : Nat) : Calls Tryd.prog 66 #[.int .u32 (x.toNat : Int), .int .i64 11] (w.drewN n) fun e w' => e = .returned (.int .u32 ((Sha.rot x 11).toNat : Int)) ∧ ∃ m, w' = w.drewN m := by
  have hx := x.toNat_lt
  go_enter Tryd.func66, Tryd.ntmps66
  go_wp2_with fail
  go_quiet (fail)
  go_wp2_with fail
  go_ret
  refine ⟨?_, ⟨n + nq, by simp [World.drewN, Nat.add_assoc]⟩⟩
  show Ending.returned (.int .u32 (bits BinOp.or IntKind.u32 ((x.toNat : Int) / 2048) ((x.toNat : Int) * 2097152 % 4294967296))) = _
  rw [w_shl_21, w_shr_11, w_or, show Sha.rot x 11 = x >>> 11 ||| x <<< 21 from rfl]
set_option maxHeartbeats 400000 in
theorem rotr_25 (w : World) (x : UInt32) (n : Nat) : Calls Tryd.prog 66 #[.int .u32 (x.toNat : Int), .int .i64 25] (w.drewN n) fun e w' => e = .returned (.int .u32 ((Sha.rot x 25).toNat : Int)) ∧ ∃ m, w' = w.drewN m := by
  have hx := x.toNat_lt
  go_enter Tryd.func66, Tryd.ntmps66
  go_wp2_with fail
  go_quiet (fail)
  go_wp2_with fail
  go_ret
  refine ⟨?_, ⟨n + nq, by simp [World.drewN, Nat.add_assoc]⟩⟩
  show Ending.returned (.int .u32 (bits BinOp.or IntKind.u32 ((x.toNat : Int) / 33554432) ((x.toNat : Int) * 128 % 4294967296))) = _
  rw [w_shl_7, w_shr_25, w_or, show Sha.rot x 25 = x >>> 25 ||| x <<< 7 from rfl]
set_option maxHeartbeats 400000 in
theorem rotr_2 (w : World) (x : UInt32) (n : Nat) : Calls Tryd.prog 66 #[.int .u32 (x.toNat : Int), .int .i64 2] (w.drewN n) fun e w' => e = .returned (.int .u32 ((Sha.rot x 2).toNat : Int)) ∧ ∃ m, w' = w.drewN m := by
  have hx := x.toNat_lt
  go_enter Tryd.func66, Tryd.ntmps66
  go_wp2_with fail
  go_quiet (fail)
  go_wp2_with fail
  go_ret
  refine ⟨?_, ⟨n + nq, by simp [World.drewN, Nat.add_assoc]⟩⟩
  show Ending.returned (.int .u32 (bits BinOp.or IntKind.u32 ((x.toNat : Int) / 4) ((x.toNat : Int) * 1073741824 % 4294967296))) = _
  rw [w_shl_30, w_shr_2, w_or, show Sha.rot x 2 = x >>> 2 ||| x <<< 30 from rfl]
set_option maxHeartbeats 400000 in
theorem rotr_13 (w : World) (x : UInt32) (n : Nat) : Calls Tryd.prog 66 #[.int .u32 (x.toNat : Int), .int .i64 13] (w.drewN n) fun e w' => e = .returned (.int .u32 ((Sha.rot x 13).toNat : Int)) ∧ ∃ m, w' = w.drewN m := by
  have hx := x.toNat_lt
  go_enter Tryd.func66, Tryd.ntmps66
  go_wp2_with fail
  go_quiet (fail)
  go_wp2_with fail
  go_ret
  refine ⟨?_, ⟨n + nq, by simp [World.drewN, Nat.add_assoc]⟩⟩
  show Ending.returned (.int .u32 (bits BinOp.or IntKind.u32 ((x.toNat : Int) / 8192) ((x.toNat : Int) * 524288 % 4294967296))) = _
  rw [w_shl_19, w_shr_13, w_or, show Sha.rot x 13 = x >>> 13 ||| x <<< 19 from rfl]
set_option maxHeartbeats 400000 in
theorem rotr_22 (w : World) (x : UInt32) (n : Nat) : Calls Tryd.prog 66 #[.int .u32 (x.toNat : Int), .int .i64 22] (w.drewN n) fun e w' => e = .returned (.int .u32 ((Sha.rot x 22).toNat : Int)) ∧ ∃ m, w' = w.drewN m := by
  have hx := x.toNat_lt
  go_enter Tryd.func66, Tryd.ntmps66
  go_wp2_with fail
  go_quiet (fail)
  go_wp2_with fail
  go_ret
  refine ⟨?_, ⟨n + nq, by simp [World.drewN, Nat.add_assoc]⟩⟩
  show Ending.returned (.int .u32 (bits BinOp.or IntKind.u32 ((x.toNat : Int) / 4194304) ((x.toNat : Int) * 1024 % 4294967296))) = _
  rw [w_shl_10, w_shr_22, w_or, show Sha.rot x 22 = x >>> 22 ||| x <<< 10 from rfl]
theorem drewN0 (w : World) : w.drewN 0 = w := rfl
theorem rotr0_2 (w : World) (x : UInt32) : Calls Tryd.prog 66 #[.int .u32 (x.toNat : Int), .int .i64 2] w fun e w' => e = .returned (.int .u32 ((Sha.rot x 2).toNat : Int)) ∧ ∃ m, w' = w.drewN m := by
  have h := rotr_2 w x 0
  rw [drewN0] at h
  exact h
theorem rotr0_13 (w : World) (x : UInt32) : Calls Tryd.prog 66 #[.int .u32 (x.toNat : Int), .int .i64 13] w fun e w' => e = .returned (.int .u32 ((Sha.rot x 13).toNat : Int)) ∧ ∃ m, w' = w.drewN m := by
  have h := rotr_13 w x 0
  rw [drewN0] at h
  exact h
theorem rotr0_22 (w : World) (x : UInt32) : Calls Tryd.prog 66 #[.int .u32 (x.toNat : Int), .int .i64 22] w fun e w' => e = .returned (.int .u32 ((Sha.rot x 22).toNat : Int)) ∧ ∃ m, w' = w.drewN m := by
  have h := rotr_22 w x 0
  rw [drewN0] at h
  exact h
end Go.Proofs.YtggiinfeiilogaaDoor
