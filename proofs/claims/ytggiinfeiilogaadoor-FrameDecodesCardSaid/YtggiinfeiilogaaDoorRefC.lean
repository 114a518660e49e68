/- Contract of the reference's constants. -/
import Derived.Test.YtggiinfeiilogaaDoorRefR
import Derived.Test.YtggiinfeiilogaaDoorShaS
namespace Go.Proofs.YtggiinfeiilogaaDoor
open Go.RowKit
theorem below_drewN2 {B : Nat} {w w' : World} (h : Below B w w') (n : Nat) : Below B w (w'.drewN n) := ⟨h.1, h.2, h.3, h.4, h.5⟩
theorem w_t12 (t s a b c : UInt32) : ((t.toNat : Int) + ((s.toNat : Int) + bits BinOp.xor IntKind.u32 (bits BinOp.xor IntKind.u32 (bits BinOp.and IntKind.u32 (a.toNat : Int) (b.toNat : Int)) (bits BinOp.and IntKind.u32 (a.toNat : Int) (c.toNat : Int))) (bits BinOp.and IntKind.u32 (b.toNat : Int) (c.toNat : Int)))) % (4294967296 : Int) =
    ((t + (s + ((a &&& b) ^^^ (a &&& c) ^^^ (b &&& c)))).toNat : Int) := by
  rw [w_and, w_and, w_and, w_xor, w_xor]
  simp only [UInt32.toNat_add]; omega
theorem wpList_build_at {P : Program} {w : World} {ops : Array Oper} {rest : List Oper} {o : Oper} {a : Act} {Q : Exit → Act → World → Prop} (hgd : o.guard = none) (t : TypeId) (parts : Array (Nat × Operand)) (ho : o.op = .build t parts) (v : Value)
    (hrun : (Instr.build t (parts.map fun (i, x) => (i, a.eval x))).run P w = .ok v w) (h : wpList P ops Q rest (a.put o.dst v) w) : wpList P ops Q (o :: rest) a w := by
  refine wpList_plain hgd fun K hK => ?_
  unfold Oper.wp
  simp only [execOp, ho, Sem.run_bind, Sem.run_pure, Result.andThen_ok, hrun]
  exact hK _ _ h
def zw64 : Array Value := (List.replicate 64 (Value.int .u32 0)).toArray
theorem zw64_len : zw64.toList.length = 64 := by kernel_rfl
theorem Tryd.zeroW64 (w : World) : (zeroValue 105).run Tryd.prog w = .ok (.agg zw64) w := by kernel_rfl
theorem Tryd.sizeW64 : (Tryd.prog.info? 105).map (·.size) = some 64 := by kernel_rfl
theorem Ws_one (l : List UInt32) : ∀ u ∈ Ws l, u.oneCell' = true := by
  intro u hu; obtain ⟨_, _, rfl⟩ := List.mem_map.1 hu; rfl
theorem K_len : (Ws Sha.K).length = 64 := by kernel_rfl
set_option maxRecDepth 100000 in
set_option maxHeartbeats 1000000 in
theorem constants_any (w : World) : Calls Tryd.prog 65 #[] w fun e w' => e = .returned (.agg (Ws Sha.K).toArray) ∧ Below w.heap.size w w' := by
  have hz := Tryd.zeroW64
  have hB0 : Blk (w.alloc (.cells zw64 105)) w.heap.size zw64.toList 105 := Blk.new w zw64.toList _
  have B0 := Lib.hid hB0
  have W0 := Lib.hid ((Below.refl w.heap.size w).alloc (Nat.le_refl _) (.cells zw64 105))
  clear hB0
  go_enter Tryd.func65, Tryd.ntmps65
  go_wp2_with (first
    | (refine wpList_build_at rfl 105 _ rfl (.agg (Ws Sha.K).toArray) (by kernel_rfl) ?_)
    | (refine wpList_store_mid rfl 105 (.tmp 0) (.tmp 1) rfl w.heap.size 0 (Ws Sha.K).toArray (by rfl) (by rfl) (B0.out.there (by simp only [List.size_toArray, K_len, zw64_len]; omega)) (by simp only [List.size_toArray, K_len]; exact Tryd.sizeW64) (all_oneCell_toArray (Ws_one _)) ?_; change wpList _ _ _ _ _ ((w.alloc (.cells zw64 105)).setCells w.heap.size 0 (Ws Sha.K))))
  have R := B0.out.fresh (cs := Ws Sha.K) (by rw [K_len, zw64_len])
  refine bodyPost_ret (results_cell_row rfl _ _ w.heap.size 105 (Ws Sha.K).toArray (0, 0) _ rfl R Tryd.underlying105 rfl (by simp only [List.size_toArray, K_len]; exact Tryd.sizeW64)) rfl ?_
  exact ⟨rfl, below_setCells W0.out (Nat.le_refl _) _ _⟩
end Go.Proofs.YtggiinfeiilogaaDoor
