/- The walk of DiskTears. -/
import Derived.Test.YtibojbbhffoldaaTearsA
import Derived.Test.YtibojbbhffoldaaTearsB
namespace Go.Proofs.Ytibojbbhffoldaa
open Go.RowKit Go.Maps
theorem diskTears_walk (w : World) (sectors : Int) (a1 : -9223372036854775808 ≤ sectors) (a2 : sectors ≤ 9223372036854775807) (size : Int) (b1 : -9223372036854775808 ≤ size) (b2 : size ≤ 9223372036854775807) (v : Value) (ops : List Op15) (hv : OpsV w (fun k => k < w.heap.size) v ops) (ov : Value) (order : List Int) (hov : IntsV w (fun k => k < w.heap.size) ov order) (xv : Value) (data : List (List UInt8)) (hxv : LV w (fun k => k < w.heap.size) xv data) (kv : Value) (keep : List Bool) (hkv : BoolsV w (fun k => k < w.heap.size) kv keep) (torn : Int) (t1 : -9223372036854775808 ≤ torn) (t2 : torn ≤ 9223372036854775807) :
    Calls Try.prog 5 #[.int .i64 sectors, .int .i64 size, v, ov, xv, kv, .int .i64 torn] w fun e w' => e = .returned (.bool true) ∧ Below w.heap.size w w' := by
  by_cases hcase : order.length ≤ data.length
  · exact diskTearsA_walk w sectors a1 a2 size b1 b2 v ops hv ov order hov xv data hxv kv keep hkv torn t1 t2 hcase
  · exact diskTearsB_walk w sectors a1 a2 size b1 b2 v ops hv ov order hov xv data hxv kv keep hkv torn t1 t2 (by omega)
end Go.Proofs.Ytibojbbhffoldaa
