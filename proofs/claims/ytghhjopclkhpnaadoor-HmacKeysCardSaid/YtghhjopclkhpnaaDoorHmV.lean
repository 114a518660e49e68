/- The examples of chapter 5, reckoned. -/
import Derived.Test.YtghhjopclkhpnaaDoorHmM
namespace Go.Proofs.YtghhjopclkhpnaaDoor
namespace Hm
def jefe : List UInt8 := [74, 101, 102, 101]
def want : List UInt8 := [119, 104, 97, 116, 32, 100, 111, 32, 121, 97, 32, 119, 97, 110, 116, 32, 102, 111, 114, 32, 110, 111, 116, 104, 105, 110, 103, 63]
def sec : List UInt8 := List.replicate 22 11
theorem aw1 : (tag jefe want).take 4 = [91, 220, 193, 70] := by decide +kernel
theorem aw2 : (tag [] sec).take 4 = [25, 239, 36, 163] := by decide +kernel
theorem aw3 : (expand (tag [] sec) [] 42).take 4 = [141, 164, 231, 117] := by decide +kernel
end Hm
end Go.Proofs.YtghhjopclkhpnaaDoor
