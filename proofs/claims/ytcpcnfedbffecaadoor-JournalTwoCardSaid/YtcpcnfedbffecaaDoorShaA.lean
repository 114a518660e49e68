/- A sum in progress in memory; the package's tables. -/
import Derived.Test.YtcpcnfedbffecaaDoorShaR
import Derived.Test.YtcpcnfedbffecaaDoorLaws
import Derived.Test.YtcpcnfedbffecaaDoorOwnB
namespace Go.Proofs.YtcpcnfedbffecaaDoor
open Go.RowKit
def U32 (x : UInt32) : Value := .int .u32 (x.toNat : Int)
def Ws (l : List UInt32) : List Value := l.map U32
theorem Ws_length (l : List UInt32) : (Ws l).length = l.length := by simp [Ws]
theorem Ws_get (l : List UInt32) (i : Nat) (h : i < l.length) : (Ws l)[i]? = some (.int .u32 ((l.getD i 0).toNat : Int)) := by simp [Ws, h, U32, List.getD]
/-- The package's tables hold what the text lays. -/
structure Glob (w : World) : Prop where
  iv : ∀ i, i < 8 → w.cell? ⟨0, i, none⟩ = some (.int .u32 ((Sha.H0.getD i 0).toNat : Int))
  k : ∀ i, i < 64 → w.cell? ⟨1, i, none⟩ = some (.int .u32 ((Sha.K.getD i 0).toNat : Int))
  lt : 0 < 1 ∧ 1 + 1 ≤ w.heap.size
theorem Glob.keep {w w' : World} (h : Glob w) (hk : ∀ k, k ≤ 1 → w'.heap[k]? = w.heap[k]?) (hs : w.heap.size ≤ w'.heap.size) : Glob w' :=
  ⟨fun i hi => (World.cell?_of_block (w := w) (a := ⟨0, i, none⟩) (hk 0 (by omega))).trans (h.iv i hi), fun i hi => (World.cell?_of_block (w := w) (a := ⟨1, i, none⟩) (hk 1 (by omega))).trans (h.k i hi),
    ⟨by omega, Nat.le_trans h.lt.2 hs⟩⟩
theorem Glob.below {w w' : World} {B : Nat} (h : Glob w) (hb : Below B w w') (hB : 0 < 1 ∧ 1 + 1 ≤ B) : Glob w' := h.keep (fun k hk => hb.block k (by omega)) hb.size
def shaCells (v : Sha.V) (buf : List UInt8) (len : Nat) : List Value := Ws v.list ++ By buf ++ [.int .i64 (len : Int)]
theorem V_list_length (v : Sha.V) : v.list.length = 8 := rfl
theorem BV.cell1 {w : World} {F : Nat → Prop} {b o c n r : Nat} {l : List UInt8} (h : BV w F (.slice (some ⟨b, o, none⟩) n c) l) (hr : r < l.length) : w.cell? ⟨b, o + r, none⟩ = some (.int .u8 ((l.getD r 0).toNat : Int)) := by
  obtain ⟨_, _, e, _, _, hh⟩ := h.get
  injection e with e1 e2 e3
  subst e1
  obtain ⟨b', o', e, _, hc⟩ := hh r hr
  injection e with e
  injection e with e1 e2 e3
  subst e1; subst e2
  rw [hc]; simp [List.getD, hr]
theorem BV.some_of {w : World} {F : Nat → Prop} {a : Option Addr} {c n : Nat} {l : List UInt8} (h : BV w F (.slice a n c) l) (hl : 0 < l.length) : ∃ b o, a = some ⟨b, o, none⟩ := by
  obtain ⟨_, _, e, _, _, hh⟩ := h.get
  injection e with e1 e2 e3
  subst e1
  obtain ⟨b', o', e, _, hc⟩ := hh 0 hl
  exact ⟨_, _, e⟩
theorem w_word (a b c d : UInt8) : bits BinOp.or IntKind.u32 (bits BinOp.or IntKind.u32 (bits BinOp.or IntKind.u32 (IntKind.u32.wrap (IntKind.u32.wrap (a.toNat : Int) * 16777216)) (IntKind.u32.wrap (IntKind.u32.wrap (b.toNat : Int) * 65536))) (IntKind.u32.wrap (IntKind.u32.wrap (c.toNat : Int) * 256))) (IntKind.u32.wrap (d.toNat : Int)) =
    (((a.toUInt32 <<< 24) ||| (b.toUInt32 <<< 16) ||| (c.toUInt32 <<< 8) ||| d.toUInt32).toNat : Int) := by
  have h8 : ∀ x : UInt8, IntKind.u32.wrap (x.toNat : Int) = (x.toNat : Int) := fun x => by
    rw [IntKind.wrap_u32']; have := x.toNat_lt; omega
  rw [h8, h8, h8, h8, IntKind.wrap_u32', IntKind.wrap_u32', IntKind.wrap_u32', w_shl8_24, w_shl8_16, w_shl8_8, w_or, w_or, w_or8]
theorem w_addw (x y : UInt32) : IntKind.u32.wrap ((x.toNat : Int) + (y.toNat : Int)) = ((x + y).toNat : Int) := by
  rw [IntKind.wrap_u32', w_add]
theorem w_sig1 (x : UInt32) : bits BinOp.xor IntKind.u32 (bits BinOp.xor IntKind.u32 ((Sha.rot x 17).toNat : Int) ((Sha.rot x 19).toNat : Int)) ((x.toNat : Int) / (1024 : Int)) = ((Sha.sig1 x).toNat : Int) := by
  rw [w_xor, w_shr_10, w_xor]; rfl
theorem w_sig0 (x : UInt32) : bits BinOp.xor IntKind.u32 (bits BinOp.xor IntKind.u32 ((Sha.rot x 7).toNat : Int) ((Sha.rot x 18).toNat : Int)) ((x.toNat : Int) / (8 : Int)) = ((Sha.sig0 x).toNat : Int) := by
  rw [w_xor, w_shr_3, w_xor]; rfl
theorem w_add4 (a b c d : UInt32) : ((a.toNat : Int) + (b.toNat : Int) + (c.toNat : Int) + (d.toNat : Int)) % (4294967296 : Int) = ((a + b + c + d).toNat : Int) := by
  simp only [UInt32.toNat_add]; omega
theorem w_not (x : UInt32) : bits BinOp.xor IntKind.u32 (if IntKind.u32.signed = true then -1 else IntKind.u32.max) (x.toNat : Int) = ((~~~x).toNat : Int) := by
  have h1 : (if IntKind.u32.signed = true then -1 else IntKind.u32.max : Int) = (((4294967295 : UInt32).toNat : Nat) : Int) := by decide
  have h2 : (4294967295 : UInt32) ^^^ x = ~~~x := UInt32.toBitVec_inj.1 (BitVec.allOnes_xor (x := x.toBitVec))
  rw [h1, w_xor, h2]
theorem w_S1 (x : UInt32) : bits BinOp.xor IntKind.u32 (bits BinOp.xor IntKind.u32 ((Sha.rot x 6).toNat : Int) ((Sha.rot x 11).toNat : Int)) ((Sha.rot x 25).toNat : Int) = ((Sha.rot x 6 ^^^ Sha.rot x 11 ^^^ Sha.rot x 25).toNat : Int) := by
  rw [w_xor, w_xor]
theorem w_S0 (x : UInt32) : bits BinOp.xor IntKind.u32 (bits BinOp.xor IntKind.u32 ((Sha.rot x 2).toNat : Int) ((Sha.rot x 13).toNat : Int)) ((Sha.rot x 22).toNat : Int) = ((Sha.rot x 2 ^^^ Sha.rot x 13 ^^^ Sha.rot x 22).toNat : Int) := by
  rw [w_xor, w_xor]
theorem w_t1 (h s e f g k w : UInt32) : (((h.toNat : Int) + (s.toNat : Int) + bits BinOp.xor IntKind.u32 (bits BinOp.and IntKind.u32 (e.toNat : Int) (f.toNat : Int)) (bits BinOp.and IntKind.u32 (bits BinOp.xor IntKind.u32 (if IntKind.u32.signed = true then -1 else IntKind.u32.max) (e.toNat : Int)) (g.toNat : Int)) + (k.toNat : Int)) % (4294967296 : Int) + (w.toNat : Int)) % (4294967296 : Int) =
    ((h + s + ((e &&& f) ^^^ (~~~e &&& g)) + k + w).toNat : Int) := by
  rw [w_not, w_and, w_and, w_xor]
  simp only [UInt32.toNat_add]; omega
theorem w_t2 (s a b c : UInt32) : ((s.toNat : Int) + bits BinOp.xor IntKind.u32 (bits BinOp.xor IntKind.u32 (bits BinOp.and IntKind.u32 (a.toNat : Int) (b.toNat : Int)) (bits BinOp.and IntKind.u32 (a.toNat : Int) (c.toNat : Int))) (bits BinOp.and IntKind.u32 (b.toNat : Int) (c.toNat : Int))) % (4294967296 : Int) =
    ((s + ((a &&& b) ^^^ (a &&& c) ^^^ (b &&& c))).toNat : Int) := by
  rw [w_and, w_and, w_and, w_xor, w_xor]
  simp only [UInt32.toNat_add]; omega
end Go.Proofs.YtcpcnfedbffecaaDoor
