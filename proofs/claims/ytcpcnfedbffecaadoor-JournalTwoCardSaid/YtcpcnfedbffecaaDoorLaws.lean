/- Laws at an operation, over any program: make with a variable length, copy, with the world written out. -/
import Derived.Test.YtcpcnfedbffecaaDoorHeap
import Derived.Laws.BytesArg
import Derived.Lib.SlBytesConst
namespace Go.Proofs.YtcpcnfedbffecaaDoor
open Go.RowKit

theorem ret_bool {a b : Bool} (h : a = b) : Ending.returned (.bool a) = .returned (.bool b) := by rw [h]
theorem ret_int {k : IntKind} {a b : Int} (h : a = b) : Ending.returned (.int k a) = .returned (.int k b) := by rw [h]
theorem made_one (z : Value) (n : Nat) : madeCells #[z] n = (List.replicate n z).toArray := by
  apply Array.ext_getElem?
  intro i
  simp only [madeCells, Array.getElem?_map, List.getElem?_toArray, List.getElem?_replicate]
  by_cases h : i < n
  · simp [h, Nat.mod_one]
  · simp [h]
theorem setRow_alloc (w : World) (c c' : Array Value) (T : TypeId) : (w.alloc (.cells c T)).setRow w.heap.size c' = w.alloc (.cells c' T) := by
  unfold World.setRow World.alloc
  congr 1
  apply Array.ext_getElem?
  intro i
  simp only [Array.getElem?_modify, Array.getElem?_push]
  by_cases hi : i = w.heap.size
  · subst hi; simp
  · simp [hi]
    intro h; exact absurd h.symm hi
theorem run_make_n {P : Program} (w : World) (t e : TypeId) (z : Value) (bytes n m : Nat) (ht : P.underlying t = some (.slice e)) (hi : (P.info? e).map (fun i => (i.zero, i.size, i.bytes)) = some (some z, 1, bytes)) (hz : z.cells = #[z])
    (hnm : n ≤ m) (hb : bytes * m ≤ 281474976710656) (hm : m ≤ maxLen) :
    (Instr.makeSlice t (.int .i64 (n : Int)) (.int .i64 (m : Int))).run P w = .ok (.slice (some ⟨w.heap.size, 0, none⟩) n m) (w.alloc (.cells (List.replicate m z).toArray e)) := by
  obtain ⟨i, hi, h1, h2, h3⟩ := info_parts hi
  have hm' : (m : Int) ≤ 9223372036854775807 := by unfold maxLen at hm; omega
  have hb' : (i.bytes : Int) * (m : Int) ≤ 281474976710656 := by
    rw [h3]; have : ((bytes * m : Nat) : Int) ≤ 281474976710656 := by omega
    rwa [Int.natCast_mul] at this
  have := run_make (P := P) w t e i z ht hi h1 .i64 .i64 (n : Int) (m : Int) (by omega) (by omega) hb' hm'
  simpa [h2, hz, made_one] using this
theorem wpList_make_n {P : Program} {w : World} {ops : Array Oper} {rest : List Oper} {o : Oper} {a : Act} {Q : Exit → Act → World → Prop}
    (hg : o.guard = none) (l c : Operand) (t : TypeId) (hop : o.op = Op.makeSlice t l c) (e : TypeId) (z : Value) (bytes n m : Nat) (ht : P.underlying t = some (.slice e))
    (hi : (P.info? e).map (fun i => (i.zero, i.size, i.bytes)) = some (some z, 1, bytes)) (hz : z.cells = #[z]) (hl : a.eval l = .int .i64 (n : Int)) (hc : a.eval c = .int .i64 (m : Int))
    (hnm : n ≤ m) (hb : bytes * m ≤ 281474976710656) (hm : m ≤ maxLen)
    (hK : wpList P ops Q rest (a.put o.dst (.slice (some ⟨w.heap.size, 0, none⟩) n m)) (w.alloc (.cells (List.replicate m z).toArray e))) : wpList P ops Q (o :: rest) a w := by
  refine wpList_plain hg fun K hK' => ?_
  have hrun := run_make_n (P := P) w t e z bytes n m ht hi hz hnm hb hm
  unfold Oper.wp
  simp [execOp, hop, hl, hc, hrun, Result.andThen]
  exact hK' _ _ hK
/-- 'copy(dst, src)', dst AT THE HEAD OF A BLOCK THAT IS KNOWN WHOLE; src bytes that are only read. -/
theorem wpList_copy_bytes {P : Program} {w : World} {ops : Array Oper} {rest : List Oper} {o : Oper} {a : Act} {Q : Exit → Act → World → Prop} (hgd : o.guard = none) (d s : Operand) (dT sT : TypeId)
    (ho : o.op = .call { callee := .builtin .copy, args := #[d, s], argTypes := #[dT, sT] }) (elem : TypeId) (hu : P.underlying dT = some (.slice elem)) (hsz : (P.info? elem).map (·.size) = some 1)
    (g off n cap : Nat) (hd : a.eval d = .slice (some ⟨g, off, none⟩) n cap) (F : Nat → Prop) (v : Value) (hs : a.eval s = v) (l : List UInt8) (hv : BV w F v l)
    (cur : List Value) (T : TypeId) (hb : Blk w g cur T) (hfit : off + min l.length n ≤ cur.length)
    (h : wpList P ops Q rest (a.put o.dst (goInt ((min l.length n : Nat) : Int))) (w.setRow g (cur.take off ++ (By (l.take n) ++ cur.drop (off + min l.length n))).toArray)) : wpList P ops Q (o :: rest) a w := by
  obtain ⟨sa, sn, sc, rfl⟩ : ∃ sa sn sc, v = .slice sa sn sc := by obtain ⟨a, c, e, _⟩ := hv; exact ⟨a, _, c, e⟩
  obtain ⟨hl, hnone, hcells⟩ := hv.cells
  have hmin : Nat.min sn n = min l.length n := by rw [hl]
  by_cases h0 : min l.length n = 0
  · refine wpList_copy_nothing hgd d s dT sT ho elem hu hsz (some ⟨g, off, none⟩) sa n cap sn sc hd hs (by rw [hmin, h0]) ?_
    rw [h0] at h
    have e : l.take n = [] := List.eq_nil_of_length_eq_zero (by simp only [List.length_take]; omega)
    rw [e] at h
    simp only [By, List.map_nil, List.nil_append, Nat.add_zero, List.take_append_drop] at h
    have e2 : w.setRow g cur.toArray = w := by
      have : (w.setRow g cur.toArray).heap = w.heap := by
        apply Array.ext_getElem?
        intro i
        simp only [World.setRow, Array.getElem?_modify]
        by_cases hi : g = i
        · subst hi; simp [show w.heap[g]? = _ from hb]
        · simp [hi]
      cases w
      simp only [World.setRow, World.mk.injEq, and_true] at this ⊢
      exact this
    rw [e2] at h
    exact h
  · have hsa : ∃ ad, sa = some ad := by
      cases sa with
      | none => have := (hnone rfl).1; omega
      | some ad => exact ⟨ad, rfl⟩
    obtain ⟨ad, rfl⟩ := hsa
    refine wpList_copy_own hgd d s dT sT ho elem hu hsz g off n cap ad sn sc hd hs cur.toArray T hb (By (l.take n)) (by rw [hmin]; simp; omega) (fun j u hj => hcells ad rfl j u ?_) (by simp; omega) (By_oneCell _) ?_
    · rw [By_take, List.getElem?_take] at hj
      split at hj
      · exact hj
      · cases hj
    · have e : (By (l.take n)).length = min l.length n := by simp only [By_length, List.length_take]; omega
      rw [e]
      simpa using h
/-- 'string(b)' of bytes that are only read. -/
theorem run_toString {P : Program} {w : World} {F : Nat → Prop} {v : Value} {l : List UInt8} (hv : BV w F v l) (src e dst : TypeId) (hs : P.underlying src = some (.slice e)) (he : P.underlying e = some (.int .u8)) (hd : P.underlying dst = some .string) :
    (convert src dst v).run P w = .ok (.string ⟨l.toArray⟩) w := by
  obtain ⟨a, c, rfl, h1, h2, h3, h4⟩ := hv
  cases l with
  | nil =>
    cases a with
    | none => exact run_convert_bytes_nil w src e hs he _ c dst hd
    | some ad =>
      rw [run_convert_bytes_string w src dst e _ _ c hs he hd]
      have := run_bytesToString (P := P) w ad 0 c [] (by have := run_loadCells_list (P := P) w ad [] (by simp); simpa using this)
      exact this
  | cons x xs =>
    obtain ⟨b, o, rfl, hF, hc⟩ := h4 (by simp)
    rw [run_convert_bytes_arg w src e hs he b o _ c ((x :: xs).map fun b => (b.toNat : Int)) (by simp) (fun i hi => by
      rw [hc i hi, List.getD_eq_getElem?_getD, List.getElem?_map, List.getElem?_eq_getElem hi]; rfl) dst hd]
    congr 2
    apply ByteArray.ext
    apply Array.ext'
    rw [strOfNums_data, List.map_map]
    have : (fun n : Int => UInt8.ofNat n.toNat) ∘ (fun b : UInt8 => (b.toNat : Int)) = id := by
      funext b; simp
    rw [this, List.map_id]
end Go.Proofs.YtcpcnfedbffecaaDoor
