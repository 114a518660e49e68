/- Contracts of Spoil and Image. -/
import Derived.Test.YtibojbbhffoldaaDiskP
import Derived.Laws.BitsAllLaws
namespace Go.Proofs.Ytibojbbhffoldaa
open Go.RowKit Go.Maps
section
variable {w w' : World} {s : DSt} {b : Nat} {F G : Nat → Prop} {bd bm : Nat} {dvs : List Value} {pv : Value} {pvs : List (Nat × Value)} {D : DataW Unit}
theorem byte_xor (a x : UInt8) : bits BinOp.xor IntKind.u8 (a.toNat : Int) (x.toNat : Int) = ((a ^^^ x).toNat : Int) := by
  rw [u8_xor_nat _ _ a.toNat_lt x.toNat_lt, UInt8.toNat_xor]
set_option maxRecDepth 100000 in
set_option maxHeartbeats 1000000 in
theorem spoil_yes (h : DiskRep w s b F bd bm dvs pv pvs D) (k o : Nat) (x : UInt8) (hk : k < s.dur.length) (ho : o < s.size) :
    Calls Try.prog 28 #[.pointer (some ⟨b, 0, none⟩), .int .i64 (k : Int), .int .i64 (o : Int), .int .u8 (x.toNat : Int)] w (DiskP w b F (s.spoil (k : Int) (o : Int) x).2 (.int .i64 0)) := by
  have c0 := h.cells.cell (i := 0) rfl
  have q1 := h.cells.cell (i := 1) rfl
  have lb := h.cells.lt
  have lbd := h.durs.lt
  have hn2 := h.ok.n2
  have hs2 := h.ok.size2
  have hx : k < dvs.length := by rw [h.dur.1]; exact hk
  obtain ⟨old, hold⟩ : ∃ v, dvs[k]? = some v := ⟨_, List.getElem?_eq_getElem hx⟩
  have d1 := h.durs.cell hold
  have fd := h.durs.free k
  obtain ⟨ol, hol, hro⟩ := h.dur.get' hold
  obtain ⟨ol', hob, hol', hfo⟩ := hro.fills hs2
  have C := Lib.hid (filled_any b s.size old ol' _ w c0 hs2 hol' hob)
  have V := Lib.hid (valid_any b (k : Int) (some ⟨bd, 0, none⟩) s.dur.length s.dur.length w q1)
  have hv' : decide (0 ≤ (k : Int) ∧ (k : Int) < (s.dur.length : Int)) = true := decide_eq_true (by omega)
  rw [hv'] at V
  rw [hfo] at C
  have Hll := Lib.hid (h.ok.dur ol (List.mem_of_getElem? hol))
  have y0 : Blk (w.alloc (.cells (By ol).toArray 5)) w.heap.size (By ol) 5 := Blk.new w _ _
  have hlo : o < ol.length := by rw [Hll.out]; exact ho
  have yc := y0.cell (By_get ol o hlo)
  have yf := y0.free o
  have H := Lib.hid h
  have Hol := Lib.hid hol
  clear h hob hfo hro hold hol hv'
  go_enter Try.func28, Try.ntmps28
  go_wp2_with (first | (go_at_call 31; refine (V.out).mono ?_; rintro e w' ⟨rfl, rfl⟩) | (go_at_call 32; refine (C.out).mono ?_; rintro e w' ⟨rfl, rfl⟩))
  go_ret
  refine ⟨rfl, ?_⟩
  have e0 : (By ol).set o (.int .u8 (bits BinOp.xor .u8 (ol[o].toNat : Int) (x.toNat : Int))) = By (ol.set o (ol[o] ^^^ x)) := by rw [By_set, byte_xor]
  have e1 : (s.spoil (k : Int) (o : Int) x).2 = { s with dur := s.dur.set k (ol.set o (ol[o] ^^^ x)) } := by
    have e2 : s.dur[k] = ol := by have := Hol.out; rw [List.getElem?_eq_getElem hk] at this; exact Option.some.inj this
    simp [DSt.spoil, DSt.spoilable, DSt.valid, hk, ho, e2, hlo]
  rw [e0, e1, ← World.setCell_alloc_past _ _ _ _ lbd]
  have hl : (ol.set o (ol[o] ^^^ x)).length = s.size := by simpa using Hll.out
  generalize ol.set o (ol[o] ^^^ x) = nl at *
  have st : Stp F w ((w.alloc (.cells (By nl).toArray 5)).setCell ⟨bd, k, none⟩ (.slice (some ⟨w.heap.size, 0, none⟩) s.size s.size)) := ((Stp.refl F w).alloc _).set (a := ⟨bd, k, none⟩) (.inl (.inl H.out.Fbd)) _
  refine ⟨st, ⟨_, _, _, _, _, _, (H.out.plus.later ((Below.refl _ _).alloc (Nat.le_refl _) _)).putLater hl ⟨w.heap.size, rfl, .inr ⟨Nat.le_refl _, by simp⟩, Blk.new _ _ _, hl⟩⟩⟩
set_option maxRecDepth 100000 in
set_option maxHeartbeats 1000000 in
theorem spoil_no (h : DiskRep w s b F bd bm dvs pv pvs D) (k o x : Int) (hk : s.spoilable k o = false) :
    Calls Try.prog 28 #[.pointer (some ⟨b, 0, none⟩), .int .i64 k, .int .i64 o, .int .u8 x] w fun e w' => e = .returned (.int .i64 1) ∧ w = w' := by
  have c0 := h.cells.cell (i := 0) rfl
  have q1 := h.cells.cell (i := 1) rfl
  have V := Lib.hid (valid_any b k (some ⟨bd, 0, none⟩) s.dur.length s.dur.length w q1)
  clear h
  unfold DSt.spoilable at hk
  cases hv : s.valid k
  · have hv' : decide (0 ≤ k ∧ k < (s.dur.length : Int)) = false := hv
    rw [hv'] at V
    clear hv hv' hk
    go_enter Try.func28, Try.ntmps28
    go_wp2_with (go_at_call 31; refine (V.out).mono ?_; rintro e w' ⟨rfl, rfl⟩)
    go_ret
    exact ⟨rfl, rfl⟩
  · have hv' : decide (0 ≤ k ∧ k < (s.dur.length : Int)) = true := hv
    rw [hv'] at V
    rw [hv] at hk
    have ho : ¬ (0 ≤ o ∧ o < (s.size : Int)) := by simpa using hk
    clear hv hv' hk
    by_cases h1 : o < 0
    · go_enter Try.func28, Try.ntmps28
      go_wp2_with (go_at_call 31; refine (V.out).mono ?_; rintro e w' ⟨rfl, rfl⟩)
      go_ret
      exact ⟨rfl, rfl⟩
    · have h2 : (s.size : Int) ≤ o := by omega
      clear ho
      go_enter Try.func28, Try.ntmps28
      go_wp2_with (go_at_call 31; refine (V.out).mono ?_; rintro e w' ⟨rfl, rfl⟩)
      go_ret
      exact ⟨rfl, rfl⟩
theorem spoil_any (h : DiskAt w s b F) (k o : Int) (x : UInt8) :
    Calls Try.prog 28 #[.pointer (some ⟨b, 0, none⟩), .int .i64 k, .int .i64 o, .int .u8 (x.toNat : Int)] w (DiskP w b F (s.spoil k o x).2 (.int .i64 (s.spoil k o x).1)) := by
  obtain ⟨bd, bm, dvs, pv, pvs, D, h⟩ := h
  cases hs : s.spoilable k o
  · have e : s.spoil k o x = (1, s) := by simp [DSt.spoil, hs]
    rw [e]
    refine (spoil_no h k o _ hs).mono ?_
    rintro e w' ⟨rfl, rfl⟩
    exact ⟨rfl, Stp.refl _ _, _, _, _, _, _, _, h.plus⟩
  · have e : (s.spoil k o x).1 = 0 := by simp [DSt.spoil, hs]
    rw [e]
    simp [DSt.spoilable, DSt.valid] at hs
    obtain ⟨n, rfl⟩ := Int.eq_ofNat_of_zero_le hs.1.1
    obtain ⟨m, rfl⟩ := Int.eq_ofNat_of_zero_le hs.2.1
    exact spoil_yes h n m x (by omega) (by omega)
end
end Go.Proofs.Ytibojbbhffoldaa
