/- Plain laws on a sum in progress. -/
import Derived.Test.YtcpcnfedbffecaaDoorShaP
namespace Go.Proofs.YtcpcnfedbffecaaDoor
open Go.RowKit
theorem Sha.blocks_append (v : Sha.V) (l x : List UInt8) : ∀ n, 64 * n ≤ l.length → Sha.blocks n v (l ++ x) = Sha.blocks n v l
  | 0, _ => rfl
  | n + 1, h => by
    simp only [Sha.blocks]
    rw [Sha.blocks_append v l x n (by omega), List.drop_append_of_le_length (by omega), List.take_append_of_le_length (by simp; omega)]
theorem copy_cells (v : Sha.V) (buf x : List UInt8) (len used : Nat) (rest : List Value) (hb : buf.length = 64) (hu : used ≤ 64) :
    (shaCells v buf len ++ rest).take (8 + used) ++ (By (x.take (64 - used)) ++ (shaCells v buf len ++ rest).drop (8 + used + min x.length (64 - used))) =
    shaCells v (buf.take used ++ (x.take (64 - used) ++ buf.drop (used + min x.length (64 - used)))) len ++ rest := by
  have hw : (Ws v.list).length = 8 := rfl
  have hB : (By buf).length = 64 := by simp [hb]
  unfold shaCells
  simp only [List.append_assoc]
  rw [List.take_append, List.take_of_length_le (by omega), hw, show 8 + used - 8 = used from by omega, List.take_append_of_le_length (by omega)]
  rw [List.drop_append, List.drop_of_length_le (show (Ws v.list).length ≤ 8 + used + min x.length (64 - used) by omega), hw, show 8 + used + min x.length (64 - used) - 8 = used + min x.length (64 - used) from by omega, List.drop_append_of_le_length (by omega)]
  simp [By_append, By_take, By_drop]
/-- At block b (from its head on) lies the sum of the bytes l in progress. -/
def ShaIs (w : World) (b : Nat) (l : List UInt8) (rest : List Value) (T : TypeId) : Prop :=
  ∃ v buf, buf.length = 64 ∧ v = Sha.blocks (l.length / 64) Sha.iv l ∧ buf.take (l.length % 64) = l.drop (64 * (l.length / 64)) ∧ Blk w b (shaCells v buf l.length ++ rest) T
theorem ShaIs.of_same {w w' : World} {b : Nat} {l : List UInt8} {rest : List Value} {T : TypeId} (h : ShaIs w b l rest T) (e : w'.heap[b]? = w.heap[b]?) : ShaIs w' b l rest T := by
  obtain ⟨v, buf, h1, h2, h3, h4⟩ := h; exact ⟨v, buf, h1, h2, h3, h4.of_same e⟩
/-- While a Write goes on: k blocks of m are worked in. -/
theorem ShaIs.done {w : World} {b : Nat} {m : List UInt8} {rest : List Value} {T : TypeId} {k : Nat} {buf : List UInt8} (hb : buf.length = 64) (hk : 64 * k ≤ m.length) (hk2 : m.length < 64 * k + 64) (ht : buf.take (m.length - 64 * k) = m.drop (64 * k))
    (h : Blk w b (shaCells (Sha.blocks k Sha.iv m) buf m.length ++ rest) T) : ShaIs w b m rest T := by
  have e : m.length / 64 = k := by omega
  exact ⟨_, buf, hb, by rw [e], by rw [e, show m.length % 64 = m.length - 64 * k from by omega]; exact ht, h⟩
/-- A block that is filled up. -/
theorem fill_up {l x buf : List UInt8} {u n : Nat} (hu : l.length % 64 = u) (hn : 64 - u = n) (ht : buf.take u = l.drop (64 * (l.length / 64))) (hb : buf.length = 64) :
    buf.take u ++ (x.take n ++ buf.drop (u + n)) = ((l ++ x).drop (64 * (l.length / 64))).take 64 ∧ (l ++ x).drop (64 * (l.length / 64 + 1)) = x.drop n := by
  have h1 : 64 * (l.length / 64) + u = l.length := by omega
  have h2 : (l.drop (64 * (l.length / 64))).length = u := by simp; omega
  constructor
  · rw [List.drop_append_of_le_length (by omega), ht, List.take_append, List.take_of_length_le (show (l.drop (64 * (l.length / 64))).length ≤ 64 by omega), h2, List.drop_of_length_le (show buf.length ≤ u + n by omega), show 64 - u = n from hn]
    simp
  · rw [List.drop_append, List.drop_of_length_le (show l.length ≤ 64 * (l.length / 64 + 1) by omega)]
    simp only [List.nil_append]
    congr 1
    omega
theorem Sha.blocks_succ (v : Sha.V) (m : List UInt8) (k : Nat) : Sha.block (Sha.blocks k v m) ((m.drop (64 * k)).take 64) = Sha.blocks (k + 1) v m := rfl
theorem buf_bv {w : World} {b : Nat} {v : Sha.V} {buf : List UInt8} {len : Nat} {rest : List Value} {T : TypeId} (h : Blk w b (shaCells v buf len ++ rest) T) (hb : buf.length = 64) : BV w (· = b) (.slice (some ⟨b, 8, none⟩) 64 64) buf := by
  refine ⟨_, 64, by rw [hb], by omega, by unfold maxLen; omega, (fun e => by cases e), fun _ => ⟨b, 8, rfl, rfl, fun i hi => ?_⟩⟩
  refine h.cell ?_
  unfold shaCells
  rw [List.append_assoc, List.append_assoc, List.getElem?_append_right (by rw [Ws_length]; show 8 ≤ _; omega), Ws_length, show 8 + i - v.list.length = i from by show 8 + i - 8 = i; omega, List.getElem?_append_left (by simp; omega)]
  exact By_get buf i hi
theorem BV.take {w : World} {F : Nat → Prop} {a : Option Addr} {c n k : Nat} {l : List UInt8} (h : BV w F (.slice a n c) l) (hk : k ≤ n) : BV w F (.slice a k c) (l.take k) := by
  obtain ⟨a', c', e, h1, h2, h3, h4⟩ := h
  injection e with e1 e2 e3
  subst e1; subst e3
  have hl : (l.take k).length = k := by simp; omega
  refine ⟨a, c, by rw [hl], by omega, by omega, h3, fun hp => ?_⟩
  obtain ⟨b, o, e, hb, hc⟩ := h4 (by omega)
  exact ⟨b, o, e, hb, fun i hi => by rw [hc i (by omega)]; simp⟩
theorem BV.drop {w : World} {F : Nat → Prop} {b o c k : Nat} {l : List UInt8} {n : Nat} (h : BV w F (.slice (some ⟨b, o, none⟩) n c) l) (hn : l.length = n) (hk : k ≤ n) : BV w F (.slice (if c = k then some ⟨b, o, none⟩ else some ⟨b, o + k, none⟩) (n - k) (c - k)) (l.drop k) := by
  subst hn
  obtain ⟨a, c', e, h1, h2, h3, h4⟩ := h
  injection e with e1 e2 e3
  subst e1; subst e3
  refine ⟨(if c = k then some ⟨b, o, none⟩ else some ⟨b, o + k, none⟩), c - k, by simp, by simp; omega, by omega, (fun e => by split at e <;> cases e), fun hp => ?_⟩
  simp at hp
  rw [if_neg (by omega)]
  obtain ⟨b', o', e, hb, hc⟩ := h4 (by omega)
  injection e with e
  injection e with e1 e2 e3
  subst e1; subst e2
  refine ⟨b, o + k, rfl, hb, fun i hi => ?_⟩
  simp at hi
  have := hc (k + i) (by omega)
  rw [show o + k + i = o + (k + i) from by omega, this]
  simp
theorem sha_set72 {v : Sha.V} {buf : List UInt8} {len n : Nat} {rest : List Value} (hb : buf.length = 64) : (shaCells v buf len ++ rest).set 72 (.int .i64 (n : Int)) = shaCells v buf n ++ rest := by
  unfold shaCells
  rw [List.append_assoc, List.set_append, if_neg (by simp [Ws_length, hb, V_list_length]), List.append_assoc]
  simp [Ws_length, hb, V_list_length]
/-- The loop of a Write, k blocks of m behind it. -/
def ShaLoop (w : World) (b : Nat) (m : List UInt8) (F : Nat → Prop) (rest : List Value) (T : TypeId) (k : Nat) (xv : Value) (wr : World) : Prop :=
  ∃ buf, buf.length = 64 ∧ 64 * k ≤ m.length ∧ BV wr F xv (m.drop (64 * k)) ∧ Stp (· = b) w wr ∧ Blk wr b (shaCells (Sha.blocks k Sha.iv m) buf m.length ++ rest) T
theorem Glob.stp {w w' : World} {b : Nat} (h : Glob w) (hs : Stp (· = b) w w') (hb : 0 < 1 ∧ 1 + 1 ≤ b) : Glob w' :=
  h.keep (fun k hk => hs.keep k (by have := h.lt; omega) (by omega)) hs.size
theorem BV.stp {w w' : World} {F : Nat → Prop} {v : Value} {l : List UInt8} {b : Nat} (h : BV w F v l) (hF : ∀ k, F k → k ≠ b) (hI : Inn F w) (hs : Stp (· = b) w w') : BV w' F v l := h.same (fun k hk => hs.keep k (hI k hk) (hF k hk))
theorem Stp.setRow {F : Nat → Prop} {w w' : World} {k : Nat} (h : Stp F w w') (hk : F k) (L : Array Value) : Stp F w (w'.setRow k L) := by
  refine ⟨h.os, h.tape, h.output, by simpa [World.setRow] using h.size, fun j hj hn => ?_⟩
  have hne : k ≠ j := fun e => hn (e ▸ hk)
  rw [← h.keep j hj hn]
  simp [World.setRow, Array.getElem?_modify, hne]
theorem Tryd.sizeB : (Tryd.prog.info? 5).map (·.size) = some 1 := by kernel_rfl
theorem slice_low (b r : Nat) (hr : r < 64) (W : World) : (Instr.sliceAt 95 (.pointer (some ⟨b, 8, none⟩)) (some (.int .i64 (r : Int))) none none).run Tryd.prog W = .ok (.slice (some ⟨b, 8 + r, none⟩) (64 - r) (64 - r)) W := by
  have hu := Tryd.underlying95
  have h0 : (0 : Int) ≤ (r : Int) := by omega
  have h1 : (r : Int) ≤ 64 := by omega
  have hne : 64 ≠ r := by omega
  simp [Instr.sliceAt, Instr.sureAddr, run_underlying hu, Instr.sliceBounds, run_sliceBound, go_sem, h0, h1, hne, Addr.add]
def sliceLen : Value → Nat
  | .slice _ n _ => n
  | _ => 0
end Go.Proofs.YtcpcnfedbffecaaDoor
