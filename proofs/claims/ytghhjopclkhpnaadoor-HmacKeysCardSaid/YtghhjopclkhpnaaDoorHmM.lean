/- HMAC and HKDF as plain functions on lists of bytes; a Mac in memory. -/
import Derived.Test.YtghhjopclkhpnaaDoorLaidG
import Derived.Test.YtghhjopclkhpnaaDoorNewB
namespace Go.Proofs.YtghhjopclkhpnaaDoor
open Go.RowKit
namespace Hm
/-- A key of at most 64 bytes, filled up with zeros. -/
def fill (k : List UInt8) : List UInt8 := (List.range 64).map fun i => k.getD i 0
def pad (k : List UInt8) (x : UInt8) : List UInt8 := (fill k).map (· ^^^ x)
def key (k : List UInt8) : List UInt8 := if 64 < k.length then Sha.sum k else k
def tag (k d : List UInt8) : List UInt8 := Sha.sum (pad (key k) 92 ++ Sha.sum (pad (key k) 54 ++ d))
/-- The blocks of an expansion: block i + 1 out of block i. -/
def block (k info : List UInt8) : Nat → List UInt8
  | 0 => []
  | i + 1 => tag k (block k info i ++ info ++ [UInt8.ofNat (i + 1)])
def stream (k info : List UInt8) : Nat → List UInt8
  | 0 => []
  | i + 1 => stream k info i ++ block k info (i + 1)
def expand (k info : List UInt8) (n : Nat) : List UInt8 := (stream k info ((n + 31) / 32)).take n
def chain (k l : List UInt8) : Nat → List UInt8
  | 0 => k
  | n + 1 => tag (chain k l n) l
theorem fill_length (k : List UInt8) : (fill k).length = 64 := by simp [fill]
theorem pad_length (k : List UInt8) (x : UInt8) : (pad k x).length = 64 := by simp [pad, fill]
theorem sum_length (l : List UInt8) : (Sha.sum l).length = 32 := by simp [Sha.sum, Sha.bytes, Sha.V.list]
theorem tag_length (k d : List UInt8) : (tag k d).length = 32 := sum_length _
theorem key_length (k : List UInt8) : (key k).length ≤ 64 := by
  unfold key; split
  · rw [sum_length]; omega
  · omega
theorem block_length (k info : List UInt8) (i : Nat) : (block k info (i + 1)).length = 32 := tag_length _ _
theorem stream_length (k info : List UInt8) : ∀ i, (stream k info i).length = 32 * i
  | 0 => rfl
  | i + 1 => by unfold stream; rw [List.length_append, stream_length k info i, block_length]; omega
theorem stream_prefix (k info : List UInt8) (i : Nat) : ∀ j, (stream k info (i + j)).take (32 * i) = stream k info i
  | 0 => by rw [Nat.add_zero, List.take_of_length_le (by rw [stream_length]; omega)]
  | j + 1 => by
    show ((stream k info (i + j)) ++ block k info (i + j + 1)).take (32 * i) = _
    rw [List.take_append_of_le_length (by rw [stream_length]; omega), stream_prefix k info i j]
theorem expand_length (k info : List UInt8) (n : Nat) : (expand k info n).length = n := by
  unfold expand; rw [List.length_take, stream_length]; omega
/-- Fewer bytes of an expansion are the beginning of more. -/
theorem expand_prefix (k info : List UInt8) {n m : Nat} (h : n ≤ m) : (expand k info m).take n = expand k info n := by
  unfold expand
  obtain ⟨j, hj⟩ : ∃ j, (m + 31) / 32 = (n + 31) / 32 + j := ⟨(m + 31) / 32 - (n + 31) / 32, by omega⟩
  rw [List.take_take, Nat.min_eq_left h, hj, ← stream_prefix k info ((n + 31) / 32) j, List.take_take, Nat.min_eq_left (by omega)]
/-- However many blocks are made, so long as they suffice. -/
theorem expand_of (k info : List UInt8) {n i : Nat} (h2 : (n + 31) / 32 ≤ i) : (stream k info i).take n = expand k info n := by
  unfold expand
  obtain ⟨j, hj⟩ : ∃ j, i = (n + 31) / 32 + j := ⟨i - (n + 31) / 32, by omega⟩
  rw [hj, ← stream_prefix k info ((n + 31) / 32) j, List.take_take, Nat.min_eq_left (by omega)]
theorem chain_add (k l : List UInt8) (n : Nat) : ∀ m, chain k l (n + m) = chain (chain k l n) l m
  | 0 => rfl
  | m + 1 => by show tag (chain k l (n + m)) l = _; rw [chain_add k l n m]; rfl
theorem chain_length (k l : List UInt8) (hk : k.length = 32) : ∀ n, (chain k l n).length = 32
  | 0 => hk
  | _ + 1 => tag_length _ _
theorem fill_zero (k : List UInt8) : fill (k ++ [0]) = fill k := by
  unfold fill
  refine List.map_congr_left fun i _ => ?_
  by_cases hi : i < k.length
  · simp [List.getD, List.getElem?_append_left hi]
  · rw [List.getD_eq_getElem?_getD, List.getElem?_append_right (by omega)]
    by_cases e : i - k.length = 0
    · simp [e, List.getD, List.getElem?_eq_none (show k.length ≤ i by omega)]
    · simp [List.getD, List.getElem?_eq_none (show k.length ≤ i by omega), e]
theorem tag_zero (k d : List UInt8) (h : k.length < 64) : tag (k ++ [0]) d = tag k d := by
  unfold tag pad key
  rw [if_neg (by simp; omega), if_neg (by omega), fill_zero k]
theorem tag_long (k d : List UInt8) (h : 64 < k.length) : tag (Sha.sum k) d = tag k d := by
  unfold tag key
  rw [if_neg (by rw [sum_length]; omega), if_pos h]
end Hm
/-- At block b lies a Mac under the key k, the data d written. -/
def MacIs (w : World) (b : Nat) (k d : List UInt8) : Prop := ShaIs w b (Hm.pad (Hm.key k) 54 ++ d) (By (Hm.pad (Hm.key k) 92)) 57
theorem ShaIs.lt {w : World} {b : Nat} {l : List UInt8} {T : TypeId} {rest : List Value} (h : ShaIs w b l rest T) : b < w.heap.size := by
  obtain ⟨_, _, _, _, _, h⟩ := h; exact h.lt
section
variable {w w' : World} {b : Nat} {k d x : List UInt8} {F : Nat → Prop} {xv : Value}
theorem MacIs.of_same (h : MacIs w b k d) (e : w'.heap[b]? = w.heap[b]?) : MacIs w' b k d := ShaIs.of_same h e
theorem MacIs.grow (h : MacIs w b k d) (hb : Below w.heap.size w w') : MacIs w' b k d := h.of_same (hb.block _ (ShaIs.lt h))
/-- The outer pad, as a slice of the Mac's own memory. -/
theorem MacIs.outer (h : MacIs w b k d) : BV w (· = b) (.slice (some ⟨b, 73, none⟩) 64 64) (Hm.pad (Hm.key k) 92) := by
  obtain ⟨v, buf, h64, _, _, hB⟩ := h
  have hl := Hm.pad_length (Hm.key k) 92
  refine ⟨_, 64, by rw [hl], by omega, by unfold maxLen; omega, (fun e => by cases e), fun _ => ⟨b, 73, rfl, rfl, fun i hi => ?_⟩⟩
  refine hB.cell ?_
  rw [List.getElem?_append_right (by rw [shaCells_length h64]; omega), shaCells_length h64, show 73 + i - 73 = i from by omega]
  exact By_get _ i hi
set_option maxHeartbeats 400000 in
theorem macwrite_any (h : MacIs w b k d) (hx : BV w F xv x) (hF : ∀ k, F k → k ≠ b ∧ k < w.heap.size) (hg : Glob w) (hb2 : 1 < 2 ∧ 2 + 1 ≤ b) (hlen : d.length + x.length ≤ 1000000000) :
    Calls Tryd.prog 18 #[.pointer (some ⟨b, 0, none⟩), xv] w fun e w' => e = .returned (.tuple #[]) ∧ Stp (· = b) w w' ∧ MacIs w' b k (d ++ x) := by
  have H := Lib.hid h; clear h
  have HX := Lib.hid hx; clear hx
  have HF := Lib.hid hF; clear hF
  have HB := Lib.hid hb2; clear hb2
  go_enter Tryd.func18, Tryd.ntmps18
  go_wp2_with fail
  refine (shawrite_any H.out HX.out HF.out hg HB.out (by rw [List.length_append, Hm.pad_length]; omega)).mono ?_
  rintro e w1 ⟨rfl, hs, hS⟩
  rw [List.append_assoc] at hS
  have HS : Hid (MacIs w1 b k (d ++ x)) := hS
  clear hS
  go_wp2_with fail
  go_end0
  exact ⟨rfl, hs, HS.out⟩
end
end Go.Proofs.YtghhjopclkhpnaaDoor
