/- The journal of chapter 17 as plain data: numbers, batches, the calm disk. No program in sight. -/
import Derived.Test.YtcpcnfedbffecaaDoorDiskM
import Derived.Test.YtcpcnfedbffecaaDoorShaM
namespace Go.Proofs.YtcpcnfedbffecaaDoor
namespace DSt
theorem foldl_getD (k : Nat) : ∀ (ps : List (Nat × List UInt8)) (d : List (List UInt8)), (∀ p ∈ ps, p.1 < d.length) →
    (ps.foldl (fun d p => d.set p.1 p.2) d).getD k [] = match lastIdx k ps 0 with
      | some j => (ps.getD j (0, [])).2
      | none => d.getD k []
  | [], d, _ => by simp [lastIdx]
  | p :: ps, d, h => by
    have h1 := h p (by simp)
    have ih := foldl_getD k ps (d.set p.1 p.2) (fun q hq => by simpa using h q (by simp [hq]))
    have shift : ∀ (ps : List (Nat × List UInt8)) (i : Nat), lastIdx k ps (i + 1) = (lastIdx k ps i).map (· + 1) := by
      intro ps
      induction ps with
      | nil => intro i; rfl
      | cons q qs ih2 =>
        intro i
        simp only [lastIdx, ih2 (i + 1)]
        cases lastIdx k qs (i + 1) with
        | none => simp only [Option.map_none]; split <;> rfl
        | some j => rfl
    simp only [List.foldl_cons, ih, lastIdx, shift ps 0, Nat.zero_add]
    cases lastIdx k ps 0 with
    | some j => simp [List.getD]
    | none =>
      simp only [Option.map_none]
      by_cases hp : p.1 = k
      · subst hp; simp [List.getD, h1]
      · simp [hp, List.getD]
theorem push_look_other (s : DSt) {j k : Nat} (h : j ≠ k) (d : List UInt8) : (s.push j d).look k = s.look k := by
  have e : lastIdx k (s.push j d).pend 0 = lastIdx k s.pend 0 := by simp [push, lastIdx_snoc, h]
  simp only [look, e]
  cases hl : lastIdx k s.pend 0 with
  | none => rfl
  | some i =>
    obtain ⟨_, h2, _⟩ := lastIdx_some k s.pend 0 i hl
    simp only [push, List.getD]
    rw [List.getElem?_append_left (by omega)]
theorem push_look_same (s : DSt) (k : Nat) (d : List UInt8) : (s.push k d).look k = d := by
  simp [look, push, lastIdx_snoc]
theorem flush_look {s : DSt} (h : s.Ok) (k : Nat) : s.flush.look k = s.look k := by
  have e := foldl_getD k s.pend s.dur (fun p hp => (h.pend p hp).1)
  simp only [look, flush, lastIdx]
  exact e
/-- The power is on, and no failure is set. -/
structure Calm (s : DSt) : Prop where
  on : s.down = false
  no : s.after = -1
theorem Calm.new (n size : Nat) : (new n size).Calm := ⟨rfl, rfl⟩
theorem Calm.step {s : DSt} (h : s.Calm) : s.step = s := by unfold DSt.step; rw [if_pos (by rw [h.no]; omega)]
theorem Calm.push {s : DSt} (h : s.Calm) (k : Nat) (d : List UInt8) : (s.push k d).Calm := ⟨h.on, h.no⟩
theorem Calm.write {s : DSt} (h : s.Calm) {k : Nat} {d : List UInt8} (hk : k < s.dur.length) (hd : d.length = s.size) : s.write k d = (0, s.push k d) := by
  unfold DSt.write
  rw [h.on, if_neg (by simp), if_neg (by simp [valid, hk, hd]), Int.toNat_natCast, (h.push k d).step]
  simp [failing, h.no]
theorem Calm.sync {s : DSt} (h : s.Calm) : s.sync = (0, s.flush) := by
  unfold DSt.sync
  rw [h.on, if_neg (by simp), if_neg (by simp [failing, h.no]), h.step]
theorem Calm.flush {s : DSt} (h : s.Calm) : s.flush.Calm := ⟨h.on, h.no⟩
theorem Calm.read {s : DSt} (h : s.Calm) {k : Nat} (hk : k < s.dur.length) : s.read k = (0, s.look k) := by
  unfold DSt.read
  rw [h.on, if_neg (by simp), if_neg (by simp [valid, hk])]
  simp
theorem new_look (n size k : Nat) (h : k < n) : (new n size).look k = List.replicate size 0 := by
  simp [look, new, lastIdx, List.getD, h]
/-- s became t: the same shape, calm, nothing pending, and the sectors read as 'f' says. -/
structure Turned (s t : DSt) (f : Nat → List UInt8) : Prop where
  size : t.size = s.size
  len : t.dur.length = s.dur.length
  calm : t.Calm
  look : ∀ k, k < s.dur.length → t.look k = f k
end DSt
namespace Jn
/-- Four bytes, the highest first. -/
def num (n : Nat) : List UInt8 := [UInt8.ofNat (n / 16777216), UInt8.ofNat (n / 65536), UInt8.ofNat (n / 256), UInt8.ofNat n]
def val (l : List UInt8) : Nat := l.foldl (fun n x => n * 256 + x.toNat) 0
@[simp] theorem num_length (n : Nat) : (num n).length = 4 := rfl
theorem val_num (n : Nat) (h : n < 2147483648) : val (num n) = n := by
  simp only [val, num, List.foldl_cons, List.foldl_nil, UInt8.toNat_ofNat']
  omega
theorem val_lt (l : List UInt8) : val l < 256 ^ l.length := by
  have h : ∀ (l : List UInt8) (a k : Nat), a < 256 ^ k → l.foldl (fun n x => n * 256 + x.toNat) a < 256 ^ (k + l.length) := by
    intro l
    induction l with
    | nil => intro a k h; simpa using h
    | cons x l ih =>
      intro a k h
      have hx := x.toNat_lt
      have := ih (a * 256 + x.toNat) (k + 1) (by rw [Nat.pow_succ]; omega)
      simp only [List.foldl_cons, List.length_cons]
      rw [show k + (l.length + 1) = k + 1 + l.length from by omega]
      exact this
  have := h l 0 0 (by simp)
  simpa [val] using this
def recs (l : List (List UInt8)) : List UInt8 := l.flatMap fun r => num r.length ++ r
def body (e : Nat) (l : List (List UInt8)) : List UInt8 := num e ++ num l.length ++ recs l
def data (last : List UInt8) (e : Nat) (l : List (List UInt8)) : List UInt8 := Sha.sum (last ++ body e l) ++ body e l
theorem recs_snoc (l : List (List UInt8)) (k : Nat) (h : k < l.length) : recs (l.take (k + 1)) = recs (l.take k) ++ (num l[k].length ++ l[k]) := by
  unfold recs
  rw [List.take_succ_eq_append_getElem h, List.flatMap_append]
  simp
/-- The bytes of a batch. -/
def flen (l : List (List UInt8)) : Nat := 40 + (recs l).length
theorem sum_len (l : List UInt8) : (Sha.sum l).length = 32 := rfl
theorem data_length (last : List UInt8) (e : Nat) (l : List (List UInt8)) : (data last e l).length = flen l := by
  simp only [data, body, flen, List.length_append, num_length, sum_len]; omega
def need (size : Nat) (n : Nat) : Nat := (n + size - 1) / size
theorem need_mul (size n : Nat) (h : 0 < size) : n ≤ need size n * size ∧ need size n * size < n + size := by
  unfold need
  have h1 := Nat.div_add_mod (n + size - 1) size
  have h2 := Nat.mod_lt (n + size - 1) h
  have h3 : size * ((n + size - 1) / size) = (n + size - 1) / size * size := Nat.mul_comm _ _
  omega
theorem recs_le (l : List (List UInt8)) (m : Nat) (h : ∀ r ∈ l, r.length ≤ m) : (recs l).length ≤ l.length * (m + 4) := by
  induction l with
  | nil => simp [recs]
  | cons r l ih =>
    have h1 := ih (fun x hx => h x (by simp [hx]))
    have h2 := h r (by simp)
    have e : (recs (r :: l)).length = 4 + r.length + (recs l).length := by simp [recs]; omega
    rw [e, List.length_cons, Nat.add_mul]; omega
end Jn
end Go.Proofs.YtcpcnfedbffecaaDoor
