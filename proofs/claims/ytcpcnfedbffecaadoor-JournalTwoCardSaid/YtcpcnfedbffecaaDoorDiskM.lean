/- The disk of chapter 15 as plain data: what each operation does to it. No program in sight. -/
namespace Go.Proofs.YtcpcnfedbffecaaDoor

/-- Two lists of one length, entry by entry. -/
def All2 {α β : Type} (R : α → β → Prop) (l : List α) (m : List β) : Prop := l.length = m.length ∧ ∀ (i : Nat) (a : α) (b : β), l[i]? = some a → m[i]? = some b → R a b
section
variable {α β : Type} {R S : α → β → Prop} {l : List α} {m : List β}
theorem All2.mono (h : All2 R l m) (hs : ∀ a b, R a b → S a b) : All2 S l m := ⟨h.1, fun i a b ha hb => hs a b (h.2 i a b ha hb)⟩
theorem All2.nil : All2 R [] [] := ⟨rfl, fun i a b ha _ => by simp at ha⟩
theorem All2.snoc (h : All2 R l m) {a : α} {b : β} (hab : R a b) : All2 R (l ++ [a]) (m ++ [b]) := by
  refine ⟨by simp [h.1], fun i x y hx hy => ?_⟩
  by_cases hi : i < l.length
  · rw [List.getElem?_append_left hi] at hx
    rw [List.getElem?_append_left (by rw [← h.1]; exact hi)] at hy
    exact h.2 i x y hx hy
  · rw [List.getElem?_append_right (by omega)] at hx
    rw [List.getElem?_append_right (by rw [← h.1]; omega)] at hy
    have e : i - l.length = 0 := by
      have := (List.getElem?_eq_some_iff.1 hx).1
      simp at this; omega
    rw [e] at hx; rw [← h.1, e] at hy
    simp at hx hy; subst hx; subst hy; exact hab
theorem All2.set (h : All2 R l m) (k : Nat) {a : α} {b : β} (hab : R a b) : All2 R (l.set k a) (m.set k b) := by
  refine ⟨by simp [h.1], fun i x y hx hy => ?_⟩
  rw [List.getElem?_set] at hx hy
  by_cases hk : k = i
  · subst hk
    simp only [if_true] at hx hy
    split at hx <;> simp at hx
    split at hy <;> simp at hy
    subst hx; subst hy; exact hab
  · rw [if_neg hk] at hx hy; exact h.2 i x y hx hy
theorem All2.get (h : All2 R l m) {i : Nat} {b : β} (hb : m[i]? = some b) : ∃ a, l[i]? = some a ∧ R a b := by
  have hi : i < l.length := by rw [h.1]; exact (List.getElem?_eq_some_iff.1 hb).1
  exact ⟨l[i], by simp [hi], h.2 i _ b (by simp [hi]) hb⟩
theorem All2.get' (h : All2 R l m) {i : Nat} {a : α} (ha : l[i]? = some a) : ∃ b, m[i]? = some b ∧ R a b := by
  have hi : i < m.length := by rw [← h.1]; exact (List.getElem?_eq_some_iff.1 ha).1
  exact ⟨m[i], by simp [hi], h.2 i a _ ha (by simp [hi])⟩
theorem All2.cons {a : α} {b : β} (hab : R a b) (h : All2 R l m) : All2 R (a :: l) (b :: m) := by
  refine ⟨by simp [h.1], fun i x y hx hy => ?_⟩
  cases i with
  | zero => simp at hx hy; subst hx; subst hy; exact hab
  | succ i => simp at hx hy; exact h.2 i x y hx hy
theorem All2.tail {a : α} {b : β} (h : All2 R (a :: l) (b :: m)) : R a b ∧ All2 R l m :=
  ⟨h.2 0 a b (by simp) (by simp), by have := h.1; simpa using this, fun i x y hx hy => h.2 (i + 1) x y (by simpa using hx) (by simpa using hy)⟩
end

structure DSt where
  size : Nat
  dur : List (List UInt8)
  pend : List (Nat × List UInt8)
  after : Int
  down : Bool

namespace DSt
/-- What every disk is: rows of 'size' bytes, writes to its sectors. -/
structure Ok (s : DSt) : Prop where
  size1 : 1 ≤ s.size
  size2 : s.size ≤ 4096
  n1 : 1 ≤ s.dur.length
  n2 : s.dur.length ≤ 65536
  dur : ∀ d ∈ s.dur, d.length = s.size
  pend : ∀ p ∈ s.pend, p.1 < s.dur.length ∧ p.2.length = s.size
  a1 : -1 ≤ s.after
  a2 : s.after ≤ 9223372036854775807

def new (n size : Nat) : DSt := ⟨size, List.replicate n (List.replicate size 0), [], -1, false⟩
theorem new_ok {n size : Nat} (h1 : 1 ≤ size) (h2 : size ≤ 4096) (h3 : 1 ≤ n) (h4 : n ≤ 65536) : (new n size).Ok :=
  ⟨h1, h2, by simpa [new] using h3, by simpa [new] using h4, by intro d hd; simp [new] at hd; simp [new, hd.2], by intro p hp; simp [new] at hp, by simp [new], by simp [new]⟩

/-- One operation less before the failure; does it fail? -/
def failing (s : DSt) : Bool := decide (s.after = 0)
def step (s : DSt) : DSt := if s.after < 0 then s else { s with after := s.after - 1, down := decide (s.after = 0) }
def valid (s : DSt) (k : Int) : Bool := decide (0 ≤ k ∧ k < (s.dur.length : Int))
def push (s : DSt) (k : Nat) (d : List UInt8) : DSt := { s with pend := s.pend ++ [(k, d)] }
def write (s : DSt) (k : Int) (d : List UInt8) : Int × DSt :=
  if s.down then (8, s)
  else if !s.valid k || d.length != s.size then (1, s)
  else (if s.failing then 8 else 0, (s.push k.toNat d).step)
/-- The index of the last pending write of a sector. -/
def lastIdx {α : Type} (s : Nat) : List (Nat × α) → Nat → Option Nat
  | [], _ => none
  | p :: ps, k => match lastIdx s ps (k + 1) with
    | some j => some j
    | none => if p.1 = s then some k else none
def look (s : DSt) (k : Nat) : List UInt8 :=
  match lastIdx k s.pend 0 with
  | some j => (s.pend.getD j (0, [])).2
  | none => s.dur.getD k []
def read (s : DSt) (k : Int) : Int × List UInt8 :=
  if s.down then (8, []) else if !s.valid k then (1, []) else (0, s.look k.toNat)
def flush (s : DSt) : DSt := { s with dur := s.pend.foldl (fun d p => d.set p.1 p.2) s.dur, pend := [] }
def sync (s : DSt) : Int × DSt :=
  if s.down then (8, s) else if s.failing then (8, s.step) else (0, s.step.flush)
def fail (s : DSt) (a : Int) : DSt := if s.down then s else { s with after := max a (-1) }
/-- Of a torn write the first t bytes. -/
def torn (t : Nat) (new old : List UInt8) : List UInt8 := new.take t ++ old.drop t
def crashGo (keep : List Bool) (t : Nat) : Nat → Bool → List (List UInt8) → List (Nat × List UInt8) → List (List UInt8)
  | _, _, d, [] => d
  | i, first, d, p :: ps =>
    if keep.getD i false then crashGo keep t (i + 1) first (d.set p.1 p.2) ps
    else if first then crashGo keep t (i + 1) false (d.set p.1 (torn t p.2 (d.getD p.1 []))) ps
    else crashGo keep t (i + 1) first d ps
def tornBytes (s : DSt) (t : Int) : Nat := (min (max t 0) (s.size : Int)).toNat
def crash (s : DSt) (keep : List Bool) (t : Int) : DSt :=
  { s with dur := crashGo keep (s.tornBytes t) 0 true s.dur s.pend, pend := [], after := -1, down := false }
def spoilable (s : DSt) (k o : Int) : Bool := s.valid k && decide (0 ≤ o ∧ o < (s.size : Int))
def spoil (s : DSt) (k o : Int) (x : UInt8) : Int × DSt :=
  if !s.spoilable k o then (1, s)
  else (0, { s with dur := s.dur.set k.toNat ((s.dur.getD k.toNat []).set o.toNat ((s.dur.getD k.toNat []).getD o.toNat 0 ^^^ x)) })

theorem lastIdx_snoc {α : Type} (s : Nat) (p : Nat × α) : ∀ (ps : List (Nat × α)) (k : Nat), lastIdx s (ps ++ [p]) k = if p.1 = s then some (k + ps.length) else lastIdx s ps k
  | [], k => by simp [lastIdx]
  | q :: ps, k => by
    simp only [List.cons_append, lastIdx, lastIdx_snoc s p ps (k + 1), List.length_cons]
    by_cases h : p.1 = s
    · simp [h]; omega
    · simp [h]
theorem lastIdx_some {α : Type} (s : Nat) : ∀ (ps : List (Nat × α)) (k j : Nat), lastIdx s ps k = some j → k ≤ j ∧ j < k + ps.length ∧ ∃ q, ps[j - k]? = some q ∧ q.1 = s
  | [], k, j, h => by simp [lastIdx] at h
  | q :: ps, k, j, h => by
    simp only [lastIdx] at h
    split at h
    · rename_i j' hj
      simp at h; subst h
      obtain ⟨h1, h2, q', h3, h4⟩ := lastIdx_some s ps (k + 1) _ hj
      refine ⟨by omega, by simp; omega, q', ?_, h4⟩
      rw [show j' - k = (j' - (k + 1)) + 1 from by omega]; simpa using h3
    · split at h
      · rename_i hq
        simp at h; subst h
        exact ⟨by omega, by simp, q, by simp, hq⟩
      · cases h
theorem lastIdx_none {α : Type} (s : Nat) : ∀ (ps : List (Nat × α)) (k : Nat), lastIdx s ps k = none ↔ ∀ q ∈ ps, q.1 ≠ s
  | [], k => by simp [lastIdx]
  | q :: ps, k => by
    have ih := lastIdx_none s ps (k + 1)
    simp only [lastIdx, List.mem_cons, forall_eq_or_imp]
    split
    · rename_i j hj
      constructor
      · intro h; cases h
      · intro h; have := (lastIdx_some s ps (k + 1) j hj).2.2; obtain ⟨q', h1, h2⟩ := this
        exact absurd h2 (h.2 q' (List.mem_of_getElem? h1))
    · rename_i hn
      constructor
      · intro h; split at h
        · cases h
        · exact ⟨‹_›, ih.1 hn⟩
      · intro h; rw [if_neg h.1]

section
variable {s : DSt}
theorem step_pend : s.step.pend = s.pend := by unfold step; split <;> rfl
theorem step_dur : s.step.dur = s.dur := by unfold step; split <;> rfl
theorem step_size : s.step.size = s.size := by unfold step; split <;> rfl
theorem step_ok (h : s.Ok) : s.step.Ok := by
  unfold step
  split
  · exact h
  · exact ⟨h.size1, h.size2, h.n1, h.n2, h.dur, h.pend, by simp; omega, by have := h.a2; simp; omega⟩
theorem push_ok (h : s.Ok) {k : Nat} {d : List UInt8} (hk : k < s.dur.length) (hd : d.length = s.size) : (s.push k d).Ok :=
  ⟨h.size1, h.size2, h.n1, h.n2, h.dur, by intro p hp; simp [push] at hp; rcases hp with hp | rfl; exact h.pend p hp; exact ⟨hk, hd⟩, h.a1, h.a2⟩
theorem write_ok (h : s.Ok) (k : Int) (d : List UInt8) : (s.write k d).2.Ok := by
  unfold write
  split
  · exact h
  · split
    · exact h
    · rename_i hv
      simp [valid] at hv
      exact step_ok (push_ok h (by omega) hv.2)
theorem foldl_set_len {α : Type} (ps : List (Nat × α)) : ∀ (d : List α), (ps.foldl (fun d p => d.set p.1 p.2) d).length = d.length := by
  induction ps with
  | nil => intro d; rfl
  | cons p ps ih => intro d; simp [ih]
theorem mem_set' {α : Type} {l : List α} {i : Nat} {a x : α} (h : x ∈ l.set i a) : x = a ∨ x ∈ l := by
  rcases List.mem_or_eq_of_mem_set h with h | h
  · exact .inr h
  · exact .inl h
theorem foldl_set_mem {size : Nat} (ps : List (Nat × List UInt8)) : ∀ (d : List (List UInt8)), (∀ x ∈ d, x.length = size) → (∀ p ∈ ps, p.2.length = size) → ∀ x ∈ ps.foldl (fun d p => d.set p.1 p.2) d, x.length = size := by
  induction ps with
  | nil => intro d h _; simpa using h
  | cons p ps ih =>
    intro d h hp
    simp only [List.foldl_cons]
    refine ih _ (fun x hx => ?_) (fun q hq => hp q (by simp [hq]))
    rcases mem_set' hx with rfl | hx
    · exact hp p (by simp)
    · exact h x hx
theorem flush_ok (h : s.Ok) : s.flush.Ok :=
  ⟨h.size1, h.size2, by simpa [flush, foldl_set_len] using h.n1, by simpa [flush, foldl_set_len] using h.n2,
    foldl_set_mem s.pend s.dur h.dur (fun p hp => (h.pend p hp).2), by intro p hp; simp [flush] at hp, h.a1, h.a2⟩
theorem sync_ok (h : s.Ok) : s.sync.2.Ok := by
  unfold sync
  split
  · exact h
  · split
    · exact step_ok h
    · exact flush_ok (step_ok h)
theorem fail_ok (h : s.Ok) {a : Int} (ha : a ≤ 9223372036854775807) : (s.fail a).Ok := by
  unfold fail
  split
  · exact h
  · exact ⟨h.size1, h.size2, h.n1, h.n2, h.dur, h.pend, by simp; omega, by simp; omega⟩
theorem torn_length {t n : Nat} {a b : List UInt8} (ha : a.length = n) (hb : b.length = n) : (torn t a b).length = n := by
  simp [torn]; omega
theorem getD_mem {α : Type} {l : List α} {i : Nat} {z : α} (h : i < l.length) : l.getD i z ∈ l := by
  simp [List.getD, h]
theorem crashGo_ok (keep : List Bool) (t size : Nat) : ∀ (ps : List (Nat × List UInt8)) (i : Nat) (first : Bool) (d : List (List UInt8)), (∀ x ∈ d, x.length = size) → (∀ p ∈ ps, p.1 < d.length ∧ p.2.length = size) →
    (crashGo keep t i first d ps).length = d.length ∧ ∀ x ∈ crashGo keep t i first d ps, x.length = size
  | [], i, first, d, h, _ => ⟨rfl, h⟩
  | p :: ps, i, first, d, h, hp => by
    have hp0 := hp p (by simp)
    simp only [crashGo]
    split
    · have := crashGo_ok keep t size ps (i + 1) first (d.set p.1 p.2) (fun x hx => by rcases mem_set' hx with rfl | hx; exact hp0.2; exact h x hx) (fun q hq => by simpa using hp q (by simp [hq]))
      simpa using this
    · split
      · have := crashGo_ok keep t size ps (i + 1) false (d.set p.1 (torn t p.2 (d.getD p.1 []))) (fun x hx => by rcases mem_set' hx with rfl | hx; exact torn_length hp0.2 (h _ (getD_mem hp0.1)); exact h x hx) (fun q hq => by simpa using hp q (by simp [hq]))
        simpa using this
      · exact crashGo_ok keep t size ps (i + 1) first d h (fun q hq => hp q (by simp [hq]))
theorem crash_ok (h : s.Ok) (keep : List Bool) (t : Int) : (s.crash keep t).Ok := by
  have := crashGo_ok keep (s.tornBytes t) s.size s.pend 0 true s.dur h.dur h.pend
  exact ⟨h.size1, h.size2, by simpa [crash, this.1] using h.n1, by simpa [crash, this.1] using h.n2, this.2, by intro p hp; simp [crash] at hp, by simp [crash], by simp [crash]⟩
theorem spoil_ok (h : s.Ok) (k o : Int) (x : UInt8) : (s.spoil k o x).2.Ok := by
  unfold spoil
  split
  · exact h
  · rename_i hv
    simp [spoilable, valid] at hv
    refine ⟨h.size1, h.size2, by simpa using h.n1, by simpa using h.n2, fun d hd => ?_, by simpa using h.pend, h.a1, h.a2⟩
    rcases mem_set' hd with rfl | hd
    · simp only [List.length_set]; exact h.dur _ (getD_mem (by omega))
    · exact h.dur d hd
theorem look_len (h : s.Ok) {k : Nat} (hk : k < s.dur.length) : (s.look k).length = s.size := by
  unfold look
  split
  · rename_i j hj
    obtain ⟨_, h2, q, h3, _⟩ := lastIdx_some k s.pend 0 j hj
    have : q ∈ s.pend := List.mem_of_getElem? h3
    simp at h3
    simp [List.getD, h3, h.pend q this]
  · exact h.dur _ (getD_mem hk)
end
end DSt
end Go.Proofs.YtcpcnfedbffecaaDoor
