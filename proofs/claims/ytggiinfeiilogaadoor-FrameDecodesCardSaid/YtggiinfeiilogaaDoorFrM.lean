/- Frames as plain functions on lists of bytes. No program in sight. -/
import Derived.Test.YtggiinfeiilogaaDoorShaM
namespace Go.Proofs.YtggiinfeiilogaaDoor
namespace Fr
/-- A number in base 128. -/
def num (n : Nat) : List UInt8 := if n < 128 then [UInt8.ofNat n] else UInt8.ofNat (n % 128 + 128) :: num (n / 128)
  termination_by n
  decreasing_by omega
theorem num1 {n : Nat} (h : n < 128) : num n = [UInt8.ofNat n] := by rw [num, if_pos h]
theorem numS {n : Nat} (h : ¬ n < 128) : num n = UInt8.ofNat (n % 128 + 128) :: num (n / 128) := by rw [num, if_neg h]
theorem num2 {n : Nat} (h : ¬ n < 128) (h2 : n < 16384) : num n = [UInt8.ofNat (n % 128 + 128), UInt8.ofNat (n / 128)] := by rw [numS h, num1 (by omega)]
theorem num3 {n : Nat} (h : ¬ n < 16384) (h2 : n < 2097152) : num n = [UInt8.ofNat (n % 128 + 128), UInt8.ofNat (n / 128 % 128 + 128), UInt8.ofNat (n / 128 / 128)] := by rw [numS (by omega), num2 (by omega) (by omega)]
theorem num_pos (n : Nat) : 0 < (num n).length := by
  rw [num]; split <;> simp
theorem num_le {n : Nat} (h : n < 2097152) : (num n).length ≤ 3 := by
  by_cases h1 : n < 128
  · rw [num1 h1]; simp
  · by_cases h2 : n < 16384
    · rw [num2 h1 h2]; simp
    · rw [num3 h2 h]; simp
def chk (h : List UInt8) : List UInt8 := (Sha.sum h).take 8
theorem sum_len (l : List UInt8) : (Sha.sum l).length = 32 := by simp [Sha.sum, Sha.bytes, Sha.V.list]
theorem chk_length (h : List UInt8) : (chk h).length = 8 := by unfold chk; rw [List.length_take, sum_len]; rfl
def head (k : UInt8) (body : List UInt8) : List UInt8 := k :: (num body.length ++ body)
def enc (k : UInt8) (body : List UInt8) : List UInt8 := head k body ++ chk (head k body)
def cost (n : Nat) : Nat := 1 + (num n).length + n + 8
theorem head_length (k : UInt8) (body : List UInt8) : (head k body).length = 1 + (num body.length).length + body.length := by simp [head]; omega
theorem enc_length (k : UInt8) (body : List UInt8) : (enc k body).length = cost body.length := by unfold enc cost; rw [List.length_append, head_length, chk_length]
theorem cost_ge (n : Nat) : n + 10 ≤ cost n := by have := num_pos n; unfold cost; omega
inductive Len where
  | need : Len
  | bad : Len
  | ok (b s : Nat) : Len
def B (l : List UInt8) (i : Nat) : Nat := (l.getD i 0).toNat
theorem B_lt (l : List UInt8) (i : Nat) : B l i < 256 := UInt8.toNat_lt _
def size3 (l : List UInt8) : Nat := B l 1 % 128 + 128 * (B l 2 % 128) + 16384 * B l 3
def lenAt (l : List UInt8) : Len :=
  if l.length ≤ 1 then .need else if B l 1 < 128 then .ok 2 (B l 1)
  else if l.length ≤ 2 then .need else if B l 2 < 128 then (if B l 2 = 0 then .bad else .ok 3 (B l 1 % 128 + 128 * B l 2))
  else if l.length ≤ 3 then .need else if B l 3 < 128 then (if size3 l ≤ 65536 ∧ 0 < B l 3 then .ok 4 (size3 l) else .bad) else .bad
inductive Step where
  | need : Step
  | bad : Step
  | msg (k : UInt8) (body rest : List UInt8) : Step
def step (l : List UInt8) : Step :=
  match lenAt l with
  | .need => .need
  | .bad => .bad
  | .ok b s => if l.length < b + s + 8 then .need else if chk (l.take (b + s)) = (l.drop (b + s)).take 8 then .msg (l.getD 0 0) ((l.drop b).take s) (l.drop (b + s + 8)) else .bad
theorem lenAt_le {l : List UInt8} {b s : Nat} (h : lenAt l = .ok b s) : 2 ≤ b ∧ b ≤ 4 ∧ b ≤ l.length ∧ s ≤ 65536 := by
  have h1 := B_lt l 1
  have h2 := B_lt l 2
  unfold lenAt at h
  split at h
  · cases h
  split at h
  · injection h with e1 e2; omega
  split at h
  · cases h
  split at h
  · split at h
    · cases h
    · injection h with e1 e2; omega
  split at h
  · cases h
  split at h
  · split at h
    · injection h with e1 e2; omega
    · cases h
  · cases h
theorem lenAt_bad {l : List UInt8} (h : lenAt l = .bad) : 3 ≤ l.length := by
  unfold lenAt at h
  split at h
  · cases h
  split at h
  · cases h
  split at h
  · cases h
  · omega
theorem step_bad {l : List UInt8} (h : step l = .bad) : 0 < l.length := by
  unfold step at h
  split at h
  · cases h
  · rename_i e; have := lenAt_bad e; omega
  · rename_i b s e
    have := lenAt_le e
    omega
theorem step_msg {l : List UInt8} {k : UInt8} {body rest : List UInt8} (h : step l = .msg k body rest) : ∃ b s, lenAt l = .ok b s ∧ b + s + 8 ≤ l.length ∧ k = l.getD 0 0 ∧ body = (l.drop b).take s ∧ rest = l.drop (b + s + 8) ∧ chk (l.take (b + s)) = (l.drop (b + s)).take 8 := by
  unfold step at h
  split at h
  · cases h
  · cases h
  · rename_i b s e
    split at h
    · cases h
    · split at h
      · rename_i e2 e3
        injection h with e4 e5 e6
        exact ⟨b, s, e, by omega, e4.symm, e5.symm, e6.symm, e3⟩
      · cases h
theorem step_shrinks {l : List UInt8} {k : UInt8} {body rest : List UInt8} (h : step l = .msg k body rest) : rest.length + 10 ≤ l.length := by
  obtain ⟨b, s, e, h1, _, _, rfl, _⟩ := step_msg h
  have := lenAt_le e
  rw [List.length_drop]; omega
theorem step_body {l : List UInt8} {k : UInt8} {body rest : List UInt8} (h : step l = .msg k body rest) : body.length ≤ 65536 := by
  obtain ⟨b, s, e, h1, _, rfl, _, _⟩ := step_msg h
  have := lenAt_le e
  rw [List.length_take]; omega
theorem B_cons0 (k : UInt8) (l : List UInt8) (i : Nat) : B (k :: l) (i + 1) = B l i := rfl
theorem toNat_of {n : Nat} (h : n < 256) : (UInt8.ofNat n).toNat = n := by simp; omega
theorem B_take (l : List UInt8) {i c : Nat} (h : i < c) : B (l.take c) i = B l i := by
  unfold B; rw [List.getD_eq_getElem?_getD, List.getD_eq_getElem?_getD, List.getElem?_take, if_pos h]
/-- The length at the head of a frame, whatever follows. -/
theorem lenAt_num (k : UInt8) {n : Nat} (h : n ≤ 65536) (r : List UInt8) : lenAt (k :: (num n ++ r)) = .ok (1 + (num n).length) n := by
  by_cases h1 : n < 128
  · rw [num1 h1]
    have e : B (k :: ([UInt8.ofNat n] ++ r)) 1 = n := toNat_of (by omega)
    unfold lenAt
    rw [if_neg (by simp), e, if_pos h1]
    rfl
  · by_cases h2 : n < 16384
    · rw [num2 h1 h2]
      have e1 : B (k :: ([UInt8.ofNat (n % 128 + 128), UInt8.ofNat (n / 128)] ++ r)) 1 = n % 128 + 128 := toNat_of (by omega)
      have e2 : B (k :: ([UInt8.ofNat (n % 128 + 128), UInt8.ofNat (n / 128)] ++ r)) 2 = n / 128 := toNat_of (by omega)
      unfold lenAt
      rw [if_neg (by simp), e1, if_neg (by omega), if_neg (by simp), e2, if_pos (by omega), if_neg (by omega)]
      congr 1
      omega
    · rw [num3 h2 (by omega)]
      have e1 : B (k :: ([UInt8.ofNat (n % 128 + 128), UInt8.ofNat (n / 128 % 128 + 128), UInt8.ofNat (n / 128 / 128)] ++ r)) 1 = n % 128 + 128 := toNat_of (by omega)
      have e2 : B (k :: ([UInt8.ofNat (n % 128 + 128), UInt8.ofNat (n / 128 % 128 + 128), UInt8.ofNat (n / 128 / 128)] ++ r)) 2 = n / 128 % 128 + 128 := toNat_of (by omega)
      have e3 : B (k :: ([UInt8.ofNat (n % 128 + 128), UInt8.ofNat (n / 128 % 128 + 128), UInt8.ofNat (n / 128 / 128)] ++ r)) 3 = n / 128 / 128 := toNat_of (by omega)
      have es : size3 (k :: ([UInt8.ofNat (n % 128 + 128), UInt8.ofNat (n / 128 % 128 + 128), UInt8.ofNat (n / 128 / 128)] ++ r)) = n := by unfold size3; rw [e1, e2, e3]; omega
      unfold lenAt
      rw [if_neg (by simp), e1, if_neg (by omega), if_neg (by simp), e2, if_neg (by omega), if_neg (by simp), e3, if_pos (by omega), es, if_pos (by omega)]
      rfl
/-- With fewer bytes than the length takes. -/
theorem lenAt_short (k : UInt8) {n : Nat} (h : n ≤ 65536) (r : List UInt8) {c : Nat} (hc : c ≤ (num n).length) : lenAt ((k :: (num n ++ r)).take c) = .need := by
  have hle : ((k :: (num n ++ r)).take c).length ≤ c := by rw [List.length_take]; omega
  by_cases c1 : c ≤ 1
  · unfold lenAt; rw [if_pos (by omega)]
  by_cases h1 : n < 128
  · rw [num1 h1] at hc; simp at hc; omega
  have hlen : ((k :: (num n ++ r)).take c).length = c := by rw [List.length_take]; simp; omega
  by_cases h2 : n < 16384
  · rw [num2 h1 h2] at hc hlen ⊢
    simp at hc
    have e1 : B (k :: ([UInt8.ofNat (n % 128 + 128), UInt8.ofNat (n / 128)] ++ r)) 1 = n % 128 + 128 := toNat_of (by omega)
    unfold lenAt
    rw [B_take _ (by omega), e1, hlen, if_neg c1, if_neg (by omega), if_pos (by omega)]
  · rw [num3 h2 (by omega)] at hc hlen ⊢
    simp at hc
    have e1 : B (k :: ([UInt8.ofNat (n % 128 + 128), UInt8.ofNat (n / 128 % 128 + 128), UInt8.ofNat (n / 128 / 128)] ++ r)) 1 = n % 128 + 128 := toNat_of (by omega)
    have e2 : B (k :: ([UInt8.ofNat (n % 128 + 128), UInt8.ofNat (n / 128 % 128 + 128), UInt8.ofNat (n / 128 / 128)] ++ r)) 2 = n / 128 % 128 + 128 := toNat_of (by omega)
    unfold lenAt
    rw [B_take _ (by omega), e1, hlen, if_neg c1, if_neg (by omega)]
    by_cases c2 : c ≤ 2
    · rw [if_pos c2]
    · rw [if_neg c2, B_take _ (by omega), e2, if_neg (by omega), if_pos (by omega)]
/-- A frame's head with any body of the same length and eight bytes behind it. -/
theorem step_head (k : UInt8) {body : List UInt8} (h : body.length ≤ 65536) (s r : List UInt8) (hs : s.length = 8) :
    step (head k body ++ (s ++ r)) = if chk (head k body) = s then .msg k body r else .bad := by
  have hl := head_length k body
  have e0 : lenAt (head k body ++ (s ++ r)) = .ok (1 + (num body.length).length) body.length := by
    unfold head; rw [List.cons_append, List.append_assoc]; exact lenAt_num k h _
  unfold step
  rw [e0]
  have e1 : (head k body ++ (s ++ r)).take (1 + (num body.length).length + body.length) = head k body := List.take_left' hl
  have e2 : (head k body ++ (s ++ r)).drop (1 + (num body.length).length + body.length) = s ++ r := List.drop_left' hl
  have e3 : (head k body ++ (s ++ r)).drop (1 + (num body.length).length + body.length + 8) = r := by
    rw [← List.drop_drop, e2]; exact List.drop_left' hs
  have e4 : ((head k body ++ (s ++ r)).drop (1 + (num body.length).length)).take body.length = body := by
    have : head k body ++ (s ++ r) = (k :: num body.length) ++ (body ++ (s ++ r)) := by simp [head]
    rw [this, List.drop_left' (by simp; omega), List.take_left' rfl]
  simp only [e1, e2, e3, e4]
  rw [if_neg (by simp only [List.length_append, hl, hs]; omega), List.take_left' hs]
  rfl
theorem step_enc (k : UInt8) {body : List UInt8} (h : body.length ≤ 65536) (r : List UInt8) : step (enc k body ++ r) = .msg k body r := by
  unfold enc
  rw [List.append_assoc, step_head k h _ _ (chk_length _), if_pos rfl]
theorem step_nil : step [] = .need := rfl
theorem step_short (k : UInt8) {body : List UInt8} (h : body.length ≤ 65536) (r : List UInt8) {c : Nat} (hc : c < (enc k body).length) : step ((enc k body ++ r).take c) = .need := by
  have hl := enc_length k body
  have hlen : ((enc k body ++ r).take c).length = c := by rw [List.length_take, List.length_append]; omega
  have e : enc k body ++ r = k :: (num body.length ++ (body ++ (chk (head k body) ++ r))) := by simp [enc, head]
  by_cases h1 : c ≤ (num body.length).length
  · unfold step; rw [e, lenAt_short k h _ h1]
  · have e2 : (enc k body ++ r).take c = k :: (num body.length ++ ((body ++ (chk (head k body) ++ r)).take (c - 1 - (num body.length).length))) := by
      rw [e]
      obtain ⟨c', rfl⟩ : ∃ c', c = c' + 1 := ⟨c - 1, by omega⟩
      rw [List.take_succ_cons, List.take_append, List.take_of_length_le (by omega)]
      simp
    unfold step
    rw [e2, lenAt_num k h]
    simp only
    rw [← e2, hlen, if_pos (by unfold cost at hl; omega)]
/-- Messages: a kind and a body. -/
abbrev Msg := Int × List UInt8
def kb (k : Int) : UInt8 := UInt8.ofNat k.toNat
def ok (m : Msg) : Prop := 0 ≤ m.1 ∧ m.1 ≤ 255 ∧ m.2.length ≤ 65536
def encM (m : Msg) : List UInt8 := enc (kb m.1) m.2
theorem kb_toNat {k : Int} (h0 : 0 ≤ k) (h1 : k ≤ 255) : ((kb k).toNat : Int) = k := by unfold kb; rw [toNat_of (by omega)]; omega
def stream : List Msg → List UInt8
  | [] => []
  | m :: L => encM m ++ stream L
theorem stream_append : ∀ L M : List Msg, stream (L ++ M) = stream L ++ stream M
  | [], M => rfl
  | m :: L, M => by show encM m ++ stream (L ++ M) = _; rw [stream_append L M, ← List.append_assoc]; rfl
theorem encM_length (m : Msg) : (encM m).length = cost m.2.length := enc_length _ _
/-- A decoder's state: the bytes it has, or how many there are behind a fault. -/
inductive D where
  | live (l : List UInt8) : D
  | dead (n : Nat) : D
def D.pend : D → Nat
  | .live l => l.length
  | .dead n => n
def D.feed (x : List UInt8) : D → D
  | .live l => .live (l ++ x)
  | .dead n => .dead (n + x.length)
/-- The messages that a decoder gives, until it gives none. -/
inductive Drains : List UInt8 → List Msg → D → Prop where
  | need {l : List UInt8} (h : step l = .need) : Drains l [] (.live l)
  | bad {l : List UInt8} (h : step l = .bad) : Drains l [] (.dead l.length)
  | msg {l : List UInt8} {k : UInt8} {b r : List UInt8} {ms : List Msg} {d : D} (h : step l = .msg k b r) (t : Drains r ms d) : Drains l (((k.toNat : Int), b) :: ms) d
theorem Drains.inv {l : List UInt8} {ms : List Msg} {d : D} (h : Drains l ms d) : (step l = .need ∧ ms = [] ∧ d = .live l) ∨ (step l = .bad ∧ ms = [] ∧ d = .dead l.length) ∨ ∃ k b r ms', step l = .msg k b r ∧ ms = ((k.toNat : Int), b) :: ms' ∧ Drains r ms' d := by
  cases h with
  | need h => exact .inl ⟨h, rfl, rfl⟩
  | bad h => exact .inr (.inl ⟨h, rfl, rfl⟩)
  | msg h t => exact .inr (.inr ⟨_, _, _, _, h, rfl, t⟩)
theorem Drains.of_msg {l : List UInt8} {ms : List Msg} {d : D} {k : UInt8} {b r : List UInt8} (h : Drains l ms d) (e : step l = .msg k b r) : ∃ ms', ms = ((k.toNat : Int), b) :: ms' ∧ Drains r ms' d := by
  rcases h.inv with ⟨h, _⟩ | ⟨h, _⟩ | ⟨_, _, _, _, h, h2, h3⟩
  · rw [e] at h; cases h
  · rw [e] at h; cases h
  · rw [e] at h; cases h; exact ⟨_, h2, h3⟩
theorem Drains.of_need {l : List UInt8} {ms : List Msg} {d : D} (h : Drains l ms d) (e : step l = .need) : ms = [] ∧ d = .live l := by
  rcases h.inv with ⟨_, h⟩ | ⟨h, _⟩ | ⟨_, _, _, _, h, h2, h3⟩
  · exact h
  · rw [e] at h; cases h
  · rw [e] at h; cases h
theorem Drains.of_bad {l : List UInt8} {ms : List Msg} {d : D} (h : Drains l ms d) (e : step l = .bad) : ms = [] ∧ d = .dead l.length := by
  rcases h.inv with ⟨h, _⟩ | ⟨_, h⟩ | ⟨_, _, _, _, h, h2, h3⟩
  · rw [e] at h; cases h
  · exact h
  · rw [e] at h; cases h
theorem Drains.stream {r : List UInt8} {d : D} : ∀ (L : List Msg) (_ : ∀ m ∈ L, ok m) {ms : List Msg} (_ : Drains (stream L ++ r) ms d), ∃ ms', ms = L ++ ms' ∧ Drains r ms' d
  | [], _, ms, h => ⟨ms, rfl, h⟩
  | m :: L, hL, ms, h => by
    have hm := hL m (by simp)
    have e : step (Fr.stream (m :: L) ++ r) = .msg (kb m.1) m.2 (Fr.stream L ++ r) := by
      show step ((encM m ++ Fr.stream L) ++ r) = _
      rw [List.append_assoc]; exact step_enc _ hm.2.2 _
    obtain ⟨ms', rfl, h2⟩ := h.of_msg e
    obtain ⟨ms2, rfl, h3⟩ := Drains.stream L (fun x hx => hL x (by simp [hx])) h2
    refine ⟨ms2, ?_, h3⟩
    rw [kb_toNat hm.1 hm.2.1]; rfl
/-- How many frames fit. -/
def fit : List Msg → Nat → Nat
  | [], _ => 0
  | m :: L, c => if cost m.2.length ≤ c then fit L (c - cost m.2.length) + 1 else 0
theorem fit_le : ∀ (L : List Msg) (c : Nat), fit L c ≤ L.length
  | [], c => Nat.le_refl _
  | m :: L, c => by
    unfold fit
    split
    · have := fit_le L (c - cost m.2.length); simp; omega
    · simp
theorem fit_stream : ∀ (L : List Msg) (c : Nat), (stream (L.take (fit L c))).length ≤ c
  | [], c => Nat.zero_le _
  | m :: L, c => by
    unfold fit
    split
    · rename_i h
      have := fit_stream L (c - cost m.2.length)
      rw [List.take_succ_cons]
      show (encM m ++ stream _).length ≤ c
      rw [List.length_append, encM_length]; omega
    · simp [stream]
/-- The beginning of a stream: just the messages whose frames are complete. -/
theorem drains_take {d : D} : ∀ (L : List Msg) (c : Nat) (_ : ∀ m ∈ L, ok m) (_ : c ≤ (stream L).length) {ms : List Msg} (_ : Drains ((stream L).take c) ms d),
    ms = L.take (fit L c) ∧ ∃ rest, d = .live rest ∧ rest ++ (stream L).drop c = stream (L.drop (fit L c))
  | [], c, _, hc, ms, h => by
    simp only [stream, List.take_nil] at h
    obtain ⟨rfl, rfl⟩ := h.of_need step_nil
    exact ⟨rfl, [], rfl, by simp [stream]⟩
  | m :: L, c, hL, hc, ms, h => by
    have hm := hL m (by simp)
    have hlen := encM_length m
    unfold fit
    by_cases hfit : cost m.2.length ≤ c
    · rw [if_pos hfit]
      have e0 : (stream (m :: L)).take c = encM m ++ (stream L).take (c - cost m.2.length) := by
        show (encM m ++ stream L).take c = _
        rw [List.take_append, List.take_of_length_le (by omega), hlen]
      have e1 : (stream (m :: L)).drop c = (stream L).drop (c - cost m.2.length) := by
        show (encM m ++ stream L).drop c = _
        rw [List.drop_append, List.drop_of_length_le (by omega), hlen]; rfl
      rw [e0] at h
      obtain ⟨ms', rfl, h2⟩ := h.of_msg (step_enc _ hm.2.2 _)
      have hc' : c - cost m.2.length ≤ (stream L).length := by
        have : (stream (m :: L)).length = (encM m).length + (stream L).length := List.length_append
        omega
      obtain ⟨rfl, rest, rfl, h3⟩ := drains_take L _ (fun x hx => hL x (by simp [hx])) hc' h2
      refine ⟨?_, rest, rfl, ?_⟩
      · rw [kb_toNat hm.1 hm.2.1, List.take_succ_cons]
      · rw [e1, List.drop_succ_cons]; exact h3
    · rw [if_neg hfit]
      have e : step ((stream (m :: L)).take c) = .need := step_short _ hm.2.2 _ (by show c < (encM m).length; omega)
      obtain ⟨rfl, rfl⟩ := h.of_need e
      exact ⟨rfl, _, rfl, by rw [List.take_append_drop]; rfl⟩
/-- The first frames are whole, whatever stands behind them. -/
theorem drains_before {d : D} (L : List Msg) (hL : ∀ m ∈ L, ok m) {c : List UInt8} {first : Nat} (hc : c.take first = (stream L).take first) {ms : List Msg} (h : Drains c ms d) :
    fit L first ≤ ms.length ∧ ms.take (fit L first) = L.take (fit L first) := by
  have h1 := fit_stream L first
  have h2 : (stream (L.take (fit L first))) = c.take (stream (L.take (fit L first))).length := by
    have e : stream L = stream (L.take (fit L first)) ++ stream (L.drop (fit L first)) := by rw [← stream_append, List.take_append_drop]
    have : c.take (stream (L.take (fit L first))).length = (c.take first).take (stream (L.take (fit L first))).length := by rw [List.take_take, Nat.min_eq_left h1]
    rw [this, hc, List.take_take, Nat.min_eq_left h1, e, List.take_left' rfl]
  have h3 : c = stream (L.take (fit L first)) ++ c.drop (stream (L.take (fit L first))).length := by
    conv => lhs; rw [← List.take_append_drop (stream (L.take (fit L first))).length c, ← h2]
  rw [h3] at h
  obtain ⟨ms', rfl, _⟩ := Drains.stream _ (fun m hm => hL m (List.mem_of_mem_take hm)) h
  have hl : (L.take (fit L first)).length = fit L first := by rw [List.length_take]; have := fit_le L first; omega
  exact ⟨by rw [List.length_append, hl]; omega, List.take_left' hl⟩
/-- Every stream of bytes can be drained. -/
theorem drains_any (l : List UInt8) : ∃ ms d, Drains l ms d := by
  induction hn : l.length using Nat.strongRecOn generalizing l with
  | ind n ih =>
    cases hs : step l with
    | need => exact ⟨_, _, .need hs⟩
    | bad => exact ⟨_, _, .bad hs⟩
    | msg k b r =>
      have := step_shrinks hs
      obtain ⟨ms, d, h⟩ := ih r.length (by omega) r rfl
      exact ⟨_, _, .msg hs h⟩
end Fr
end Go.Proofs.YtggiinfeiilogaaDoor
