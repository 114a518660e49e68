/- Plain: one frame's body is changed. -/
import Derived.Test.YtggiinfeiilogaaDoorFrM
namespace Go.Proofs.YtggiinfeiilogaaDoor
namespace Fr
/-- The stream before the body of frame i, and behind it. -/
def preB (L : List Msg) (i : Nat) (m : Msg) : List UInt8 := stream (L.take i) ++ (kb m.1 :: num m.2.length)
def postB (L : List Msg) (i : Nat) (m : Msg) : List UInt8 := chk (head (kb m.1) m.2) ++ stream (L.drop (i + 1))
theorem stream_at (L : List Msg) (i : Nat) (hi : i < L.length) : stream L = preB L i L[i] ++ L[i].2 ++ postB L i L[i] := by
  have e : L = L.take i ++ (L[i] :: L.drop (i + 1)) := by rw [List.getElem_cons_drop, List.take_append_drop]
  conv => lhs; rw [e, stream_append]
  show stream (L.take i) ++ (encM L[i] ++ stream (L.drop (i + 1))) = _
  unfold preB postB encM enc head
  simp [List.append_assoc]
theorem preB_length (L : List Msg) (i : Nat) (m : Msg) : (preB L i m).length + m.2.length + 8 = (stream (L.take i)).length + cost m.2.length := by
  unfold preB cost; simp only [List.length_append, List.length_cons]; omega
/-- What a decoder gives of the changed stream. -/
def Refused (L : List Msg) (i : Nat) (m : Msg) (body' : List UInt8) (ms : List Msg) (d : D) : Prop :=
  i ≤ ms.length ∧ ms.take i = L.take i ∧ ((i < ms.length ∧ chk (head (kb m.1) body') = chk (head (kb m.1) m.2)) ∨ (ms.length = i ∧ d = .dead (cost m.2.length + (stream (L.drop (i + 1))).length)))
theorem refused (L : List Msg) (i : Nat) (hi : i < L.length) (hL : ∀ m ∈ L, ok m) (body' : List UInt8) (hb : body'.length = L[i].2.length) {ms : List Msg} {d : D} (h : Drains (preB L i L[i] ++ body' ++ postB L i L[i]) ms d) :
    Refused L i L[i] body' ms d := by
  have hm : ok L[i] := hL _ (List.getElem_mem hi)
  have hl : (L.take i).length = i := by rw [List.length_take]; omega
  have e : preB L i L[i] ++ body' ++ postB L i L[i] = stream (L.take i) ++ (head (kb L[i].1) body' ++ (chk (head (kb L[i].1) L[i].2) ++ stream (L.drop (i + 1)))) := by
    unfold preB postB head; rw [hb]; simp [List.append_assoc]
  rw [e] at h
  obtain ⟨ms', rfl, h2⟩ := Drains.stream _ (fun x hx => hL x (List.mem_of_mem_take hx)) h
  have hs := step_head (kb L[i].1) (body := body') (by rw [hb]; exact hm.2.2) (chk (head (kb L[i].1) L[i].2)) (stream (L.drop (i + 1))) (chk_length _)
  refine ⟨by rw [List.length_append, hl]; omega, List.take_left' hl, ?_⟩
  by_cases hc : chk (head (kb L[i].1) body') = chk (head (kb L[i].1) L[i].2)
  · rw [if_pos hc] at hs
    obtain ⟨ms2, rfl, _⟩ := h2.of_msg hs
    exact .inl ⟨by rw [List.length_append, hl]; simp, hc⟩
  · rw [if_neg hc] at hs
    obtain ⟨rfl, rfl⟩ := h2.of_bad hs
    refine .inr ⟨by rw [List.append_nil, hl], ?_⟩
    congr 1
    have := head_length (kb L[i].1) body'
    rw [List.length_append, List.length_append, this, chk_length, hb]
    unfold cost; omega
theorem set_mid (P B T : List UInt8) (a : Nat) (x : UInt8) (ha : a < B.length) : (P ++ B ++ T).set (P.length + a) x = P ++ B.set a x ++ T := by
  rw [List.append_assoc, List.set_append_right _ _ (by omega), Nat.add_sub_cancel_left, List.set_append_left _ _ ha, ← List.append_assoc]
theorem get_mid (P B T : List UInt8) (a : Nat) (ha : a < B.length) : (P ++ B ++ T)[P.length + a]'(by simp only [List.length_append]; omega) = B[a] := by
  rw [List.getElem_append_left (by simp only [List.length_append]; omega), List.getElem_append_right (by omega)]
  simp
end Fr
end Go.Proofs.YtggiinfeiilogaaDoor
