/- A list of operations on a disk: the plain side, and the round of the laws' first loop. -/
import Derived.Test.YtibojbbhffoldaaSmall
namespace Go.Proofs.Ytibojbbhffoldaa
open Go.RowKit Go.Maps
namespace DSt
variable (s : DSt) (o : Op15)
theorem write_shape (k : Int) (d : List UInt8) : (s.write k d).2.size = s.size ∧ (s.write k d).2.dur.length = s.dur.length ∧ (s.write k d).2.pend.length ≤ s.pend.length + 1 := by
  unfold write
  split
  · exact ⟨rfl, rfl, by simp⟩
  · split
    · exact ⟨rfl, rfl, by simp⟩
    · simp [step_size, step_dur, step_pend, push]
theorem sync_shape : s.sync.2.size = s.size ∧ s.sync.2.dur.length = s.dur.length ∧ s.sync.2.pend.length ≤ s.pend.length + 1 := by
  unfold sync
  split
  · exact ⟨rfl, rfl, by simp⟩
  · split
    · simp [step_size, step_dur, step_pend]
    · refine ⟨by simp [flush, step_size], by simp [flush, foldl_set_len, step_dur], by simp [flush]⟩
theorem crashGo_len (keep : List Bool) (t : Nat) : ∀ (ps : List (Nat × List UInt8)) (i : Nat) (first : Bool) (d : List (List UInt8)), (crashGo keep t i first d ps).length = d.length
  | [], _, _, _ => rfl
  | p :: ps, i, first, d => by
    simp only [crashGo]
    split
    · rw [crashGo_len keep t ps]; simp
    · split
      · rw [crashGo_len keep t ps]; simp
      · rw [crashGo_len keep t ps]
theorem play_shape : (s.play o).2.size = s.size ∧ (s.play o).2.dur.length = s.dur.length ∧ (s.play o).2.pend.length ≤ s.pend.length + 1 := by
  unfold play
  split
  · exact s.write_shape _ _
  · split
    · exact ⟨rfl, rfl, by simp⟩
    · split
      · exact s.sync_shape
      · split
        · unfold fail; split <;> exact ⟨rfl, rfl, by simp⟩
        · split
          · exact ⟨rfl, crashGo_len _ _ _ _ _ _, by simp [crash]⟩
          · split
            · unfold spoil; split
              · exact ⟨rfl, rfl, by simp⟩
              · exact ⟨rfl, by simp, by simp⟩
            · exact ⟨rfl, rfl, by simp⟩
def plays (s : DSt) (l : List Op15) : DSt := l.foldl (fun s o => (s.play o).2) s
theorem plays_snoc (l : List Op15) : s.plays (l ++ [o]) = ((s.plays l).play o).2 := by simp [plays, List.foldl_append]
theorem plays_shape : ∀ (l : List Op15) (s : DSt), (s.plays l).size = s.size ∧ (s.plays l).dur.length = s.dur.length ∧ (s.plays l).pend.length ≤ s.pend.length + l.length
  | [], s => ⟨rfl, rfl, by simp [plays]⟩
  | o :: l, s => by
    have h1 := s.play_shape o
    have h2 := plays_shape l (s.play o).2
    have e : s.plays (o :: l) = (s.play o).2.plays l := rfl
    rw [e]
    exact ⟨h2.1.trans h1.1, h2.2.1.trans h1.2.1, by have := h2.2.2; have := h1.2.2; simp only [List.length_cons]; omega⟩
end DSt
/-- Behind k rounds of 'play(d, list[i])'. -/
def PlayedR (w : World) (s : DSt) (b : Nat) (l : List Op15) (k : Nat) (wr : World) : Prop := Below w.heap.size w wr ∧ DiskIn w.heap.size wr (s.plays (l.take k)) b
theorem PlayedR.step {w wr : World} {s : DSt} {b : Nat} {l : List Op15} {k : Nat} (h : PlayedR w s b l k wr) (hk : k < l.length) {w' : World} (hb : Below w.heap.size wr w') (hd : DiskIn w.heap.size w' ((s.plays (l.take k)).play l[k]).2 b) : PlayedR w s b l (k + 1) w' := by
  refine ⟨h.1.trans hb, ?_⟩
  rw [List.take_succ_eq_append_getElem hk, DSt.plays_snoc]
  exact hd
theorem PlayedR.pend {w wr : World} {n size : Nat} {b : Nat} {l : List Op15} {k : Nat} (_ : PlayedR w (DSt.new n size) b l k wr) (hl : l.length ≤ 40) : ((DSt.new n size).plays (l.take k)).pend.length < 1000 := by
  have h := (DSt.plays_shape (l.take k) (DSt.new n size)).2.2
  have e : (DSt.new n size).pend.length = 0 := rfl
  have : (l.take k).length ≤ l.length := List.length_take_le' _ _
  omega
end Go.Proofs.Ytibojbbhffoldaa
