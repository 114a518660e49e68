/- Contract of 'small', and the operations of a list opened from an argument. -/
import Derived.Test.YtibojbbhffoldaaPlay
namespace Go.Proofs.Ytibojbbhffoldaa
open Go.RowKit Go.Maps
def Small (sectors size : Int) (n : Nat) : Prop := 1 ≤ sectors ∧ sectors ≤ 8 ∧ 1 ≤ size ∧ size ≤ 8 ∧ n ≤ 40
section
variable {w : World}
set_option maxHeartbeats 400000 in
theorem small_yes (sectors size : Int) (a : Option Addr) (n c : Nat) (h : Small sectors size n) :
    Calls Try.prog 25 #[.int .i64 sectors, .int .i64 size, .slice a n c] w fun e w' => e = .returned (.bool true) ∧ w = w' := by
  obtain ⟨h1, h2, h3, h4, h5⟩ := h
  have h6 : (n : Int) ≤ 40 := by omega
  go_enter Try.func25, Try.ntmps25
  go_wp2_with fail
  go_ret
  exact ⟨rfl, rfl⟩
set_option maxHeartbeats 400000 in
theorem small_no (sectors size : Int) (a : Option Addr) (n c : Nat) (h : ¬ Small sectors size n) :
    Calls Try.prog 25 #[.int .i64 sectors, .int .i64 size, .slice a n c] w fun e w' => e = .returned (.bool false) ∧ w = w' := by
  by_cases h1 : 1 ≤ sectors
  · by_cases h2 : sectors ≤ 8
    · by_cases h3 : 1 ≤ size
      · by_cases h4 : size ≤ 8
        · have h5 : 40 < (n : Int) := by unfold Small at h; omega
          clear h
          go_enter Try.func25, Try.ntmps25
          go_wp2_with fail
          go_ret
          exact ⟨ret_bool (decide_eq_false (by omega)), rfl⟩
        · clear h
          go_enter Try.func25, Try.ntmps25
          go_wp2_with fail
          go_ret
          exact ⟨rfl, rfl⟩
      · clear h
        go_enter Try.func25, Try.ntmps25
        go_wp2_with fail
        go_ret
        exact ⟨rfl, rfl⟩
    · clear h
      go_enter Try.func25, Try.ntmps25
      go_wp2_with fail
      go_ret
      exact ⟨rfl, rfl⟩
  · clear h
    go_enter Try.func25, Try.ntmps25
    go_wp2_with fail
    go_ret
    exact ⟨rfl, rfl⟩
end
section
variable {H : Type} {enc : TypeId × Value → H} {w : World} {sp : Nat → Bool} {held : Bool} {fuel : Nat} {cs : List Value} {x : DataW H × List MemPlace}
theorem open_boolsV (h : DataW.trod enc Try.prog w 0 sp held fuel 46 cs = some x) : ∃ v l, cs = [v] ∧ BoolsV w (fun k => k < w.heap.size) v l :=
  open_one Value.bool Try.underlying46 (by kernel_rfl) (fun fuel cs x h => by
    obtain ⟨n, rfl, _⟩ := DataW.trod_bool Try.underlying4 h
    exact ⟨n, rfl⟩) h
theorem open_op (h : DataW.trod enc Try.prog w 0 sp held fuel 50 cs = some x) : ∃ o, OpV w (fun k => k < w.heap.size) cs o := by
  obtain ⟨xs, n, _, _, hlen, _, hf⟩ := DataW.trod_struct Try.underlying50 h
  have hc : Try.prog.cellsOf 50 = 6 := by kernel_rfl
  rw [hc] at hlen
  obtain ⟨c0, c1, c2, c3, c4, c5, rfl⟩ : ∃ c0 c1 c2 c3 c4 c5, cs = [c0, c1, c2, c3, c4, c5] := by
    match cs, hlen with
    | [c0, c1, c2, c3, c4, c5], _ => exact ⟨_, _, _, _, _, _, rfl⟩
  have k1 : Try.prog.cellsOf 3 = 1 := by kernel_rfl
  have k2 : Try.prog.cellsOf 22 = 1 := by kernel_rfl
  have k3 : Try.prog.cellsOf 46 = 1 := by kernel_rfl
  have k4 : Try.prog.cellsOf 5 = 1 := by kernel_rfl
  have g : ∀ i (h : i < xs.length), xs[i]? = some xs[i] := fun i h => List.getElem?_eq_getElem h
  have f0 : DataW.trod enc Try.prog w 0 sp held n 3 (([c0, c1, c2, c3, c4, c5].drop 0).take (Try.prog.cellsOf 3)) = xs[0]? := hf 0 _ rfl
  have f1 : DataW.trod enc Try.prog w 0 sp held n 3 (([c0, c1, c2, c3, c4, c5].drop 1).take (Try.prog.cellsOf 3)) = xs[1]? := hf 1 _ rfl
  have f2 : DataW.trod enc Try.prog w 0 sp held n 22 (([c0, c1, c2, c3, c4, c5].drop 2).take (Try.prog.cellsOf 22)) = xs[2]? := hf 2 _ rfl
  have f3 : DataW.trod enc Try.prog w 0 sp held n 3 (([c0, c1, c2, c3, c4, c5].drop 3).take (Try.prog.cellsOf 3)) = xs[3]? := hf 3 _ rfl
  have f4 : DataW.trod enc Try.prog w 0 sp held n 46 (([c0, c1, c2, c3, c4, c5].drop 4).take (Try.prog.cellsOf 46)) = xs[4]? := hf 4 _ rfl
  have f5 : DataW.trod enc Try.prog w 0 sp held n 5 (([c0, c1, c2, c3, c4, c5].drop 5).take (Try.prog.cellsOf 5)) = xs[5]? := hf 5 _ rfl

  rw [k1] at f0 f1 f3
  rw [k2] at f2
  rw [k3] at f4
  rw [k4] at f5
  rw [g 0 (by simp_all)] at f0
  rw [g 1 (by simp_all)] at f1
  rw [g 2 (by simp_all)] at f2
  rw [g 3 (by simp_all)] at f3
  rw [g 4 (by simp_all)] at f4
  rw [g 5 (by simp_all)] at f5
  obtain ⟨a0, e0, _, w0⟩ := DataW.trod_int Try.underlying3 f0
  obtain ⟨a1, e1, _, w1⟩ := DataW.trod_int Try.underlying3 f1
  obtain ⟨v2, l2, e2, h2⟩ := open_bytes f2
  obtain ⟨a3, e3, _, w3⟩ := DataW.trod_int Try.underlying3 f3
  obtain ⟨v4, l4, e4, h4⟩ := open_boolsV f4
  obtain ⟨a5, e5, _, w5⟩ := DataW.trod_int Try.underlying5 f5
  obtain ⟨b5, rfl⟩ := u8_of w5
  simp at e0 e1 e2 e3 e4 e5
  subst e0; subst e1; subst e2; subst e3; subst e4; subst e5
  exact ⟨⟨a0, a1, l2, a3, l4, b5⟩, ⟨(i64_of w0).1, (i64_of w0).2, (i64_of w1).1, (i64_of w1).2, (i64_of w3).1, (i64_of w3).2⟩, _, _, rfl, h2, h4⟩
/-- A list of elements of several cells, each read by R. -/
theorem list_of {α : Type} (R : List Value → α → Prop) : ∀ (ES : List (List Value)), (∀ E ∈ ES, ∃ a, R E a) → ∃ l : List α, l.length = ES.length ∧ ∀ i (h : i < l.length) (h' : i < ES.length), R ES[i] l[i]
  | [], _ => ⟨[], rfl, fun i h => absurd h (by simp)⟩
  | E :: ES, h => by
    obtain ⟨a, ha⟩ := h E (by simp)
    obtain ⟨l, hl, hr⟩ := list_of R ES (fun E hE => h E (by simp [hE]))
    refine ⟨a :: l, by simp [hl], fun i h1 h2 => ?_⟩
    cases i with
    | zero => exact ha
    | succ i => exact hr i (by simpa using h1) (by simpa using h2)
theorem open_opsV (h : DataW.trod enc Try.prog w 0 sp held fuel 44 cs = some x) : ∃ v l, cs = [v] ∧ OpsV w (fun k => k < w.heap.size) v l := by
  obtain ⟨a, len, cap, ES, rfl, hE, h1, h2, h3, h4⟩ := open_list (fun cs => ∃ o, OpV w (fun k => k < w.heap.size) cs o) Try.underlying44 6 (by kernel_rfl) (by omega) (fun _ _ _ h => open_op h) h
  by_cases h0 : 0 < len
  · obtain ⟨b, o, rfl, hb, hel⟩ := h4 h0
    obtain ⟨l, hl, hr⟩ := list_of (fun E o => OpV w (fun k => k < w.heap.size) E o) ES (fun E hE => by
      obtain ⟨i, hi, rfl⟩ := List.getElem_of_mem hE
      exact (hel i _ (List.getElem?_eq_getElem hi)).1)
    obtain rfl : l.length = len := by omega
    refine ⟨_, l, rfl, _, cap, rfl, h1, h2, h3, fun _ => ⟨b, o, rfl, hb, fun i hi => ⟨ES[i], hr i hi (by omega), fun j hj => ?_⟩⟩⟩
    exact (hel i _ (List.getElem?_eq_getElem (by omega))).2 j hj
  · obtain rfl : len = 0 := by omega
    exact ⟨_, [], rfl, a, cap, rfl, h1, h2, h3, fun h => absurd h (by simp)⟩
end
end Go.Proofs.Ytibojbbhffoldaa
