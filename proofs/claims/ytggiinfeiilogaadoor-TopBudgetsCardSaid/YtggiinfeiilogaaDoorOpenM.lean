/- Arguments opened: messages, lists of messages, lists of ints. -/
import Derived.Test.YtggiinfeiilogaaDoorOpenV
import Derived.Test.YtggiinfeiilogaaDoorFrL
namespace Go.Proofs.YtggiinfeiilogaaDoor
open Go.RowKit Go.Deep
section
variable {H : Type} {enc : TypeId × Value → H} {w : World} {sp : Nat → Bool} {held : Bool} {fuel : Nat} {cs : List Value} {x : DataW H × List MemPlace}
theorem open_intsV (h : DataW.trod enc Tryd.prog w 0 sp held fuel 62 cs = some x) : ∃ v l, cs = [v] ∧ IntsV w (fun k => k < w.heap.size) v l :=
  open_one (Value.int .i64) Tryd.underlying62 (by kernel_rfl) (fun fuel cs x h => by
    obtain ⟨n, rfl, _, _⟩ := DataW.trod_int Tryd.underlying3 h
    exact ⟨n, rfl⟩) h
theorem open_msg (h : DataW.trod enc Tryd.prog w 0 sp held fuel 32 cs = some x) : ∃ m : Fr.Msg, ∃ v, cs = [.int .i64 m.1, v] ∧ BV w (fun k => k < w.heap.size) v m.2 := by
  obtain ⟨xs, n, _, _, hlen, _, hf⟩ := DataW.trod_struct Tryd.underlying32 h
  have hc : Tryd.prog.cellsOf 32 = 2 := by kernel_rfl
  rw [hc] at hlen
  obtain ⟨c0, c1, rfl⟩ : ∃ c0 c1, cs = [c0, c1] := by
    clear hf hc h
    rcases cs with _ | ⟨c0, _ | ⟨c1, _ | ⟨c2, r⟩⟩⟩
    · simp at hlen
    · simp at hlen
    · exact ⟨_, _, rfl⟩
    · simp at hlen
  have k1 : Tryd.prog.cellsOf 3 = 1 := by kernel_rfl
  have k2 : Tryd.prog.cellsOf 30 = 1 := by kernel_rfl
  have g : ∀ i (h : i < xs.length), xs[i]? = some xs[i] := fun i h => List.getElem?_eq_getElem h
  have f0 : DataW.trod enc Tryd.prog w 0 sp held n 3 (([c0, c1].drop 0).take (Tryd.prog.cellsOf 3)) = xs[0]? := hf 0 _ rfl
  have f1 : DataW.trod enc Tryd.prog w 0 sp held n 30 (([c0, c1].drop 1).take (Tryd.prog.cellsOf 30)) = xs[1]? := hf 1 _ rfl
  rw [k1] at f0
  rw [k2] at f1
  rw [g 0 (by simp_all)] at f0
  rw [g 1 (by simp_all)] at f1
  obtain ⟨a0, e0, _, w0⟩ := DataW.trod_int Tryd.underlying3 f0
  obtain ⟨v1, l1, e1, h1⟩ := open_bytes f1
  simp at e0 e1
  subst e0; subst e1
  exact ⟨(a0, l1), _, rfl, h1⟩
theorem open_msgsV (h : DataW.trod enc Tryd.prog w 0 sp held fuel 22 cs = some x) : ∃ v l, cs = [v] ∧ MsV w (fun k => k < w.heap.size) v l := by
  obtain ⟨a, len, cap, ES, rfl, hE, h1, h2, h3, h4⟩ := open_list (fun cs => ∃ m : Fr.Msg, ∃ v, cs = [.int .i64 m.1, v] ∧ BV w (fun k => k < w.heap.size) v m.2) Tryd.underlying22 2 (by kernel_rfl) (by omega) (fun _ _ _ h => open_msg h) h
  by_cases h0 : 0 < len
  · obtain ⟨b, o, rfl, hb, hel⟩ := h4 h0
    obtain ⟨l, hl, hr⟩ := list_of (fun E (m : Fr.Msg) => ∃ v, E = [.int .i64 m.1, v] ∧ BV w (fun k => k < w.heap.size) v m.2) ES (fun E hE => by
      obtain ⟨i, hi, rfl⟩ := List.getElem_of_mem hE
      exact (hel i _ (List.getElem?_eq_getElem hi)).1)
    obtain rfl : l.length = len := by omega
    refine ⟨_, l, rfl, _, cap, rfl, h1, h2, h3, fun _ => ⟨b, o, rfl, hb, fun i hi => ?_⟩⟩
    obtain ⟨v, hv, hbv⟩ := hr i hi (by omega)
    have q0 := (hel i _ (List.getElem?_eq_getElem (by omega))).2 0 (by omega)
    have q1 := (hel i _ (List.getElem?_eq_getElem (by omega))).2 1 (by omega)
    rw [hv] at q0 q1
    exact ⟨v, by simpa using q0, by simpa using q1, hbv⟩
  · obtain rfl : len = 0 := by omega
    exact ⟨_, [], rfl, a, cap, rfl, h1, h2, h3, fun h => absurd h (by simp)⟩
end
end Go.Proofs.YtggiinfeiilogaaDoor
