/- The operations of Sha256State opened, and the contract of 'few'. -/
import Derived.Test.YtiakmpnmooobbaaDoorOpenW
import Derived.Test.YtiakmpnmooobbaaDoorJoins
namespace Go.Proofs.YtiakmpnmooobbaaDoor
open Go.RowKit Go.Deep
structure Op3 where
  state : Int
  kind : Int
  x : List UInt8
structure Op3.Fits (o : Op3) : Prop where
  s0 : -9223372036854775808 ≤ o.state
  s1 : o.state ≤ 9223372036854775807
  k0 : -9223372036854775808 ≤ o.kind
  k1 : o.kind ≤ 9223372036854775807
  xl : o.x.length ≤ 140737488351232
def OpV3 (w : World) (F : Nat → Prop) (E : List Value) (o : Op3) : Prop :=
  o.Fits ∧ ∃ dv, E = [.int .i64 o.state, .int .i64 o.kind, dv] ∧ BV w F dv o.x
/-- The slice value v reads as the operations l. -/
def OpsV3 (w : World) (F : Nat → Prop) (v : Value) (l : List Op3) : Prop :=
  ∃ a c, v = .slice a l.length c ∧ l.length ≤ c ∧ c ≤ maxLen ∧ (a = none → c = 0) ∧
    (0 < l.length → ∃ b o, a = some ⟨b, o, none⟩ ∧ F b ∧ ∀ i, (h : i < l.length) → ∃ E, OpV3 w F E l[i] ∧ ∀ j, j < 3 → w.cell? ⟨b, o + i * 3 + j, none⟩ = E[j]?)
section
variable {F G : Nat → Prop} {w w' : World} {v : Value} {l : List Op3} {E : List Value} {o : Op3}
theorem OpV3.same (h : OpV3 w F E o) (hs : Same F w w') : OpV3 w' F E o := by
  obtain ⟨hf, dv, e, h1⟩ := h; exact ⟨hf, dv, e, h1.same hs⟩
theorem OpsV3.same (h : OpsV3 w F v l) (hs : Same F w w') : OpsV3 w' F v l := by
  obtain ⟨a, c, e, h1, h2, h3, h4⟩ := h
  refine ⟨a, c, e, h1, h2, h3, fun hp => ?_⟩
  obtain ⟨b, o, e2, hb, hc⟩ := h4 hp
  refine ⟨b, o, e2, hb, fun i hi => ?_⟩
  obtain ⟨E, hE, hj⟩ := hc i hi
  exact ⟨E, hE.same hs, fun j h => (hs.cell (p := ⟨b, o + i * 3 + j, none⟩) hb).trans (hj j h)⟩
theorem OpsV3.get (h : OpsV3 w F v l) : ∃ a c, v = .slice a l.length c ∧ l.length ≤ c ∧ c ≤ maxLen ∧ ∀ i, (hi : i < l.length) → ∃ b o dv, a = some ⟨b, o, none⟩ ∧ F b ∧ l[i].Fits ∧ BV w F dv l[i].x ∧
    w.cell? ⟨b, o + i * 3, none⟩ = some (.int .i64 l[i].state) ∧ w.cell? ⟨b, o + i * 3 + 1, none⟩ = some (.int .i64 l[i].kind) ∧ w.cell? ⟨b, o + i * 3 + 2, none⟩ = some dv := by
  obtain ⟨a, c, e, h1, h2, h3, h4⟩ := h
  refine ⟨a, c, e, h1, h2, fun i hi => ?_⟩
  obtain ⟨b, o, e2, hF, hc⟩ := h4 (by omega)
  obtain ⟨E, ⟨hf, dv, rfl, hd⟩, hj⟩ := hc i hi
  exact ⟨b, o, dv, e2, hF, hf, hd, hj 0 (by omega), hj 1 (by omega), hj 2 (by omega)⟩
end
section
variable {H : Type} {enc : TypeId × Value → H} {w : World} {sp : Nat → Bool} {held : Bool} {fuel : Nat} {cs : List Value} {x : DataW H × List MemPlace}
theorem bytes_of_op : Tryd.prog.bytesOf 5 = 1 := by kernel_rfl
theorem open_bytesW (h : DataW.trod enc Tryd.prog w 0 sp held fuel 22 cs = some x) (hB : ∀ z ∈ x.1.weights Tryd.prog 22, z ≤ reachBytes) :
    ∃ v l, cs = [v] ∧ BV w (fun k => k < w.heap.size) v l ∧ l.length ≤ 140737488351232 := by
  obtain ⟨v, l, h1, h2, _, h4⟩ := open_one_w (fun b : UInt8 => .int .u8 (b.toNat : Int)) (fun _ => True) Tryd.underlying22 (by kernel_rfl) (fun fuel cs x h _ => by
    obtain ⟨n, rfl, _, hw⟩ := DataW.trod_int Tryd.underlying5 h
    obtain ⟨b, rfl⟩ := u8_of hw
    exact ⟨b, rfl, trivial⟩) h hB
  rw [bytes_of_op, Nat.mul_one] at h4
  unfold reachBytes at h4
  exact ⟨v, l, h1, h2, h4⟩
theorem open_op3 (h : DataW.trod enc Tryd.prog w 0 sp held fuel 47 cs = some x) (hB : ∀ z ∈ x.1.weights Tryd.prog 47, z ≤ reachBytes) : ∃ o, OpV3 w (fun k => k < w.heap.size) cs o := by
  obtain ⟨xs, n, _, hxx, hlen, hxl, hf⟩ := DataW.trod_struct Tryd.underlying47 h
  have hc : Tryd.prog.cellsOf 47 = 3 := by kernel_rfl
  rw [hc] at hlen
  obtain ⟨c0, c1, c2, rfl⟩ : ∃ c0 c1 c2, cs = [c0, c1, c2] := by
    match cs, hlen with
    | [c0, c1, c2], _ => exact ⟨_, _, _, rfl⟩
  have k1 : Tryd.prog.cellsOf 3 = 1 := by kernel_rfl
  have k2 : Tryd.prog.cellsOf 22 = 1 := by kernel_rfl
  have f0 : DataW.trod enc Tryd.prog w 0 sp held n 3 (([c0, c1, c2].drop 0).take (Tryd.prog.cellsOf 3)) = xs[0]? := hf 0 _ rfl
  have f1 : DataW.trod enc Tryd.prog w 0 sp held n 3 (([c0, c1, c2].drop 1).take (Tryd.prog.cellsOf 3)) = xs[1]? := hf 1 _ rfl
  have f2 : DataW.trod enc Tryd.prog w 0 sp held n 22 (([c0, c1, c2].drop 2).take (Tryd.prog.cellsOf 22)) = xs[2]? := hf 2 _ rfl
  have hx3 : xs.length = 3 := by simpa using hxl
  obtain ⟨x0, x1, x2, rfl⟩ : ∃ x0 x1 x2, xs = [x0, x1, x2] := by
    match xs, hx3 with
    | [x0, x1, x2], _ => exact ⟨_, _, _, rfl⟩
  rw [k1] at f0 f1
  rw [k2] at f2
  obtain ⟨a0, e0, _, w0⟩ := DataW.trod_int Tryd.underlying3 f0
  obtain ⟨a1, e1, _, w1⟩ := DataW.trod_int Tryd.underlying3 f1
  obtain ⟨v2, l2, e2, h2, h3⟩ := open_bytesW f2 (fun z hz => hB z (by
    rw [hxx]
    simp only [DataW.weights, Tryd.underlying47]
    exact mem_weightsEach _ _ 2 rfl rfl hz))
  simp at e0 e1 e2
  subst e0; subst e1; subst e2
  exact ⟨⟨a0, a1, l2⟩, ⟨(i64_of w0).1, (i64_of w0).2, (i64_of w1).1, (i64_of w1).2, h3⟩, _, rfl, h2⟩
/-- A list of elements of several cells, each read by R. -/
theorem list_of {α : Type} (R : List Value → α → Prop) : ∀ (ES : List (List Value)), (∀ E ∈ ES, ∃ a, R E a) → ∃ l : List α, l.length = ES.length ∧ ∀ i (h : i < l.length) (h' : i < ES.length), R ES[i] l[i]
  | [], _ => ⟨[], rfl, fun i h => absurd h (by simp)⟩
  | E :: ES, h => by
    obtain ⟨a, ha⟩ := h E (by simp)
    obtain ⟨l, hl, hr⟩ := list_of R ES (fun E hE => h E (by simp [hE]))
    refine ⟨a :: l, by simp [hl], fun i h1 h2 => ?_⟩
    cases i with
    | zero => exact ha
    | succ i => exact hr i (by simpa using h1) (by simpa using h2)
theorem open_ops03W (h : DataW.trod enc Tryd.prog w 0 sp held fuel 42 cs = some x) (hB : ∀ z ∈ x.1.weights Tryd.prog 42, z ≤ reachBytes) : ∃ v l, cs = [v] ∧ OpsV3 w (fun k => k < w.heap.size) v l ∧ True := by
  obtain ⟨a, len, cap, ES, rfl, hE, h1, h2, h3, _, h4⟩ := open_list_w (fun cs => ∃ o, OpV3 w (fun k => k < w.heap.size) cs o) Tryd.underlying42 3 (by kernel_rfl) (by omega) (fun _ _ _ h hB => open_op3 h hB) h hB
  by_cases h0 : 0 < len
  · obtain ⟨b, o, rfl, hb, hel⟩ := h4 h0
    obtain ⟨l, hl, hr⟩ := list_of (fun E o => OpV3 w (fun k => k < w.heap.size) E o) ES (fun E hE => by
      obtain ⟨i, hi, rfl⟩ := List.getElem_of_mem hE
      exact (hel i _ (List.getElem?_eq_getElem hi)).1)
    obtain rfl : l.length = len := by omega
    refine ⟨_, l, rfl, ⟨_, cap, rfl, h1, h2, h3, fun _ => ⟨b, o, rfl, hb, fun i hi => ⟨ES[i], hr i hi (by omega), fun j hj => ?_⟩⟩⟩, trivial⟩
    exact (hel i _ (List.getElem?_eq_getElem (by omega))).2 j hj
  · obtain rfl : len = 0 := by omega
    exact ⟨_, [], rfl, ⟨a, cap, rfl, h1, h2, h3, fun h => absurd h (by simp)⟩, trivial⟩
end
/-- The bytes of all operations. -/
def Xs (l : List Op3) : Nat := (l.map fun o => o.x.length).sum
theorem Xs_take (l : List Op3) (k : Nat) (hk : k < l.length) : Xs (l.take (k + 1)) = Xs (l.take k) + l[k].x.length := by
  unfold Xs; rw [List.take_succ_eq_append_getElem hk, List.map_append, List.sum_append]; simp
theorem Xs_take_le (l : List Op3) (k : Nat) : Xs (l.take k) ≤ Xs l := by
  have h : Xs l = Xs (l.take k) + Xs (l.drop k) := by
    unfold Xs; rw [← List.sum_append, ← List.map_append, List.take_append_drop]
  omega
theorem Xs_le (l : List Op3) (B : Nat) (h : ∀ o ∈ l, o.x.length ≤ B) : Xs l ≤ l.length * B := by
  induction l with
  | nil => simp [Xs]
  | cons a l ih =>
    have h1 := ih (fun s hs => h s (List.mem_cons_of_mem _ hs))
    have h2 := h a (List.mem_cons_self)
    have e : Xs (a :: l) = a.x.length + Xs l := by unfold Xs; simp
    rw [e, List.length_cons, Nat.add_mul]; omega
def Few (l : List Op3) : Prop := l.length ≤ 20 ∧ Xs l ≤ 600
section
variable {F : Nat → Prop} {w : World} {v : Value} {l : List Op3}
def FewIs (l : List Op3) (w : World) (e : Ending) (w' : World) : Prop := w = w' ∧ ((Few l ∧ e = .returned (.bool true)) ∨ (¬ Few l ∧ e = .returned (.bool false)))
set_option maxHeartbeats 1000000 in
theorem few_any (hx : OpsV3 w F v l) : Calls Tryd.prog 25 #[v] w (FewIs l w) := by
  obtain ⟨a, c, rfl, c1, c2, hget⟩ := hx.get
  unfold maxLen at c2
  have hps : ∀ o ∈ l, o.x.length ≤ 140737488351232 := fun o ho => by
    obtain ⟨i, hi, rfl⟩ := List.getElem_of_mem ho
    obtain ⟨_, _, _, _, _, hf, _⟩ := hget i hi
    exact hf.xl
  have HGET := Lib.hid hget
  have HPS := Lib.hid hps
  clear hx hget hps
  go_enter Tryd.func25, Tryd.ntmps25
  go_wp2_with fail
  go_loop [3, 4] (fun sn i => ∃ (k : Nat) (z : Int), k ≤ l.length ∧ i = .int .i64 (k : Int) ∧ sn = .int .i64 z ∧ (k ≤ 20 → z = (Xs (l.take k) : Int))) (fun _ i => l.length - (intOf i).toNat)
  case atStart => exact ⟨0, 0, by omega, rfl, rfl, fun _ => rfl⟩
  case round =>
    obtain ⟨k, z, hk, rfl, rfl, hz⟩ := hrel
    by_cases hlt : k < l.length
    · have ik : (k : Int) < (l.length : Int) := by omega
      obtain ⟨ob, oo, dv, rfl, _, hf, hbv, _, _, hc⟩ := HGET.out k hlt
      obtain ⟨da, dc, rfl, _, _, _⟩ := hbv.get
      have htk := Xs_take l k hlt
      have hsz := hf.xl
      obtain ⟨n, hn⟩ : ∃ n, l[k].x.length = n := ⟨_, rfl⟩
      rw [hn] at hc htk hsz
      have Htk := Lib.hid htk
      clear htk hn hbv hf
      by_cases h8 : k < 20
      · have hz2 := hz (by omega)
        have hbd : Xs (l.take k) ≤ 20 * 140737488351232 := by
          have h1 := Xs_le (l.take k) 140737488351232 (fun s hs => HPS.out s (List.mem_of_mem_take hs))
          rw [List.length_take] at h1
          have : min k l.length ≤ 20 := by omega
          exact Nat.le_trans h1 (Nat.mul_le_mul_right _ this)
        obtain ⟨m, hm⟩ : ∃ m, Xs (l.take k) = m := ⟨_, rfl⟩
        rw [hm] at hz2 hbd Htk
        subst hz2
        clear hz hm
        go_wp2_with fail
        go_round
        case rel => exact ⟨k + 1, (m : Int) + (n : Int), by omega, by go_num, rfl, fun _ => by rw [Htk.out]; push_cast; rfl⟩
        case measure => simp [intOf]; omega
      · clear hz
        go_wp2_with fail
        go_round
        case rel => exact ⟨k + 1, _, by omega, by go_num, rfl, fun h => by omega⟩
        case measure => simp [intOf]; omega
    · have e8 : k = l.length := by omega
      rw [e8, List.take_length] at hz
      rw [show (k : Int) = (l.length : Int) from by omega]
      have Hz := Lib.hid hz
      clear hz e8 hk hlt
      by_cases hlen : 20 < l.length
      · have il : ¬ (l.length : Int) ≤ 20 := by omega
        have il2 : (20 : Int) < (l.length : Int) := by omega
        go_wp2_with fail
        go_ret
        exact ⟨rfl, .inr ⟨fun h => by have := h.1; omega, rfl⟩⟩
      have il : (l.length : Int) ≤ 20 := by omega
      obtain rfl := Hz.out (by omega)
      obtain ⟨n, hn⟩ : ∃ n, Xs l = n := ⟨_, rfl⟩
      rw [hn]
      have Hn := Lib.hid hn
      clear hn Hz hlen
      by_cases h3 : 600 < n
      · have i3 : (600 : Int) < (n : Int) := by omega
        go_wp2_with fail
        go_ret
        exact ⟨rfl, .inr ⟨fun h => by have := h.2; have := Hn.out; omega, ret_bool (decide_eq_false (by omega))⟩⟩
      have i3 : (n : Int) ≤ 600 := by omega
      go_wp2_with fail
      go_ret
      exact ⟨rfl, .inl ⟨⟨by omega, by have := Hn.out; omega⟩, by first | rfl | exact ret_bool (decide_eq_true (by omega))⟩⟩
end
end Go.Proofs.YtiakmpnmooobbaaDoor
