/- Contracts of package disk's operations: New, the getters, Fail. -/
import Derived.Test.YtcpcnfedbffecaaDoorDiskF
namespace Go.Proofs.YtcpcnfedbffecaaDoor
open Go.RowKit Go.Maps

theorem new_at (n size : Nat) (w : World) (h1 : 1 ≤ n) (h2 : n ≤ 65536) (h3 : 1 ≤ size) (h4 : size ≤ 4096) :
    DiskAt (((w.alloc (.cells (List.replicate n (.slice none 0 0)).toArray 39)).alloc (.map #[] 0)).alloc
      (.cells #[.int .i64 (size : Int), .slice (some ⟨w.heap.size, 0, none⟩) n n, .slice none 0 0, .map (some (w.heap.size + 1)), .int .i64 (-1), .bool false] 52))
      (DSt.new n size) (w.heap.size + 1 + 1) (fun k => w.heap.size ≤ k ∧ k < w.heap.size + 3) := by
  refine ⟨w.heap.size, w.heap.size + 1, List.replicate n (.slice none 0 0), .slice none 0 0, [], .map [], ?_⟩
  refine ⟨DSt.new_ok h3 h4 h1 h2, (fun k hk => by simp; omega), by omega, by omega, by omega, (fun g hg => by cases hg), ?_, ?_, ?_, ?_, All2.nil, ?_, ?_⟩
  · have e : (DSt.new n size).dur.length = n := by simp [DSt.new]
    rw [e]
    exact Blk.newAt ((w.alloc _).alloc _) _ _ (by simp)
  · exact ((Blk.new w _ _).alloc _).alloc _
  · refine ⟨by simp [DSt.new], fun i a b ha hb => ?_⟩
    simp only [DSt.new, List.getElem?_replicate] at ha hb
    by_cases hi : i < n
    · rw [if_pos hi] at ha hb
      simp only [Option.some.injEq] at ha hb
      exact .inl ⟨ha.symm, hb.symm⟩
    · rw [if_neg hi] at ha; cases ha
  · exact World.ownsRow_nil _ _ _ _
  · exact ownsMap_at (by simp) _
  · refine ⟨isMap_empty, fun k _ => ?_⟩
    simp [DSt.new, DSt.lastIdx, Maps.has]

/-- What the call leaves: a new object, apart from all that was there. -/
def NewP (w : World) (n size : Nat) (e : Ending) (w' : World) : Prop :=
  ∃ b, e = .returned (.tuple #[.pointer (some ⟨b, 0, none⟩), .int .i64 0]) ∧ Below w.heap.size w w' ∧ DiskAt w' (DSt.new n size) b (fun k => w.heap.size ≤ k ∧ k < w'.heap.size)
set_option maxHeartbeats 400000 in
theorem new_yes (n size : Nat) (w : World) (h1 : 1 ≤ n) (h2 : n ≤ 65536) (h3 : 1 ≤ size) (h4 : size ≤ 4096) :
    Calls Tryd.prog 8 #[.int .i64 (n : Int), .int .i64 (size : Int)] w (NewP w n size) := by
  have hmm := @run_makeMap Tryd.prog
  go_enter Tryd.func8, Tryd.ntmps8
  go_wp2_with (at_make; refine wpList_make_n rfl _ _ _ rfl 39 (.slice none 0 0) 24 n n Tryd.underlying32 Tryd.infoRow rfl rfl rfl (Nat.le_refl _) (by omega) (by unfold maxLen; omega) ?_)
  go_ret2
  refine ⟨_, rfl, ?_, ?_⟩
  · exact (((Below.refl _ _).alloc (Nat.le_refl _) _).alloc (by simp) _).alloc (by simp; omega) _
  · refine (new_at n size w h1 h2 h3 h4).mono (fun k hk => ⟨hk.1, by simp; omega⟩) (fun k hk => hk.2)

set_option maxHeartbeats 400000 in
theorem new_no (n size : Int) (w : World) (h : n < 1 ∨ 65536 < n ∨ size < 1 ∨ 4096 < size) :
    Calls Tryd.prog 8 #[.int .i64 n, .int .i64 size] w fun e w' => e = .returned (.tuple #[.pointer none, .int .i64 1]) ∧ w = w' := by
  by_cases c1 : n < 1
  · go_enter Tryd.func8, Tryd.ntmps8
    go_wp2
    go_ret2
    exact ⟨rfl, rfl⟩
  · by_cases c2 : 65536 < n
    · go_enter Tryd.func8, Tryd.ntmps8
      go_wp2
      go_ret2
      exact ⟨rfl, rfl⟩
    · by_cases c3 : size < 1
      · go_enter Tryd.func8, Tryd.ntmps8
        go_wp2
        go_ret2
        exact ⟨rfl, rfl⟩
      · have c4 : 4096 < size := by omega
        go_enter Tryd.func8, Tryd.ntmps8
        go_wp2
        go_ret2
        exact ⟨rfl, rfl⟩

section
variable {w : World} {s : DSt} {b : Nat} {F : Nat → Prop}
set_option maxHeartbeats 400000 in
theorem size_any (h : DiskAt w s b F) : Calls Tryd.prog 23 #[.pointer (some ⟨b, 0, none⟩)] w fun e w' => e = .returned (.int .i64 (s.size : Int)) ∧ w = w' := by
  obtain ⟨bd, bm, dvs, pv, pvs, D, h⟩ := h
  have c0 := h.cells.cell (i := 0) rfl
  go_enter Tryd.func23, Tryd.ntmps23
  go_wp2
  go_ret
  exact ⟨rfl, rfl⟩
set_option maxHeartbeats 400000 in
theorem sectors_any (h : DiskAt w s b F) : Calls Tryd.prog 20 #[.pointer (some ⟨b, 0, none⟩)] w fun e w' => e = .returned (.int .i64 (s.dur.length : Int)) ∧ w = w' := by
  obtain ⟨bd, bm, dvs, pv, pvs, D, h⟩ := h
  have c0 := h.cells.cell (i := 1) rfl
  go_enter Tryd.func20, Tryd.ntmps20
  go_wp2
  go_ret
  exact ⟨rfl, rfl⟩
set_option maxHeartbeats 400000 in
theorem down_any (h : DiskAt w s b F) : Calls Tryd.prog 24 #[.pointer (some ⟨b, 0, none⟩)] w fun e w' => e = .returned (.bool s.down) ∧ w = w' := by
  obtain ⟨bd, bm, dvs, pv, pvs, D, h⟩ := h
  have c0 := h.cells.cell (i := 5) rfl
  go_enter Tryd.func24, Tryd.ntmps24
  go_wp2
  go_ret
  exact ⟨rfl, rfl⟩
theorem DiskRep.pvForm {bd bm : Nat} {dvs : List Value} {pv : Value} {pvs : List (Nat × Value)} {D : DataW Unit} (h : DiskRep w s b F bd bm dvs pv pvs D) : ∃ a c, pv = .slice a s.pend.length c := by
  rcases h.pend.2 with ⟨e, h0⟩ | ⟨g, cap, cur, e, _⟩
  · exact ⟨none, 0, by rw [e, h0]⟩
  · exact ⟨_, _, e⟩
/-- What an operation on a disk leaves: its result, the new state, and nothing else turned. -/
def DiskP (w : World) (b : Nat) (F : Nat → Prop) (s' : DSt) (v : Value) (e : Ending) (w' : World) : Prop :=
  e = .returned v ∧ Stp F w w' ∧ DiskAt w' s' b (Plus F w w')
theorem DiskRep.failTurn {bd bm : Nat} {dvs : List Value} {pv : Value} {pvs : List (Nat × Value)} {D : DataW Unit} (h : DiskRep w s b F bd bm dvs pv pvs D) (hd : s.down = false) (n m : Int) (hm : m = max n (-1)) (hn : m ≤ 9223372036854775807) :
    Stp F w (w.setCell ⟨b, 4, none⟩ (.int .i64 m)) ∧ DiskAt (w.setCell ⟨b, 4, none⟩ (.int .i64 m)) (s.fail n) b (Plus F w (w.setCell ⟨b, 4, none⟩ (.int .i64 m))) := by
  have st : Stp F w (w.setCell ⟨b, 4, none⟩ (.int .i64 m)) := (Stp.refl F w).set (.inl (.inl h.Fb)) _
  refine ⟨st, ?_⟩
  have := h.turn (w' := w.setCell ⟨b, 4, none⟩ (.int .i64 m)) (fun k hk => Below.heap_setCell _ _ _ _ hk) (by simp) m s.down (by omega) hn (by simpa using h.cells.set 4 (.int .i64 m))
  have e : s.fail n = { s with after := m, down := s.down } := by simp [DSt.fail, hd, hm]
  rw [e]
  exact DiskAt.mono ⟨_, _, _, _, _, _, this⟩ (fun k hk => .inl hk) (Plus.inn h.inn st.size)
set_option maxHeartbeats 400000 in
theorem fail_any (h : DiskAt w s b F) (n : Int) (hn : n ≤ 9223372036854775807) :
    Calls Tryd.prog 15 #[.pointer (some ⟨b, 0, none⟩), .int .i64 n] w (DiskP w b F (s.fail n) (.tuple #[])) := by
  obtain ⟨bd, bm, dvs, pv, pvs, D, h⟩ := h
  have c4 := h.cells.cell (i := 4) rfl
  have c5 := h.cells.cell (i := 5) rfl
  have f4 := h.cells.free 4
  have hm : n < -1 ∨ -1 ≤ n := by omega
  cases hd : s.down
  · rw [hd] at c5
    have T1 := Lib.hid (h.failTurn hd n (-1))
    have T2 := Lib.hid (h.failTurn hd n n)
    have hd' := Lib.hid hd
    clear hd h
    rcases hm with hm | hm
    · go_enter Tryd.func15, Tryd.ntmps15
      go_wp2
      go_end0
      exact ⟨rfl, T1.out (by omega) (by omega)⟩
    · go_enter Tryd.func15, Tryd.ntmps15
      go_wp2
      go_end0
      exact ⟨rfl, T2.out (by omega) (by omega)⟩
  · rw [hd] at c5
    have e : s.fail n = s := by simp [DSt.fail, hd]
    have hA : DiskAt w s b (Plus F w w) := DiskAt.mono ⟨_, _, _, _, _, _, h⟩ (fun k hk => .inl hk) (Plus.inn h.inn (Nat.le_refl _))
    rw [e]
    clear hd h e
    go_enter Tryd.func15, Tryd.ntmps15
    go_wp2
    go_end0
    exact ⟨rfl, Stp.refl _ _, hA⟩
end
end Go.Proofs.YtcpcnfedbffecaaDoor
