/- Contract of (*Disk).Read. -/
import Derived.Test.YtcpcnfedbffecaaDoorDiskX
namespace Go.Proofs.YtcpcnfedbffecaaDoor
open Go.RowKit Go.Maps
/-- v is the nil slice and l is empty, or v is a slice over a whole new block of the bytes l. -/
def NewV (w w' : World) (v : Value) (l : List UInt8) : Prop :=
  (v = .slice none 0 0 ∧ l = []) ∨ ∃ k, v = .slice (some ⟨k, 0, none⟩) l.length l.length ∧ w.heap.size ≤ k ∧ Blk w' k (By l) 5 ∧ l.length ≤ 4096
theorem Tryd.zeroInt (w : World) : (zeroValue 3).run Tryd.prog w = .ok (.int .i64 0) w := by kernel_rfl
section
variable {w : World} {s : DSt} {b : Nat} {F G : Nat → Prop} {bd bm : Nat} {dvs : List Value} {pv : Value} {pvs : List (Nat × Value)} {D : DataW Unit}
theorem DiskRep.lookNone (h : DiskRep w s b F bd bm dvs pv pvs D) (k : Nat) (hk : k < s.dur.length) (hn : DSt.lastIdx k s.pend 0 = none) :
    (Instr.lookup 49 (.map (some bm)) (.int .i64 (k : Int)) true).run Tryd.prog w = .ok (.tuple #[.int .i64 0, .bool false]) w := by
  have h2 := h.ok.n2
  have hr := h.rel.2 k (by omega)
  rw [hn] at hr
  simp only at hr
  have hz : plainElem (H := Unit) Tryd.prog 3 (.int .i64 0) = some (.lit (.int .i64 0), []) := plainElem_int Tryd.underlying3 (by decide)
  obtain ⟨v, ps, hrun, hv⟩ := h.map.look_ok Tryd.law3 Tryd.underlying49 (Tryd.zeroInt w) hz (keyOf_int_mk Tryd.underlying3 (a := (k : Int)) (WalkArith.wf_i64 (by omega)))
  rw [hr] at hrun
  rw [Maps.atKey_of_not_has hr] at hv
  obtain ⟨c, rfl, hc, _⟩ := plainElem_int_inv Tryd.underlying3 hv
  simp only [Prod.mk.injEq, DataW.lit.injEq, Lit.int.injEq, true_and] at hc
  rw [hrun, ← hc.1]
theorem DiskRep.lookSome (h : DiskRep w s b F bd bm dvs pv pvs D) (k j : Nat) (hk : k < s.dur.length) (hn : DSt.lastIdx k s.pend 0 = some j) :
    (Instr.lookup 49 (.map (some bm)) (.int .i64 (k : Int)) true).run Tryd.prog w = .ok (.tuple #[.int .i64 (j : Int), .bool true]) w := by
  have h2 := h.ok.n2
  have hr := h.rel.2 k (by omega)
  rw [hn] at hr
  simp only at hr
  have hz : plainElem (H := Unit) Tryd.prog 3 (.int .i64 0) = some (.lit (.int .i64 0), []) := plainElem_int Tryd.underlying3 (by decide)
  obtain ⟨v, ps, hrun, hv⟩ := h.map.look_ok Tryd.law3 Tryd.underlying49 (Tryd.zeroInt w) hz (keyOf_int_mk Tryd.underlying3 (a := (k : Int)) (WalkArith.wf_i64 (by omega)))
  rw [hr.1] at hrun
  rw [hr.2] at hv
  obtain ⟨c, rfl, hc, _⟩ := plainElem_int_inv Tryd.underlying3 hv
  simp only [Prod.mk.injEq, DataW.lit.injEq, Lit.int.injEq, true_and] at hc
  rw [hrun, ← hc.1]
/-- The pending write number j in memory. -/
theorem DiskRep.pendAt (h : DiskRep w s b F bd bm dvs pv pvs D) (j : Nat) (q : Nat × List UInt8) (hq : s.pend[j]? = some q) :
    ∃ g cap v, pv = .slice (some ⟨g, 0, none⟩) s.pend.length cap ∧ w.cell? ⟨g, j * 2, none⟩ = some (.int .i64 (q.1 : Int)) ∧ w.cell? ⟨g, j * 2 + 1, none⟩ = some v ∧ DataV w F s.size v q.2 ∧ s.pend.length ≤ maxLen := by
  have hj : j < s.pend.length := (List.getElem?_eq_some_iff.1 hq).1
  obtain ⟨p, hp, hp1, hp2⟩ := h.pvs.get hq
  obtain ⟨h1, h2⟩ := h.pend
  rcases h2 with ⟨_, h0⟩ | ⟨g, cap, cur, he, _, hb, hcap, hmx, hcs, htk⟩
  · omega
  · have hc := pcells_get pvs j p hp
    have look : ∀ i v, (pcells pvs)[i]? = some v → w.cell? ⟨g, i, none⟩ = some v := fun i v hi => by
      rw [cell_of_row w g i _ _ _ hb]
      rw [← htk, List.getElem?_take] at hi
      split at hi
      · simpa using hi
      · cases hi
    exact ⟨g, cap, p.2, he, by rw [← hp1]; exact look _ _ hc.1, look _ _ hc.2, hp2, by omega⟩

theorem DataV.fresh {n : Nat} {v : Value} {l : List UInt8} (h : DataV w F n v l) (hn : n ≤ 4096) : NewV w (w.alloc (.cells (By (fill n l)).toArray 5)) (.slice (some ⟨w.heap.size, 0, none⟩) n n) l := by
  obtain ⟨_, _, _, _, rfl⟩ := h
  refine .inr ⟨w.heap.size, rfl, Nat.le_refl _, ?_, hn⟩
  rw [fill_self]
  exact Blk.new _ _ _
def ReadP (w : World) (r : Int × List UInt8) (e : Ending) (w' : World) : Prop :=
  ∃ v, e = .returned (.tuple #[v, .int .i64 r.1]) ∧ Below w.heap.size w w' ∧ NewV w w' v r.2
set_option maxRecDepth 100000 in
set_option maxHeartbeats 1000000 in
theorem read_any (h : DiskAt w s b F) (k : Int) : Calls Tryd.prog 50 #[.pointer (some ⟨b, 0, none⟩), .int .i64 k] w (ReadP w (s.read k)) := by
  obtain ⟨bd, bm, dvs, pv, pvs, D, h⟩ := h
  have c0 := h.cells.cell (i := 0) rfl
  have c1 := h.cells.cell (i := 1) rfl
  have c2 := h.cells.cell (i := 2) rfl
  have c3 := h.cells.cell (i := 3) rfl
  have c5 := h.cells.cell (i := 5) rfl
  cases hd : s.down
  · rw [hd] at c5
    have V := Lib.hid (valid_any b k (some ⟨bd, 0, none⟩) s.dur.length s.dur.length w c1)
    cases hv : s.valid k
    · have hv' : decide (0 ≤ k ∧ k < (s.dur.length : Int)) = false := hv
      have e : s.read k = (1, []) := by simp [DSt.read, hd, hv]
      rw [hv'] at V
      rw [e]
      clear h hd hv hv' e
      go_enter Tryd.func50, Tryd.ntmps50
      go_wp2_with (go_at_call 48; refine (V.out).mono ?_; rintro e w' ⟨rfl, rfl⟩)
      go_ret2
      exact ⟨_, rfl, Below.refl _ _, .inl ⟨rfl, rfl⟩⟩
    · have hv' : decide (0 ≤ k ∧ k < (s.dur.length : Int)) = true := hv
      have hv2 := of_decide_eq_true hv'
      obtain ⟨n, rfl⟩ := Int.eq_ofNat_of_zero_le hv2.1
      have e : s.read (n : Int) = (0, s.look n) := by simp [DSt.read, hd, hv]
      rw [hv'] at V
      rw [e]
      have hn : n < s.dur.length := by omega
      have hsz := h.ok.size2
      have hn2 := h.ok.n2
      have hlk := h.ok
      cases hj : DSt.lastIdx n s.pend 0 with
      | none =>
        have L := h.lookNone n hn hj
        have e2 : s.look n = s.dur.getD n [] := by simp [DSt.look, hj]
        rw [e2]
        obtain ⟨v, hv3, hrow⟩ := h.dur.get (i := n) (b := s.dur[n]) (by simp [hn])
        have r1 := h.durs.cell hv3
        obtain ⟨l', hb, hl', hf⟩ := hrow.fills hsz
        have e3 : s.dur.getD n [] = s.dur[n] := by simp [List.getD, hn]
        rw [e3]
        have C := Lib.hid (filled_any b s.size v l' F w c0 hsz hl' hb)
        have Hf := Lib.hid hf
        have Hl : Hid (s.dur[n].length = s.size) := h.ok.dur _ (List.getElem_mem hn)
        clear hd hv hv' hv2 e e2 e3 hf hb hrow h hv3
        generalize s.dur[n] = dn at *
        go_enter Tryd.func50, Tryd.ntmps50
        go_wp2_with (first | (go_at_call 48; refine (V.out).mono ?_; rintro e w' ⟨rfl, rfl⟩) | (go_at_call 49; refine (C.out).mono ?_; rintro e w' ⟨rfl, rfl⟩))
        go_ret2
        refine ⟨_, rfl, (Below.refl _ _).alloc (Nat.le_refl _) _, .inr ⟨w.heap.size, by rw [Hl.out]; rfl, Nat.le_refl _, ?_, by rw [Hl.out]; exact hsz⟩⟩
        rw [Hf.out]
        exact Blk.new _ _ _
      | some j =>
        have L := h.lookSome n j hn hj
        obtain ⟨_, hj2, q, hq, hq1⟩ := DSt.lastIdx_some n s.pend 0 j hj
        simp only [Nat.sub_zero, Nat.zero_add] at hq hj2
        obtain ⟨g, cap, v, rfl, p1, p2, hdv, hmx⟩ := h.pendAt j q hq
        have e2 : s.look n = q.2 := by simp [DSt.look, hj, List.getD, hq]
        rw [e2]
        have C := Lib.hid (filled_any b s.size v q.2 F w c0 hsz (by obtain ⟨_, _, _, _, hl⟩ := hdv; omega) (hdv.bv hsz))
        have Hd := Lib.hid hdv
        unfold maxLen at hmx
        clear hd hv hv' hv2 e e2 hdv h
        go_enter Tryd.func50, Tryd.ntmps50
        go_wp2_with (first | (go_at_call 48; refine (V.out).mono ?_; rintro e w' ⟨rfl, rfl⟩) | (go_at_call 49; refine (C.out).mono ?_; rintro e w' ⟨rfl, rfl⟩))
        go_ret2
        exact ⟨_, rfl, (Below.refl _ _).alloc (Nat.le_refl _) _, Hd.out.fresh hsz⟩
  · have e : s.read k = (8, []) := by simp [DSt.read, hd]
    rw [hd] at c5
    rw [e]
    clear h hd e
    go_enter Tryd.func50, Tryd.ntmps50
    go_wp2_with fail
    go_ret2
    exact ⟨_, rfl, Below.refl _ _, .inl ⟨rfl, rfl⟩⟩
end
end Go.Proofs.YtcpcnfedbffecaaDoor
