/- Contracts of Same and SameAll. -/
import Derived.Test.YtibojbbhffoldaaDiskJ
import Derived.Deep.QuietTactic
import Derived.BigQuiet
import Derived.StillTailTactics
namespace Go.Proofs.Ytibojbbhffoldaa
open Go.RowKit Go.Maps
section
variable {w w' : World} {F G : Nat → Prop}
set_option maxHeartbeats 400000 in
theorem same_any {a b : Value} {la lb : List UInt8} (ha : BV w F a la) (hb : BV w G b lb) :
    Calls Try.prog 15 #[a, b] w fun e w' => e = .returned (.bool (la == lb)) ∧ w = w' := by
  have r1 := run_toString (P := Try.prog) ha 22 5 9 Try.underlying22 Try.underlying5 Try.underlying9
  have r2 := run_toString (P := Try.prog) hb 22 5 9 Try.underlying22 Try.underlying5 Try.underlying9
  go_enter Try.func15, Try.ntmps15
  go_wp2
  go_ret
  exact ⟨rfl, rfl⟩
theorem quiet_same {P : Program} {f : FuncId} {args : Array Value} {w : World} {n : Nat} {v : Value}
    (h : Calls P f args (w.drewN n) fun e w' => e = .returned v ∧ w.drewN n = w') : Calls P f args (w.drewN n) fun e w'' => e = .returned v ∧ ∃ m, w'' = w.drewN m :=
  h.mono fun _ _ ⟨he, hm⟩ => ⟨he, n, hm.symm⟩
theorem BV.drewN {v : Value} {l : List UInt8} (h : BV w F v l) (n : Nat) : BV (w.drewN n) F v l := h
/-- Behind k rounds. -/
def AllR (w : World) (A B : List (List UInt8)) (k : Nat) (wr : World) : Prop := A.take k = B.take k ∧ Below w.heap.size w wr
set_option maxRecDepth 100000 in
set_option maxHeartbeats 1000000 in
theorem sameAll_any {a b : Value} {A B : List (List UInt8)} (ha : LV w F a A) (hb : LV w G b B) :
    Calls Try.prog 23 #[a, b] w fun e w' => e = .returned (.bool (A == B)) ∧ Below w.heap.size w w' := by
  obtain ⟨aa, ac, rfl, al1, al2, _⟩ := ha.get
  obtain ⟨ba, bc, rfl, bl1, bl2, _⟩ := hb.get
  have Ha := Lib.hid ha
  have Hb := Lib.hid hb
  unfold maxLen at al2 bl2
  clear ha hb
  by_cases hl : A.length = B.length
  · have hn : ((A.length : Int) != (B.length : Int)) = false := by simp [hl]
    have Hl := Lib.hid hl; clear hl
    go_enter Try.func23, Try.ntmps23
    go_wp2
    go_loopw [5] (fun i wr => ∃ k : Nat, k ≤ A.length ∧ i = .int .i64 (k : Int) ∧ AllR w A B k wr) (fun i _ => A.length - (intOf i).toNat)
    case atStart => exact ⟨0, Nat.zero_le _, rfl, rfl, Below.refl _ _⟩
    case round =>
      obtain ⟨k, hk, rfl, htk, hbl⟩ := hrel
      by_cases hlt : k < A.length
      · have hlt2 : k < B.length := by rw [← Hl.out]; exact hlt
        obtain ⟨_, _, e1, _, _, hac⟩ := (Ha.out.grow hbl).get
        obtain ⟨_, _, e2, _, _, hbc⟩ := (Hb.out.grow hbl).get
        obtain ⟨rfl, rfl⟩ : _ ∧ _ := by simpa using e1
        obtain ⟨rfl, rfl⟩ : _ ∧ _ := by simpa using e2
        obtain ⟨ab, ao, x, rfl, _, xc, xv⟩ := hac k hlt
        obtain ⟨bb, bo, y, rfl, _, yc, yv⟩ := hbc k hlt2
        have X := Lib.hid xv
        have Y := Lib.hid yv
        have Htk := Lib.hid htk
        have Hbl := Lib.hid hbl
        clear xv yv htk e1 e2 hac hbc hbl
        have e1 : (0 : Int) ≤ (k : Int) := by omega
        have e2 : (k : Int) < (A.length : Int) := by omega
        have e3 : (k : Int) < (B.length : Int) := by omega
        generalize hA : A[k] = ak at *
        generalize hB : B[k] = bk at *
        have HA := Lib.hid hA
        have HB := Lib.hid hB
        clear hA hB
        go_wp2_with fail
        go_still_tail 8, (by kernel_rfl)
        go_wp2_with (go_at_call 15; refine (same_any (w := wr.drew) X.out Y.out).mono ?_; rintro e w' ⟨rfl, rfl⟩)
        · have hne : (!ak == bk) = true := by assumption
          go_ret
          refine ⟨ret_bool (beq_eq_false_iff_ne.2 (fun e => ?_)).symm, Hbl.out.drew⟩
          have h1 := HA.out
          have h2 := HB.out
          subst e
          rw [h1] at h2
          subst h2
          simp at hne
        · have he : (!ak == bk) = false := by assumption
          have he2 : ak = bk := by simpa using he
          go_roundw
          case rel =>
            refine ⟨k + 1, by omega, by go_num, ?_, Hbl.out.drew⟩
            rw [List.take_succ_eq_append_getElem hlt, List.take_succ_eq_append_getElem hlt2, Htk.out, HA.out, HB.out, he2]
          case measure => simp [intOf]; omega
      · obtain rfl : k = A.length := by omega
        rw [List.take_length, Hl.out, List.take_length] at htk
        have Htk := Lib.hid htk
        have Hbl := Lib.hid hbl
        clear htk hbl
        go_wp2
        go_ret
        exact ⟨ret_bool (by rw [Htk.out]; simp), Hbl.out⟩
  · have hn : ((A.length : Int) != (B.length : Int)) = true := by simp; omega
    have Hl := Lib.hid hl; clear hl
    go_enter Try.func23, Try.ntmps23
    go_wp2
    go_ret
    refine ⟨ret_bool (beq_eq_false_iff_ne.2 (fun e => ?_)).symm, Below.refl _ _⟩
    exact Hl.out (by rw [e])
end
end Go.Proofs.Ytibojbbhffoldaa
