/- Contracts of the reference disk's small functions: sector, fails, put. -/
import Derived.Test.YtibojbbhffoldaaRefN
namespace Go.Proofs.Ytibojbbhffoldaa
open Go.RowKit Go.Maps
set_option maxHeartbeats 400000 in
theorem rsector_any (b : Nat) (x : Int) (a : Option Addr) (n c : Nat) (w : World) (h1 : w.cell? ⟨b, 1, none⟩ = some (.slice a n c)) :
    Calls Try.prog 41 #[.pointer (some ⟨b, 0, none⟩), .int .i64 x] w fun e w' => e = .returned (.bool (decide (0 ≤ x ∧ x < (n : Int)))) ∧ w = w' := by
  go_enter Try.func41, Try.ntmps41
  go_wp2
  · go_ret
    exact ⟨by simp [*], rfl⟩
  · go_ret
    exact ⟨by simp; omega, rfl⟩
/-- The world behind the reference's 'fails'. -/
def rfailW (w : World) (b : Nat) (x : Int) : World := if x = 0 then w.setCell ⟨b, 3, none⟩ (.bool true) else if x < 0 then w else w.setCell ⟨b, 4, none⟩ (.int .i64 (x - 1))
set_option maxHeartbeats 400000 in
theorem rfails_any (b : Nat) (x : Int) (d : Bool) (w : World) (hx : -1 ≤ x) (hx2 : x ≤ 9223372036854775807)
    (h1 : w.cell? ⟨b, 4, none⟩ = some (.int .i64 x)) (h2 : w.cell? ⟨b, 3, none⟩ = some (.bool d)) (f1 : w.frozen? ⟨b, 4, none⟩ = false) (f2 : w.frozen? ⟨b, 3, none⟩ = false) :
    Calls Try.prog 42 #[.pointer (some ⟨b, 0, none⟩)] w fun e w' => e = .returned (.bool (decide (x = 0))) ∧ rfailW w b x = w' := by
  by_cases h0 : x = 0
  · subst h0
    go_enter Try.func42, Try.ntmps42
    go_wp2
    go_ret
    exact ⟨rfl, rfl⟩
  by_cases hn : x < 0
  · have e : decide (x = 0) = false := decide_eq_false h0
    go_enter Try.func42, Try.ntmps42
    go_wp2
    go_ret
    exact ⟨ret_bool e.symm, by unfold rfailW; rw [if_neg h0, if_pos hn]⟩
  · have e : decide (x = 0) = false := decide_eq_false h0
    have hp : 0 < x := by omega
    go_enter Try.func42, Try.ntmps42
    go_wp2
    go_ret
    exact ⟨rfl, by unfold rfailW; rw [if_neg h0, if_neg (by omega)]⟩
section
variable {w w' : World} {s : DSt} {b : Nat} {F G : Nat → Prop} {dv lv v : Value} {dvs : List Value} {pvs : List (Nat × Value)} {left : Int}
/-- A store into the disk's own block leaves the rest. -/
theorem RefRep.setb (h : RefRep w s b F dv dvs lv pvs left) (i : Nat) (x : Value) {s' : DSt} {left' : Int} (hsz : s'.dur = s.dur) (hp : s'.pend = s.pend)
    (hc : Blk (w.setCell ⟨b, i, none⟩ x) b [.int .i64 (s'.size : Int), dv, lv, .bool s'.down, .int .i64 left'] 41) (hl : s'.down = false → left' = s'.after) :
    Stp F w (w.setCell ⟨b, i, none⟩ x) ∧ RefRep (w.setCell ⟨b, i, none⟩ x) s' b F dv dvs lv pvs left' := by
  have st : Stp F w (w.setCell ⟨b, i, none⟩ x) := (Stp.refl F w).set (.inl (.inl h.Fb)) x
  have keep : ∀ k, k ≠ b → (w.setCell ⟨b, i, none⟩ x).heap[k]? = w.heap[k]? := fun k hk => heap_setCell_other w ⟨b, i, none⟩ k x hk
  have old : ∀ {v' : Value} {l' : List UInt8}, OwnF w F v' l' → OwnF (w.setCell ⟨b, i, none⟩ x) F v' l' := fun {v' l'} hv => by
    refine ⟨hv.1.same (F := fun g => v'.ownBlock = some g) (fun g hg => ?_) (fun g hg => hg), hv.2⟩
    obtain ⟨cur, hb⟩ := hv.blk hg
    exact keep g (h.ne_b hb (by decide))
  refine ⟨st, fun k hk => Nat.lt_of_lt_of_le (h.inn k hk) st.size, h.Fb, h.Fdv, h.Flv, hc, hl, ?_, ?_, ?_, ?_, h.sep, h.sep2⟩
  · rw [hsz]
    exact Same.row (G := fun k => k ≠ b) keep h.durs (fun g hg e => h.dv_ne_b (e ▸ hg))
  · rw [hsz]; exact h.dur.mono (fun _ _ r => old r)
  · rw [hp]
    exact Same.row (G := fun k => k ≠ b) keep h.pend (fun g hg e => h.lv_ne_b (e ▸ hg))
  · rw [hp]; exact h.pnd.mono (fun _ _ r => ⟨r.1, old r.2⟩)
theorem RefRep.failed (h : RefRep w s b F dv dvs lv pvs left) (hd : s.down = false) : Stp F w (rfailW w b left) ∧ ∃ left', RefRep (rfailW w b left) s.step b F dv dvs lv pvs left' := by
  have e := h.lft hd
  unfold rfailW
  by_cases h0 : left = 0
  · rw [if_pos h0]
    have es : s.step = { s with after := s.after - 1, down := true } := by unfold DSt.step; rw [if_neg (by omega)]; simp [← e, h0]
    have := h.setb 3 (.bool true) (s' := s.step) (left' := left) (by rw [es]) (by rw [es]) (by rw [es]; simpa using h.cells.set 3 (.bool true)) (by rw [es]; intro h; cases h)
    exact ⟨this.1, _, this.2⟩
  · rw [if_neg h0]
    by_cases hn : left < 0
    · rw [if_pos hn]
      have es : s.step = s := by unfold DSt.step; rw [if_pos (by omega)]
      rw [es]
      exact ⟨Stp.refl F w, _, h⟩
    · rw [if_neg hn]
      have es : s.step = { s with after := s.after - 1, down := s.down } := by unfold DSt.step; rw [if_neg (by omega), hd]; simp; omega
      have := h.setb 4 (.int .i64 (left - 1)) (s' := s.step) (left' := left - 1) (by rw [es]) (by rw [es]) (by rw [es]; simpa using h.cells.set 4 (.int .i64 (left - 1))) (by rw [es]; intro _; simp; omega)
      exact ⟨this.1, _, this.2⟩
end
end Go.Proofs.Ytibojbbhffoldaa
