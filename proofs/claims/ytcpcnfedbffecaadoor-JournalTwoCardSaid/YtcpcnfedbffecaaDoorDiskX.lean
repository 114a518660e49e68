/- Contracts of (*Disk).Write for every sector, and of Read. -/
import Derived.Test.YtcpcnfedbffecaaDoorDiskW
namespace Go.Proofs.YtcpcnfedbffecaaDoor
open Go.RowKit Go.Maps
section
variable {w : World} {s : DSt} {b : Nat} {F G : Nat → Prop}
theorem DiskAt.plus (h : DiskAt w s b F) : DiskAt w s b (Plus F w w) := h.mono (fun _ hk => .inl hk) (Plus.inn h.inn (Nat.le_refl _))
set_option maxRecDepth 100000 in
set_option maxHeartbeats 1000000 in
theorem write_down (h : DiskAt w s b F) (k : Int) (dv : Value) (hd : s.down = true) :
    Calls Tryd.prog 41 #[.pointer (some ⟨b, 0, none⟩), .int .i64 k, dv] w fun e w' => e = .returned (.int .i64 8) ∧ w = w' := by
  obtain ⟨bd, bm, dvs, pv, pvs, D, h⟩ := h
  have c5 := h.cells.cell (i := 5) rfl
  rw [hd] at c5
  clear h hd
  go_enter Tryd.func41, Tryd.ntmps41
  go_wp2_with fail
  go_ret
  exact ⟨rfl, rfl⟩
set_option maxRecDepth 100000 in
set_option maxHeartbeats 1000000 in
theorem write_bad (h : DiskAt w s b F) (k : Int) (da : Option Addr) (n dc : Nat) (hd : s.down = false) (hk : s.valid k = false ∨ n ≠ s.size) :
    Calls Tryd.prog 41 #[.pointer (some ⟨b, 0, none⟩), .int .i64 k, .slice da n dc] w fun e w' => e = .returned (.int .i64 1) ∧ w = w' := by
  obtain ⟨bd, bm, dvs, pv, pvs, D, h⟩ := h
  have c0 := h.cells.cell (i := 0) rfl
  have c1 := h.cells.cell (i := 1) rfl
  have c5 := h.cells.cell (i := 5) rfl
  rw [hd] at c5
  have V := Lib.hid (valid_any b k (some ⟨bd, 0, none⟩) s.dur.length s.dur.length w c1)
  clear h hd
  by_cases hv : s.valid k = false
  · have hv' : decide (0 ≤ k ∧ k < (s.dur.length : Int)) = false := hv
    rw [hv'] at V
    clear hk hv hv'
    go_enter Tryd.func41, Tryd.ntmps41
    go_wp2_with (go_at_call 48; refine (V.out).mono ?_; rintro e w' ⟨rfl, rfl⟩)
    go_ret
    exact ⟨rfl, rfl⟩
  · have hv' : decide (0 ≤ k ∧ k < (s.dur.length : Int)) = true := by simpa [DSt.valid] using hv
    have hn : ((n : Int) != (s.size : Int)) = true := by
      rcases hk with hk | hk
      · exact absurd hk hv
      · simp; omega
    rw [hv'] at V
    clear hk hv hv'
    go_enter Tryd.func41, Tryd.ntmps41
    go_wp2_with (go_at_call 48; refine (V.out).mono ?_; rintro e w' ⟨rfl, rfl⟩)
    go_ret
    exact ⟨rfl, rfl⟩
theorem write_any (h : DiskAt w s b F) (k : Int) (dv : Value) (l : List UInt8) (hv : BV w G dv l) (hp : s.pend.length < 1000000) :
    Calls Tryd.prog 41 #[.pointer (some ⟨b, 0, none⟩), .int .i64 k, dv] w (DiskP w b F (s.write k l).2 (.int .i64 (s.write k l).1)) := by
  cases hd : s.down
  · by_cases hk : s.valid k = false ∨ l.length ≠ s.size
    · have e : s.write k l = (1, s) := by
        unfold DSt.write
        rw [hd, if_neg (by simp), if_pos (by rcases hk with hk | hk <;> simp [hk])]
      rw [e]
      obtain ⟨da, dc, rfl⟩ : ∃ da dc, dv = .slice da l.length dc := by obtain ⟨a, c, e, _⟩ := hv; exact ⟨a, c, e⟩
      refine (write_bad h k da l.length dc hd hk).mono ?_
      rintro e w' ⟨rfl, rfl⟩
      exact ⟨rfl, Stp.refl _ _, h.plus⟩
    · have hv1 : 0 ≤ k ∧ k < (s.dur.length : Int) := by
        have : s.valid k = true := by
          cases hx : s.valid k
          · exact absurd (.inl hx) hk
          · rfl
        simpa [DSt.valid] using this
      have hv2 : l.length = s.size := by
        apply Decidable.byContradiction
        intro hx
        exact hk (.inr hx)
      obtain ⟨n, rfl⟩ := Int.eq_ofNat_of_zero_le hv1.1
      exact write_yes h n dv l hv hd (by omega) hv2 hp
  · have e : s.write k l = (8, s) := by simp [DSt.write, hd]
    rw [e]
    refine (write_down h k dv hd).mono ?_
    rintro e w' ⟨rfl, rfl⟩
    exact ⟨rfl, Stp.refl _ _, h.plus⟩
end
end Go.Proofs.YtcpcnfedbffecaaDoor
