/- Contracts for JournalOpens: Region, New, Left of the reference; Open where it fails. -/
import Derived.Test.YtcpcnfedbffecaaDoorJnQ
namespace Go.Proofs.YtcpcnfedbffecaaDoor
open Go.RowKit Go.Maps
set_option linter.unusedSimpArgs false
section
set_option maxRecDepth 100000 in
set_option maxHeartbeats 1000000 in
theorem region_any (w : World) (n z : Nat) (first count : Int) (hn : n ≤ 60) (hz : z ≤ 200) (hf1 : -9223372036854775808 ≤ first) (hf2 : first ≤ 9223372036854775807) (hc1 : -9223372036854775808 ≤ count) (hc2 : count ≤ 9223372036854775807) :
    Calls Tryd.prog 17 #[.int .i64 (n : Int), .int .i64 (z : Int), .int .i64 first, .int .i64 count] w fun e w' => e = .returned (.bool (decide (64 ≤ z ∧ 0 ≤ first ∧ 4 ≤ count ∧ first + count ≤ (n : Int)))) ∧ w = w' := by
  by_cases h1 : 64 ≤ z
  rotate_left
  · have j1 : ¬ (64 : Int) ≤ (z : Int) := by omega
    clear h1
    go_enter Tryd.func17, Tryd.ntmps17
    go_wp2_with fail
    go_ret
    exact ⟨by simp; omega, rfl⟩
  have j1 : (64 : Int) ≤ (z : Int) := by omega
  by_cases h2 : 0 ≤ first
  rotate_left
  · have j2 : ¬ (0 : Int) ≤ first := h2
    skip
    go_enter Tryd.func17, Tryd.ntmps17
    go_wp2_with fail
    go_ret
    exact ⟨by simp; omega, rfl⟩
  have j2 : (0 : Int) ≤ first := h2
  by_cases h3 : 4 ≤ count
  rotate_left
  · have j3 : ¬ (4 : Int) ≤ count := h3
    skip
    go_enter Tryd.func17, Tryd.ntmps17
    go_wp2_with fail
    go_ret
    exact ⟨by simp; omega, rfl⟩
  have j3 : (4 : Int) ≤ count := h3
  by_cases h4 : first ≤ (n : Int)
  rotate_left
  · have j4 : ¬ first ≤ (n : Int) := h4
    skip
    go_enter Tryd.func17, Tryd.ntmps17
    go_wp2_with fail
    go_ret
    exact ⟨by simp; omega, rfl⟩
  have j4 : first ≤ (n : Int) := h4
  have j6 : IntKind.i64.wrap ((n : Int) - first) = (n : Int) - first := by rw [IntKind.wrap_i64]; omega
  by_cases h5 : count ≤ (n : Int) - first
  rotate_left
  · have j5 : ¬ count ≤ (n : Int) - first := h5
    skip
    go_enter Tryd.func17, Tryd.ntmps17
    go_wp2_with fail
    go_ret
    exact ⟨by simp; omega, rfl⟩
  have j5 : count ≤ (n : Int) - first := h5
  go_enter Tryd.func17, Tryd.ntmps17
  go_wp2_with fail
  go_ret
  exact ⟨by simp; omega, rfl⟩
variable {w : World} {s : DSt} {bd : Nat} {FD : Nat → Prop}
set_option maxRecDepth 100000 in
set_option maxHeartbeats 1000000 in
theorem open_bad (hD : DiskAt w s bd FD) (first count : Int) (hf1 : -9223372036854775808 ≤ first) (hf2 : first ≤ 9223372036854775807) (h : ¬ (64 ≤ s.size ∧ 0 ≤ first ∧ 4 ≤ count ∧ first + count ≤ (s.dur.length : Int))) :
    Calls Tryd.prog 9 #[.pointer (some ⟨bd, 0, none⟩), .int .i64 first, .int .i64 count] w fun e w' => e = .returned (.tuple #[.pointer none, .int .i64 1]) ∧ w = w' := by
  have SZ := Lib.hid (size_any hD)
  have SC := Lib.hid (sectors_any hD)
  have SD := Lib.hid (down_any hD)
  have hn2 := hD.ok.n2
  have hdn : Hid (s.down = s.down) := Lib.hid rfl
  clear hD
  by_cases h1 : s.size < 64
  · have j1 : (s.size : Int) < 64 := by omega
    clear h
    go_enter Tryd.func9, Tryd.ntmps9
    go_wp2_with (first | (go_at_call 23; refine (SZ.out).mono ?_; rintro e w' ⟨rfl, rfl⟩) | (go_at_call 20; refine (SC.out).mono ?_; rintro e w' ⟨rfl, rfl⟩) | (go_at_call 24; refine (SD.out).mono ?_; rintro e w' ⟨rfl, rfl⟩; rw [hdn.out]))
    go_ret2
    exact ⟨rfl, rfl⟩
  have j1 : ¬ (s.size : Int) < 64 := by omega
  by_cases h2 : first < 0
  · have j2 : first < 0 := h2
    clear h
    go_enter Tryd.func9, Tryd.ntmps9
    go_wp2_with (first | (go_at_call 23; refine (SZ.out).mono ?_; rintro e w' ⟨rfl, rfl⟩) | (go_at_call 20; refine (SC.out).mono ?_; rintro e w' ⟨rfl, rfl⟩) | (go_at_call 24; refine (SD.out).mono ?_; rintro e w' ⟨rfl, rfl⟩; rw [hdn.out]))
    go_ret2
    exact ⟨rfl, rfl⟩
  have j2 : ¬ first < 0 := h2
  by_cases h3 : count < 4
  · have j3 : count < 4 := h3
    clear h
    go_enter Tryd.func9, Tryd.ntmps9
    go_wp2_with (first | (go_at_call 23; refine (SZ.out).mono ?_; rintro e w' ⟨rfl, rfl⟩) | (go_at_call 20; refine (SC.out).mono ?_; rintro e w' ⟨rfl, rfl⟩) | (go_at_call 24; refine (SD.out).mono ?_; rintro e w' ⟨rfl, rfl⟩; rw [hdn.out]))
    go_ret2
    exact ⟨rfl, rfl⟩
  have j3 : ¬ count < 4 := h3
  have j6 : IntKind.i64.wrap ((s.dur.length : Int) - first) = (s.dur.length : Int) - first := by rw [IntKind.wrap_i64]; omega
  have j5 : (s.dur.length : Int) - first < count := by omega
  clear h
  go_enter Tryd.func9, Tryd.ntmps9
  go_wp2_with (first | (go_at_call 23; refine (SZ.out).mono ?_; rintro e w' ⟨rfl, rfl⟩) | (go_at_call 20; refine (SC.out).mono ?_; rintro e w' ⟨rfl, rfl⟩) | (go_at_call 24; refine (SD.out).mono ?_; rintro e w' ⟨rfl, rfl⟩; rw [hdn.out]))
  go_ret2
  exact ⟨rfl, rfl⟩
set_option maxRecDepth 100000 in
set_option maxHeartbeats 1000000 in
theorem open_down (hD : DiskAt w s bd FD) (first count : Int) (hdn0 : s.down = true) (h1 : 64 ≤ s.size) (h2 : 0 ≤ first) (h3 : 4 ≤ count) (h4 : first + count ≤ (s.dur.length : Int)) :
    Calls Tryd.prog 9 #[.pointer (some ⟨bd, 0, none⟩), .int .i64 first, .int .i64 count] w fun e w' => e = .returned (.tuple #[.pointer none, .int .i64 8]) ∧ w = w' := by
  have SZ := Lib.hid (size_any hD)
  have SC := Lib.hid (sectors_any hD)
  have SD := Lib.hid (down_any hD)
  have hn2 := hD.ok.n2
  have hdn := Lib.hid hdn0
  have j1 : ¬ (s.size : Int) < 64 := by omega
  have j2 : ¬ first < 0 := by omega
  have j3 : ¬ count < 4 := by omega
  have j6 : IntKind.i64.wrap ((s.dur.length : Int) - first) = (s.dur.length : Int) - first := by rw [IntKind.wrap_i64]; omega
  have j5 : ¬ (s.dur.length : Int) - first < count := by omega
  clear hD hdn0
  go_enter Tryd.func9, Tryd.ntmps9
  go_wp2_with (first | (go_at_call 23; refine (SZ.out).mono ?_; rintro e w' ⟨rfl, rfl⟩) | (go_at_call 20; refine (SC.out).mono ?_; rintro e w' ⟨rfl, rfl⟩) | (go_at_call 24; refine (SD.out).mono ?_; rintro e w' ⟨rfl, rfl⟩; rw [hdn.out]))
  go_ret2
  exact ⟨rfl, rfl⟩
end
end Go.Proofs.YtcpcnfedbffecaaDoor
