/- Contract of chapter 17's 'small'. -/
import Derived.Test.YtcpcnfedbffecaaDoorJnP
import Derived.WalkMore
namespace Go.Proofs.YtcpcnfedbffecaaDoor
open Go.RowKit Go.Maps
set_option linter.unusedSimpArgs false
section
variable {w : World} {F : Nat → Prop} {xv : Value} {l : List Op17} {size count : Int}
set_option maxRecDepth 100000 in
set_option maxHeartbeats 2000000 in
theorem small17_any (hx : OpsV17 w F xv l) : Calls Tryd.prog 7 #[.int .i64 size, .int .i64 count, xv] w (SmallIs size count l w) := by
  obtain ⟨la, lc, rfl, l1, l2, hget⟩ := hx.get
  unfold maxLen at l2
  have HG := Lib.hid hget
  clear hx hget
  go_enter Tryd.func7, Tryd.ntmps7
  go_wp2_with fail
  go_loopw [7] (fun i wr => ∃ k : Nat, k ≤ l.length ∧ i = .int .i64 (k : Int) ∧ w = wr ∧ ∀ j, (h : j < l.length) → j < k → l[j].Few) (fun i _ => l.length - (intOf i).toNat)
  case atStart => exact ⟨0, Nat.zero_le _, rfl, rfl, fun j _ h => absurd h (by omega)⟩
  case round =>
    obtain ⟨k, hk, rfl, rfl, hfew⟩ := hrel
    have HFEW := Lib.hid hfew
    clear hfew
    by_cases hkl : k < l.length
    · obtain ⟨gb, go_, bv, ka, kn, kc, rfl, -, hlv, e0, e1, e2, e3⟩ := HG.out k hkl
      obtain ⟨ba, bc, rfl, b1, b2, bget⟩ := hlv.get
      have HBG := Lib.hid bget
      obtain ⟨bl, hbl⟩ : ∃ bl, l[k].batch = bl := ⟨_, rfl⟩
      rw [hbl] at e1 b1 HBG
      have HBL := Lib.hid hbl
      unfold maxLen at b2
      clear hlv bget e0 e2 e3 hbl
      by_cases h4 : 4 < bl.length
      · have j4 : (4 : Int) < (bl.length : Int) := by omega
        go_wp2_with fail
        go_ret
        exact ⟨false, rfl, rfl, fun h => by cases h⟩
      · have j4 : ¬ (4 : Int) < (bl.length : Int) := by omega
        go_wp2_with fail
        go_loopw [8] (fun q wr => ∃ p : Nat, p ≤ bl.length ∧ q = .int .i64 (p : Int) ∧ w = wr ∧ ∀ j, (h : j < bl.length) → j < p → bl[j].length ≤ 300) (fun q _ => bl.length - (intOf q).toNat)
        case atStart => exact ⟨0, Nat.zero_le _, rfl, rfl, fun j _ h => absurd h (by omega)⟩
        case round =>
          obtain ⟨p, hp, rfl, rfl, hfew⟩ := hrel
          have HF2 := Lib.hid hfew
          clear hfew
          by_cases hpl : p < bl.length
          · obtain ⟨gc, go2, x, rfl, -, ec, hbv⟩ := HBG.out p hpl
            obtain ⟨xa, xc, rfl, -, -, -⟩ := hbv.get
            obtain ⟨xl, hxl⟩ : ∃ xl, bl[p].length = xl := ⟨_, rfl⟩
            rw [hxl] at ec
            have HXL := Lib.hid hxl
            clear hbv hxl
            by_cases h3 : 300 < xl
            · have j3 : (300 : Int) < (xl : Int) := by omega
              go_wp2_with fail
              go_ret
              exact ⟨false, rfl, rfl, fun h => by cases h⟩
            · have j3 : ¬ (300 : Int) < (xl : Int) := by omega
              go_wp2_with fail
              refine ⟨⟨p + 1, by omega, by go_num, trivial, fun j hj hjp => ?_⟩, by simp [intOf]; omega⟩
              by_cases hjj : j < p
              · exact HF2.out j hj hjj
              · obtain rfl : j = p := by omega
                rw [HXL.out]; omega
          · go_wp2_with fail
            refine ⟨⟨k + 1, by omega, by go_num, trivial, fun j hj hjp => ?_⟩, by simp [intOf]; omega⟩
            by_cases hjj : j < k
            · exact HFEW.out j hj hjj
            · obtain rfl : j = k := by omega
              unfold Op17.Few
              rw [HBL.out]
              refine ⟨by omega, fun r hr => ?_⟩
              obtain ⟨i, hi, rfl⟩ := List.mem_iff_getElem.1 hr
              exact HF2.out i hi (by omega)
    · have HOK : Hid (∀ i, (h : i < l.length) → l[i].Few) := Lib.hid (fun i h => HFEW.out i h (by omega))
      go_wp2_with fail
      all_goals
        go_ret
        refine ⟨_, rfl, rfl, fun h => ?_⟩
        first
          | (cases h; done)
          | (have h2 := of_decide_eq_true h
             exact ⟨by omega, by omega, by omega, by omega, by omega, HOK.out⟩)
end
end Go.Proofs.YtcpcnfedbffecaaDoor
