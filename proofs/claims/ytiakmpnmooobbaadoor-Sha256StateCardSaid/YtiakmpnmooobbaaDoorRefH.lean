/- Contracts of the reference's Hex, digit and FromHex. -/
import Derived.Test.YtiakmpnmooobbaaDoorShaG
import Derived.StillTailTactics
namespace Go.Proofs.YtiakmpnmooobbaaDoor
open Go.RowKit
theorem NewB.empty (w : World) : NewB w.heap.size w [] (.slice (some ⟨w.heap.size, 0, none⟩) 0 0) (w.alloc (.cells #[] 5)) := by
  simpa using NewB.made w 0 (by omega)
set_option maxRecDepth 100000 in
set_option maxHeartbeats 1000000 in
theorem refhex_any (w : World) (s : ByteArray) (hlen : s.size ≤ 1000000000) :
    Calls Tryd.prog 18 #[.string s] w fun e w' => e = .returned (.string ⟨(Sha.hex s.data.toList).toArray⟩) ∧ Below w.heap.size w w' := by
  obtain ⟨i0, hi0, hz0, hz1, hz2⟩ := info_parts Tryd.infoB
  have N0 := Lib.hid (NewB.empty w)
  go_enter Tryd.func18, Tryd.ntmps18
  go_wp2_with fail
  generalize w.alloc (.cells #[] 5) = w1 at *
  go_loopw [4, 5] (fun sv i wr => ∃ k : Nat, k ≤ s.size ∧ i = .int .i64 (k : Int) ∧ NewB w.heap.size w (Sha.hex (s.data.toList.take k)) sv wr) (fun _ i _ => s.size - (intOf i).toNat)
  case atStart => exact ⟨0, by omega, rfl, by simpa [Sha.hex] using N0.out⟩
  case round =>
    obtain ⟨k, hk, rfl, hN⟩ := hrel
    clear N0
    have hsl : s.data.toList.length = s.size := rfl
    by_cases hlt : k < s.size
    · have ik : (k : Int) < (s.size : Int) := by omega
      have hnx := hex_take s.data.toList k (by omega)
      obtain ⟨y, hy⟩ : ∃ y, s.data.toList.getD k 0 = y := ⟨_, rfl⟩
      have hix := fun W : World => idx_str s k hlt W
      rw [hy] at hix hnx
      obtain ⟨yh, hyh⟩ : ∃ z : UInt8, z.toNat = y.toNat / 16 := ⟨y / 16, by simp⟩
      obtain ⟨yl, hyl⟩ : ∃ z : UInt8, z.toNat = y.toNat % 16 := ⟨y % 16, by simp⟩
      have hsh : (y.toNat : Int) / 16 = (yh.toNat : Int) := by omega
      have han : (y.toNat : Int) % 16 = (yl.toNat : Int) := by omega
      have han2 : (y.toNat : Int).tmod 16 = (yl.toNat : Int) := by rw [Int.tmod_eq_emod_of_nonneg (by omega)]; exact han
      have hw1 : IntKind.u8.wrap (yh.toNat : Int) = (yh.toNat : Int) := by rw [IntKind.wrap_u8']; have := yh.toNat_lt; omega
      have hw2 : IntKind.u8.wrap (yl.toNat : Int) = (yl.toNat : Int) := by rw [IntKind.wrap_u8']; have := yl.toNat_lt; omega
      have hi1 := fun W : World => idx_hexd yh W (by have := y.toNat_lt; omega)
      have hi2 := fun W : World => idx_hexd yl W (by omega)
      rw [← hyh, ← hyl] at hnx
      obtain ⟨dh, hdh⟩ : ∃ z, Sha.hexd.getD yh.toNat 0 = z := ⟨_, rfl⟩
      obtain ⟨dl, hdl⟩ : ∃ z, Sha.hexd.getD yl.toNat 0 = z := ⟨_, rfl⟩
      rw [hdh] at hi1 hnx
      rw [hdl] at hi2 hnx
      obtain ⟨acc, hac⟩ : ∃ a, Sha.hex (s.data.toList.take k) = a := ⟨_, rfl⟩
      have hal : acc.length = 2 * k := by rw [← hac, hex_length, List.length_take]; omega
      rw [hac] at hN hnx
      obtain ⟨a, c, rfl, _, _, _, _⟩ := hN.2.1.form
      rw [hal] at hN ⊢
      have HN := Lib.hid hN
      have Hnx := Lib.hid hnx
      have Hal := Lib.hid hal
      have hown := hN.2.1
      unfold OwnB at hown
      rw [hal] at hown
      have Hown := Lib.hid hown
      clear hN hnx hal hac hyh hyl hy hdh hdl hown hsl
      go_wp2_with fail
      go_region_law (refine step_append_lies _ (by rfl) _ _ _ (by rfl) 0 5 i0 _ 1 1 Tryd.underlying22 hi0 hz0 hz1 hz2 rfl (by omega) (.slice a (2 * k) c) (2 * k) (By acc) (by rfl) (Hown.out.alloc _).drew ⟨wr.heap.size, 0, none⟩ 2 2 [.int .u8 (dh.toNat : Int), .int .u8 (dl.toNat : Int)] (by rfl) (by rfl) (World.news_of_block (cs := #[.int .u8 (dh.toNat : Int), .int .u8 (dl.toNat : Int)]) (t := 5) (fr := (0, 0)) (heap_alloc_new wr _)) (by simp [Value.oneCell']) (by omega) (by unfold maxLen; omega) (by omega) (by omega) (wr.heap.size + 1) (by simp) ?_; intro gg cap w2 hown2 hgrow hat hlt2)
      all_goals
        have N2 := Lib.hid (NewB.wrote HN.out Hal.out (d := [dh, dl]) rfl (o := .cells #[.int .u8 (dh.toNat : Int), .int .u8 (dl.toNat : Int)] 5) hown2 hgrow hat)
        rw [← Hnx.out] at N2
        clear hown2 hgrow hat hlt2 hix hi1 hi2
        go_wp2_with fail
        go_roundw
        case rel => exact ⟨k + 1, by omega, by go_num, N2.out⟩
        case measure => simp [intOf]; omega
    · have e8 : k = s.size := by omega
      rw [e8, List.take_of_length_le (by omega)] at hN
      have hstr := run_toString (P := Tryd.prog) hN.2.1.bv 22 5 9 Tryd.underlying22 Tryd.underlying5 Tryd.underlying9
      have hbe := hN.1
      clear hN e8
      go_wp2_with fail
      go_ret
      exact ⟨rfl, hbe⟩
namespace Sha
theorem hexd_all : ∀ n, n < 16 → isDig (hexd.getD n 0) = true ∧ (dig (hexd.getD n 0)).toNat = n := by decide +kernel
theorem hex_getD (l : List UInt8) (j : Nat) (hj : j < l.length) : (hex l).getD (2 * j) 0 = hexd.getD ((l.getD j 0).toNat / 16) 0 ∧ (hex l).getD (2 * j + 1) 0 = hexd.getD ((l.getD j 0).toNat % 16) 0 := by
  have e : hex l = hex (l.take j) ++ ([hexd.getD ((l.getD j 0).toNat / 16) 0, hexd.getD ((l.getD j 0).toNat % 16) 0] ++ hex (l.drop (j + 1))) := by
    have h1 := hex_take l j hj
    rw [← List.append_assoc, ← h1]
    unfold hex
    rw [← List.flatMap_append, List.take_append_drop]
  have hl : (hex (l.take j)).length = 2 * j := by rw [hex_length, List.length_take]; omega
  rw [e]
  simp [List.getD, hl]
theorem hexOk_hex (l : List UInt8) : hexOk (hex l) = true := by
  unfold hexOk
  rw [Bool.and_eq_true]
  refine ⟨by rw [hex_length]; simp, List.all_eq_true.2 (fun c hc => ?_)⟩
  unfold hex at hc
  obtain ⟨x, _, hx⟩ := List.mem_flatMap.1 hc
  have := x.toNat_lt
  simp only [List.mem_cons, List.not_mem_nil, or_false] at hx
  rcases hx with rfl | rfl
  · exact (hexd_all _ (by omega)).1
  · exact (hexd_all _ (by omega)).1
theorem unhex_hex (l : List UInt8) : unhex (hex l) = l := by
  have hl2 : (hex l).length / 2 = l.length := by rw [hex_length]; omega
  have hul : (unhex (hex l)).length = l.length := by unfold unhex; rw [vals_length]; exact hl2
  apply List.ext_getElem hul
  intro i h1 h2
  have e := unhex_get (hex l) i (by omega)
  have g := hex_getD l i h2
  have hx := (l.getD i 0).toNat_lt
  unfold digAt at e
  rw [g.1, g.2] at e
  have d1 := (hexd_all ((l.getD i 0).toNat / 16) (by omega)).2
  have d2 := (hexd_all ((l.getD i 0).toNat % 16) (by omega)).2
  have p := pair_ok (dig (hexd.getD ((l.getD i 0).toNat / 16) 0)) (dig (hexd.getD ((l.getD i 0).toNat % 16) 0)) (by omega) (by omega)
  rw [← e, d1, d2] at p
  have g1 : (unhex (hex l)).getD i 0 = (unhex (hex l))[i] := by simp [List.getD, h1]
  have g2 : l.getD i 0 = l[i] := by simp [List.getD, h2]
  rw [g1, g2] at p
  exact UInt8.toNat_inj.1 (by omega)
end Sha
end Go.Proofs.YtiakmpnmooobbaaDoor
