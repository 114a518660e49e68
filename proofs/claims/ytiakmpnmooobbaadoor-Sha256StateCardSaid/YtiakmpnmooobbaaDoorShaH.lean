/- Contracts of Hex and FromHex. -/
import Derived.Test.YtiakmpnmooobbaaDoorShaN
import Derived.Laws.Strings
namespace Go.Proofs.YtiakmpnmooobbaaDoor
open Go.RowKit
section
variable {w w' : World}
/-- A slice of bytes that the call appends to; all of it new. -/
def NewB (B : Nat) (w : World) (acc : List UInt8) (sv : Value) (wr : World) : Prop := Below B w wr ∧ OwnB wr sv acc ∧ B ≤ wr.heap.size ∧ ∀ g, sv.ownBlock = some g → B ≤ g
theorem NewB.alloc {B : Nat} {acc : List UInt8} {sv : Value} {wr : World} (h : NewB B w acc sv wr) (o : Obj) : NewB B w acc sv (wr.alloc o) :=
  ⟨h.1.alloc h.2.2.1 o, h.2.1.grow ((Below.refl _ _).alloc (Nat.le_refl _) o), by have := h.2.2.1; simp; omega, h.2.2.2⟩
theorem NewB.drew {B : Nat} {acc : List UInt8} {sv : Value} {wr : World} (h : NewB B w acc sv wr) : NewB B w acc sv wr.drew := ⟨h.1.drew, h.2.1, h.2.2.1, h.2.2.2⟩
theorem NewB.push {B : Nat} {acc m : List UInt8} {sv sv' : Value} {wr wr2 : World} (h : NewB B w acc sv wr) (hO : OwnB wr2 sv' (acc ++ m)) (hg : wr.grownBy wr2 sv.ownBlock) (ho : sv'.ownBlock = sv.ownBlock ∨ sv'.ownBlock = some wr.heap.size) : NewB B w (acc ++ m) sv' wr2 := by
  obtain ⟨h1, h2, h3, h4⟩ := h
  have st : Stp (fun x => sv.ownBlock = some x) wr wr2 := (Stp.refl _ _).grown hg (fun x hx => .inl hx)
  refine ⟨h1.trans (st.below (fun x hx => h4 x hx) h3), hO, Nat.le_trans h3 st.size, fun g e => ?_⟩
  rcases ho with e' | e'
  · exact h4 g (by rw [← e', e])
  · rw [e'] at e; simp only [Option.some.injEq] at e; omega
theorem NewB.made (w : World) (n : Nat) (h : n ≤ 1000000000000) : NewB w.heap.size w [] (.slice (some ⟨w.heap.size, 0, none⟩) 0 n) (w.alloc (.cells (List.replicate n (.int .u8 0)).toArray 5)) := by
  refine ⟨(Below.refl _ _).alloc (Nat.le_refl _) _, ?_, by simp, fun g hg => by simp only [Value.ownBlock, Option.some.injEq] at hg; omega⟩
  unfold OwnB
  exact ⟨by simp [By], .inr ⟨w.heap.size, n, (List.replicate n (Value.int .u8 0)).toArray, rfl, Nat.zero_le _, heap_alloc_new w _, by simp, by unfold maxLen; omega, by simp, by simp [By]⟩⟩
theorem idx_str (s : ByteArray) (k : Nat) (hk : k < s.size) (W : World) : (Instr.index 9 (.string s) (.int .i64 (k : Int))).run Tryd.prog W = .ok (.int .u8 ((s.data.toList.getD k 0).toNat : Int)) W := by
  have hu := Tryd.underlying9
  simp [Instr.index, run_underlying hu, go_sem, hk, List.getD]
  rfl
theorem idx_hexd (x : UInt8) (W : World) (h : x.toNat < 16) : (Instr.index 9 (.string ⟨#[48, 49, 50, 51, 52, 53, 54, 55, 56, 57, 97, 98, 99, 100, 101, 102]⟩) (.int .u8 (x.toNat : Int))).run Tryd.prog W = .ok (.int .u8 ((Sha.hexd.getD x.toNat 0).toNat : Int)) W := by
  have hh : x.toNat = 0 ∨ x.toNat = 1 ∨ x.toNat = 2 ∨ x.toNat = 3 ∨ x.toNat = 4 ∨ x.toNat = 5 ∨ x.toNat = 6 ∨ x.toNat = 7 ∨ x.toNat = 8 ∨ x.toNat = 9 ∨ x.toNat = 10 ∨ x.toNat = 11 ∨ x.toNat = 12 ∨ x.toNat = 13 ∨ x.toNat = 14 ∨ x.toNat = 15 := by omega
  rcases hh with e | e | e | e | e | e | e | e | e | e | e | e | e | e | e | e <;> (rw [e]; rfl)
theorem hex_take (l : List UInt8) (k : Nat) (hk : k < l.length) : Sha.hex (l.take (k + 1)) = Sha.hex (l.take k) ++ [Sha.hexd.getD ((l.getD k 0).toNat / 16) 0, Sha.hexd.getD ((l.getD k 0).toNat % 16) 0] := by
  unfold Sha.hex
  rw [List.take_succ_eq_append_getElem hk, List.flatMap_append]
  simp [List.getD, hk]
theorem hex_length (l : List UInt8) : (Sha.hex l).length = 2 * l.length := by
  induction l with
  | nil => rfl
  | cons a l ih => simp only [Sha.hex, List.flatMap_cons, List.length_append, List.length_cons, List.length_nil] at *; omega
theorem b_and15 (x : UInt8) : bits BinOp.and IntKind.u8 (x.toNat : Int) 15 = ((x.toNat % 16 : Nat) : Int) := by
  have := u8_and_nat x.toNat 15 x.toNat_lt (by omega)
  rw [show ((15 : Nat) : Int) = 15 from rfl] at this
  rw [this, nat_mask4]
theorem NewB.wrote {B q : Nat} {acc d : List UInt8} {sv : Value} {wr w2 : World} {gg cap n : Nat} {o : Obj} (h : NewB B w acc sv wr) (hq : acc.length = q) (hd : d.length = n)
    (hown : w2.ownsRow 0 5 1 (.slice (some ⟨gg, 0, none⟩) (q + n) cap) (q + n) (By acc ++ By d)) (hg : ((wr.alloc o).drew).grownBy w2 sv.ownBlock) (hat : sv.ownBlock = some gg ∨ gg = wr.heap.size + 1) :
    NewB B w (acc ++ d) (.slice (some ⟨gg, 0, none⟩) (q + n) cap) w2 := by
  refine (h.alloc o).drew.push ?_ hg (hat.elim (fun e => .inl e.symm) (fun e => .inr ?_))
  · unfold OwnB
    rw [By_append, List.length_append, hq, hd]
    exact hown
  · subst e; simp [Value.ownBlock]
set_option maxRecDepth 100000 in
set_option maxHeartbeats 1000000 in
theorem hex_any (w : World) (s : ByteArray) (hlen : s.size ≤ 1000000000) :
    Calls Tryd.prog 16 #[.string s] w fun e w' => e = .returned (.string ⟨(Sha.hex s.data.toList).toArray⟩) ∧ Below w.heap.size w w' := by
  obtain ⟨i0, hi0, hz0, hz1, hz2⟩ := info_parts Tryd.infoB
  have N0 := Lib.hid (NewB.made w (2 * s.size) (by omega))
  go_enter Tryd.func16, Tryd.ntmps16
  go_wp2_with (at_make; refine wpList_make_n rfl _ _ _ rfl 5 (.int .u8 0) 1 0 (2 * s.size) Tryd.underlying22 Tryd.infoB rfl rfl rfl (by omega) (by omega) (by unfold maxLen; omega) ?_; generalize w.alloc (.cells (List.replicate (2 * s.size) (.int .u8 0)).toArray 5) = w1 at *)
  go_loopw [3, 11] (fun sv i wr => ∃ k : Nat, k ≤ s.size ∧ i = .int .i64 (k : Int) ∧ NewB w.heap.size w (Sha.hex (s.data.toList.take k)) sv wr) (fun _ i _ => s.size - (intOf i).toNat)
  case atStart => exact ⟨0, by omega, rfl, by simpa [Sha.hex] using N0.out⟩
  case round =>
    obtain ⟨k, hk, rfl, hN⟩ := hrel
    clear N0
    have hsl : s.data.toList.length = s.size := rfl
    by_cases hlt : k < s.size
    · have ik : (k : Int) < (s.size : Int) := by omega
      have hnx := hex_take s.data.toList k (by omega)
      obtain ⟨y, hy⟩ : ∃ y, s.data.toList.getD k 0 = y := ⟨_, rfl⟩
      have hix := fun W : World => idx_str s k hlt W
      rw [hy] at hix hnx
      obtain ⟨yh, hyh⟩ : ∃ z : UInt8, z.toNat = y.toNat / 16 := ⟨y / 16, by simp⟩
      obtain ⟨yl, hyl⟩ : ∃ z : UInt8, z.toNat = y.toNat % 16 := ⟨y % 16, by simp⟩
      have hsh : (y.toNat : Int) / 16 = (yh.toNat : Int) := by omega
      have han : bits BinOp.and IntKind.u8 (y.toNat : Int) 15 = (yl.toNat : Int) := by rw [b_and15, hyl]
      have hi1 := fun W : World => idx_hexd yh W (by have := y.toNat_lt; omega)
      have hi2 := fun W : World => idx_hexd yl W (by omega)
      rw [← hyh, ← hyl] at hnx
      obtain ⟨dh, hdh⟩ : ∃ z, Sha.hexd.getD yh.toNat 0 = z := ⟨_, rfl⟩
      obtain ⟨dl, hdl⟩ : ∃ z, Sha.hexd.getD yl.toNat 0 = z := ⟨_, rfl⟩
      rw [hdh] at hi1 hnx
      rw [hdl] at hi2 hnx
      obtain ⟨acc, hac⟩ : ∃ a, Sha.hex (s.data.toList.take k) = a := ⟨_, rfl⟩
      have hal : acc.length = 2 * k := by rw [← hac, hex_length, List.length_take]; omega
      rw [hac] at hN hnx
      obtain ⟨a, c, rfl, _, _, _, _⟩ := hN.2.1.form
      rw [hal] at hN ⊢
      have HN := Lib.hid hN
      have Hnx := Lib.hid hnx
      have Hal := Lib.hid hal
      have hown := hN.2.1
      unfold OwnB at hown
      rw [hal] at hown
      have Hown := Lib.hid hown
      clear hN hnx hal hac hyh hyl hy hdh hdl hown hsl
      go_wp2_with fail
      go_region_law (refine step_append_lies _ (by rfl) _ _ _ (by rfl) 0 5 i0 _ 1 1 Tryd.underlying22 hi0 hz0 hz1 hz2 rfl (by omega) (.slice a (2 * k) c) (2 * k) (By acc) (by rfl) (Hown.out.alloc _).drew ⟨wr.heap.size, 0, none⟩ 2 2 [.int .u8 (dh.toNat : Int), .int .u8 (dl.toNat : Int)] (by rfl) (by rfl) (World.news_of_block (cs := #[.int .u8 (dh.toNat : Int), .int .u8 (dl.toNat : Int)]) (t := 5) (fr := (0, 0)) (heap_alloc_new wr _)) (by simp [Value.oneCell']) (by omega) (by unfold maxLen; omega) (by omega) (by omega) (wr.heap.size + 1) (by simp) ?_; intro gg cap w2 hown2 hgrow hat hlt2)
      all_goals
        have N2 := Lib.hid (NewB.wrote HN.out Hal.out (d := [dh, dl]) rfl (o := .cells #[.int .u8 (dh.toNat : Int), .int .u8 (dl.toNat : Int)] 5) hown2 hgrow hat)
        rw [← Hnx.out] at N2
        clear hown2 hgrow hat hlt2 hix hi1 hi2
        go_wp2_with fail
        go_roundw
        case rel => exact ⟨k + 1, by omega, by go_num, N2.out⟩
        case measure => simp [intOf]; omega
    · have e8 : k = s.size := by omega
      rw [e8, List.take_of_length_le (by omega)] at hN
      have hstr := run_toString (P := Tryd.prog) hN.2.1.bv 22 5 9 Tryd.underlying22 Tryd.underlying5 Tryd.underlying9
      have hbe := hN.1
      clear hN e8
      go_wp2_with fail
      go_ret
      exact ⟨rfl, hbe⟩
end
end Go.Proofs.YtiakmpnmooobbaaDoor
