/- Contracts of the batch reader's 'number' and 'read'. -/
import Derived.Test.YtcpcnfedbffecaaDoorJnH
import Derived.Laws.BitsAllLaws
namespace Go.Proofs.YtcpcnfedbffecaaDoor
open Go.RowKit Go.Maps
set_option linter.unusedSimpArgs false
theorem Jn.val_snoc (l : List UInt8) (x : UInt8) : Jn.val (l ++ [x]) = Jn.val l * 256 + x.toNat := by simp [Jn.val, List.foldl_append]
theorem ofInt_i64 (a : Nat) (ha : a < 9223372036854775808) : (BitVec.ofInt 64 (a : Int)).toNat = a := by
  rw [BitVec.ofInt_natCast, BitVec.toNat_ofNat]; exact Nat.mod_eq_of_lt (by omega)
theorem i64_or_nat (a b : Nat) (ha : a < 9223372036854775808) (hb : b < 9223372036854775808) : bits .or .i64 (a : Int) (b : Int) = ((a ||| b : Nat) : Int) := by
  have hx : a ||| b < 2 ^ 63 := Nat.or_lt_two_pow (by omega) (by omega)
  show IntKind.i64.wrap ((BitVec.ofInt 64 (a : Int) ||| BitVec.ofInt 64 (b : Int)).toNat : Int) = _
  rw [BitVec.toNat_or, ofInt_i64 a ha, ofInt_i64 b hb, IntKind.wrap_i64]
  omega
theorem or_byte (v : Nat) (x : UInt8) (h : v < 16777216) : bits .or .i64 ((v : Int) * 256) (x.toNat : Int) = ((v * 256 + x.toNat : Nat) : Int) := by
  have hx := x.toNat_lt
  rw [show (v : Int) * 256 = ((v * 256 : Nat) : Int) from by omega, i64_or_nat _ _ (by omega) (by omega)]
  have h2 := Nat.shiftLeft_add_eq_or_of_lt (b := x.toNat) (i := 8) (by omega) v
  rw [Nat.shiftLeft_eq] at h2
  rw [← h2]
section
variable {w w' : World} {F G FD : Nat → Prop} {s : DSt} {br bd nx nx' en off n : Nat} {dv : Value} {D D' : List UInt8}
set_option maxRecDepth 100000 in
set_option maxHeartbeats 4000000 in
theorem number_any (h : BrAt w br bd nx en dv D off) (hD : DiskAt w s bd FD) (hc : s.Calm) (hbr : ¬ FD br) (hen : nx ≤ en) (hen2 : en ≤ 65536) (hoff : off + 4 ≤ D.length) (hDl : D.length ≤ 100000) :
    Calls Tryd.prog 44 #[.pointer (some ⟨br, 0, none⟩)] w fun e w' =>
      ∃ dv', e = .returned (.tuple #[.int .i64 (Jn.val ((D.drop off).take 4) : Int), .bool true]) ∧ Stp (fun k => k = br) w w' ∧ BrAt w' br bd nx en dv' D (off + 4) := by
  have V := Lib.hid (take_any (n := 4) (D' := D) (nx' := nx) h hD hc hbr (by omega) (by omega) hen hen2 (by omega) hDl (.inl ⟨rfl, hoff, rfl⟩))
  have hl4 : ((D.drop off).take 4).length = 4 := by rw [List.length_take, List.length_drop]; omega
  obtain ⟨l4, hl⟩ : ∃ l4, (D.drop off).take 4 = l4 := ⟨_, rfl⟩
  rw [hl] at hl4 V ⊢
  clear h hD hc hbr hen hen2 hoff hDl hl
  go_enter Tryd.func44, Tryd.ntmps44
  go_wp2_with (go_at_call 43; refine (V.out).mono ?_; rintro e w1 ⟨sv, dv1, rfl, hst, hBr, hbv⟩; obtain ⟨sa, sc, rfl, _, _, hget⟩ := hbv.get; rw [hl4]; have HGET := Lib.hid hget; have HX := Lib.hid (And.intro hst hBr); clear hst hBr hbv hget)
  go_loopw [6, 18] (fun n i wr => ∃ k : Nat, k ≤ 4 ∧ i = .int .i64 (k : Int) ∧ w1 = wr ∧ n = .int .i64 (Jn.val (l4.take k) : Int)) (fun _ i _ => 4 - (intOf i).toNat)
  case atStart => exact ⟨0, by omega, rfl, rfl, rfl⟩
  case round =>
    obtain ⟨k, hk, rfl, rfl, rfl⟩ := hrel
    have hvb := Jn.val_lt (l4.take k)
    rw [List.length_take, hl4] at hvb
    by_cases hlt : k < 4
    · have ik : (k : Int) < 4 := by omega
      obtain ⟨pb, po, rfl, _, pc⟩ := HGET.out k (by omega)
      have htk : Jn.val (l4.take (k + 1)) = Jn.val (l4.take k) * 256 + (l4[k]'(by omega)).toNat := by
        rw [List.take_succ_eq_append_getElem (by omega), Jn.val_snoc]
      have HTK := Lib.hid htk
      have hb3 : Jn.val (l4.take k) < 256 ^ 3 := by
        have : min k 4 ≤ 3 := by omega
        exact Nat.lt_of_lt_of_le hvb (Nat.pow_le_pow_right (by omega) this)
      have hx := (l4[k]'(by omega)).toNat_lt
      generalize Jn.val (l4.take k) = v at *
      generalize (l4[k]'(by omega)) = x at *
      clear hvb htk
      go_wp2_with fail
      refine ⟨⟨k + 1, by omega, by go_num, trivial, ?_⟩, by simp [intOf]; omega⟩
      rw [HTK.out, or_byte v x hb3]
    · obtain rfl : k = 4 := by omega
      have e4 : l4.take 4 = l4 := List.take_of_length_le (by omega)
      rw [e4]
      go_wp2_with fail
      go_ret2
      exact ⟨_, rfl, HX.out.1, HX.out.2⟩
end
end Go.Proofs.YtcpcnfedbffecaaDoor
