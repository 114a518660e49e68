/- The reference decoder's Next, by 'Fr.step'. -/
import Derived.Test.YtggiinfeiilogaaDoorFdY
import Derived.Test.YtggiinfeiilogaaDoorFdZ
namespace Go.Proofs.YtggiinfeiilogaaDoor
open Go.RowKit
def RNextPost (w : World) (b : Nat) (sv : Value) (S : List UInt8) (a : Nat) (e : Ending) (w' : World) : Prop :=
  match Fr.step (S.drop a) with
  | .need => e = .returned (.tuple #[msg0, .bool false, .int .i64 0]) ∧ Stp (· = b) w w' ∧ RefD w' b sv a false
  | .bad => e = .returned (.tuple #[msg0, .bool false, .int .i64 9]) ∧ Stp (· = b) w w' ∧ RefD w' b sv a true
  | .msg k body rest => ∃ bv a', e = .returned (.tuple #[msgV (k.toNat : Int) bv, .bool true, .int .i64 0]) ∧ BV w' (fun x => w.heap.size ≤ x ∧ x < w'.heap.size) bv body ∧ Stp (· = b) w w' ∧ RefD w' b sv a' false ∧ a' ≤ S.length ∧ S.drop a' = rest
section
variable {w w' : World} {F : Nat → Prop} {sv : Value} {S : List UInt8} {b a : Nat}
theorem RefD.below {bad : Bool} (h : RefD w b sv a bad) (hb : Below w.heap.size w w') : RefD w' b sv a bad := Blk.of_same h (hb.block b (Blk.lt h))
theorem refnext_any (h : RefD w b sv a false) (hx : BV w F sv S) (hF : ∀ k, F k → k < w.heap.size) (ha : a ≤ S.length) (hn : S.length ≤ 1000000) :
    Calls Tryd.prog 31 #[.pointer (some ⟨b, 0, none⟩)] w (RNextPost w b sv S a) := by
  have keep : ∀ {e : Ending} {w' : World}, Fr.step (S.drop a) = .need → e = .returned (.tuple #[msg0, .bool false, .int .i64 0]) ∧ Below w.heap.size w w' → RNextPost w b sv S a e w' := fun hs hp => by
    unfold RNextPost; rw [hs]; exact ⟨hp.1, Stp.of_below _ hp.2, h.below hp.2⟩
  by_cases hal : S.length = a
  · have hs : Fr.step (S.drop a) = .need := by rw [List.drop_of_length_le (by omega)]; rfl
    exact (refnext_end h hx hal).mono fun e w' hp => keep hs hp
  have ha' : a < S.length := by omega
  have hdl : (S.drop a).length = S.length - a := List.length_drop
  cases hX : Fr.lenAt (S.drop a) with
  | need =>
    have hs : Fr.step (S.drop a) = .need := by unfold Fr.step; rw [hX]
    exact (refnext_need h hx hF ha' hn hX).mono fun e w' hp => keep hs hp
  | bad =>
    have hs : Fr.step (S.drop a) = .bad := by unfold Fr.step; rw [hX]
    refine (refnext_invalid h hx hF ha' hn hX).mono fun e w' hp => ?_
    unfold RNextPost; rw [hs]; exact hp
  | ok bg s =>
    by_cases hsh : S.length < a + bg + s + 8
    · have hs : Fr.step (S.drop a) = .need := by unfold Fr.step; rw [hX]; simp only; rw [if_pos (by omega)]
      exact (refnext_short h hx hF ha' hn hX hsh).mono fun e w' hp => keep hs hp
    · have hk : (S.drop a)[0]? = some S[a] := by rw [List.getElem?_drop, Nat.add_zero, List.getElem?_eq_getElem ha']
      have hbd : (S.drop (a + bg)).take s = ((S.drop a).drop bg).take s := by rw [List.drop_drop]
      have hiff := Fr.enc_iff hX (by omega) hk
      have hst : Fr.step (S.drop a) = if Fr.chk ((S.drop a).take (bg + s)) = ((S.drop a).drop (bg + s)).take 8 then .msg ((S.drop a).getD 0 0) (((S.drop a).drop bg).take s) ((S.drop a).drop (bg + s + 8)) else .bad := by
        unfold Fr.step; rw [hX]; simp only; rw [if_neg (by omega)]
      by_cases heq : Fr.encM ((S[a].toNat : Int), ((S.drop a).drop bg).take s) = (S.drop a).take (bg + s + 8)
      · rw [if_pos (hiff.1 heq)] at hst
        refine (refnext_whole h hx hF ha' hn hX (by omega) rfl hbd heq).mono ?_
        rintro e w' ⟨bv, he, hbv, hst2, hr⟩
        unfold RNextPost
        rw [hst, show (S.drop a).getD 0 0 = S[a] from by rw [List.getD_eq_getElem?_getD, hk]; rfl]
        exact ⟨bv, _, he, hbv, hst2, hr, by omega, by rw [List.drop_drop]; congr 1; omega⟩
      · rw [if_neg (fun h => heq (hiff.2 h))] at hst
        refine (refnext_wrong h hx hF ha' hn hX (by omega) rfl hbd heq).mono fun e w' hp => ?_
        unfold RNextPost; rw [hst]; exact hp
end
end Go.Proofs.YtggiinfeiilogaaDoor
