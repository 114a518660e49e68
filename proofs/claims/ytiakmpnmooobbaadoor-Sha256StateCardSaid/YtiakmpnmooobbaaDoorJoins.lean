/- The walk of Sha256Joins. -/
import Derived.Test.YtiakmpnmooobbaaDoorRefJ
namespace Go.Proofs.YtiakmpnmooobbaaDoor
open Go.RowKit
/-- The sum of lengths. -/
def Lens (l : List ByteArray) : Nat := (Cat l).length
theorem Lens_take (l : List ByteArray) (k : Nat) (hk : k < l.length) : Lens (l.take (k + 1)) = Lens (l.take k) + l[k].size := by
  unfold Lens; rw [Cat_take l k hk, List.length_append]; rfl
theorem Lens_le (l : List ByteArray) (B : Nat) (h : ∀ s ∈ l, s.size ≤ B) : Lens l ≤ l.length * B := by
  induction l with
  | nil => simp [Lens, Cat]
  | cons a l ih =>
    have h1 := ih (fun s hs => h s (List.mem_cons_of_mem _ hs))
    have h2 := h a (List.mem_cons_self)
    have e : Lens (a :: l) = a.size + Lens l := by
      unfold Lens Cat; rw [List.flatMap_cons, List.length_append]; rfl
    rw [e, List.length_cons, Nat.add_mul]; omega
set_option maxRecDepth 100000 in
set_option maxHeartbeats 2000000 in
theorem sha256Joins_walk (w : World) (hg : Glob w) (xv : Value) (ps : List ByteArray) (hx : StringsV w (fun k => k < w.heap.size) xv ps) (hps : ∀ s ∈ ps, s.size ≤ 140737488351232) :
    Calls Tryd.prog 4 #[xv] w fun e w' => e = .returned (.bool true) ∧ Below w.heap.size w w' := by
  obtain ⟨xa, xc, rfl, xc1, xc2, hget⟩ := hx.get
  unfold maxLen at xc2
  have HG := Lib.hid hg; clear hg
  have HX := Lib.hid hx; clear hx
  have HGET := Lib.hid hget; clear hget
  have HPS := Lib.hid hps; clear hps
  go_enter Tryd.func4, Tryd.ntmps4
  go_wp2_with fail
  go_loop [3, 4] (fun sn i => ∃ (k : Nat) (z : Int), k ≤ ps.length ∧ i = .int .i64 (k : Int) ∧ sn = .int .i64 z ∧ (k ≤ 8 → z = (Lens (ps.take k) : Int))) (fun _ i => ps.length - (intOf i).toNat)
  case atStart => exact ⟨0, 0, by omega, rfl, rfl, fun _ => rfl⟩
  case round =>
    obtain ⟨k, z, hk, rfl, rfl, hz⟩ := hrel
    by_cases hlt : k < ps.length
    · have ik : (k : Int) < (ps.length : Int) := by omega
      obtain ⟨pb, po, rfl, _, pc⟩ := HGET.out k hlt
      have htk := Lens_take ps k hlt
      have hsz := HPS.out ps[k] (List.getElem_mem _)
      obtain ⟨t, ht⟩ : ∃ s, ps[k] = s := ⟨_, rfl⟩
      rw [ht] at pc htk hsz
      have Htk := Lib.hid htk
      clear htk ht
      by_cases h8 : k < 8
      · have hz2 := hz (by omega)
        have hbd : Lens (ps.take k) ≤ 8 * 140737488351232 := by
          have h1 := Lens_le (ps.take k) 140737488351232 (fun s hs => HPS.out s (List.mem_of_mem_take hs))
          rw [List.length_take] at h1
          have : min k ps.length ≤ 8 := by omega
          exact Nat.le_trans h1 (Nat.mul_le_mul_right _ this)
        obtain ⟨n, hn⟩ : ∃ n, Lens (ps.take k) = n := ⟨_, rfl⟩
        rw [hn] at hz2 hbd Htk
        subst hz2
        clear hz hn
        go_wp2_with fail
        go_round
        case rel => exact ⟨k + 1, (n : Int) + (t.size : Int), by omega, by go_num, rfl, fun _ => by rw [Htk.out]; push_cast; rfl⟩
        case measure => simp [intOf]; omega
      · clear hz
        go_wp2_with fail
        go_round
        case rel => exact ⟨k + 1, _, by omega, by go_num, rfl, fun h => by omega⟩
        case measure => simp [intOf]; omega
    · have e8 : k = ps.length := by omega
      rw [e8, List.take_length] at hz
      rw [show (k : Int) = (ps.length : Int) from by omega]
      have Hz := Lib.hid hz
      clear hz e8 hk hlt
      by_cases hlen : 8 < ps.length
      · have il : (8 : Int) < (ps.length : Int) := by omega
        go_wp2_with fail
        refine (awake_any w HG.out).mono ?_
        rintro e w1 ⟨rfl, hb1⟩
        have B1 := Lib.hid hb1; clear hb1
        go_wp2_with fail
        refine (awake_any w1 (HG.out.below B1.out HG.out.lt)).mono ?_
        rintro e w2 ⟨rfl, hb2⟩
        go_wp2_with fail
        go_ret
        exact ⟨rfl, B1.out.trans (hb2.mono B1.out.size)⟩
      have il : (ps.length : Int) ≤ 8 := by omega
      obtain rfl := Hz.out (by omega)
      obtain ⟨n, hn⟩ : ∃ n, Lens ps = n := ⟨_, rfl⟩
      rw [hn]
      have Hn := Lib.hid hn
      clear hn Hz hlen
      by_cases h3 : 300 < n
      · have i3 : (300 : Int) < (n : Int) := by omega
        go_wp2_with fail
        refine (awake_any w HG.out).mono ?_
        rintro e w1 ⟨rfl, hb1⟩
        have B1 := Lib.hid hb1; clear hb1
        go_wp2_with fail
        refine (awake_any w1 (HG.out.below B1.out HG.out.lt)).mono ?_
        rintro e w2 ⟨rfl, hb2⟩
        go_wp2_with fail
        go_ret
        exact ⟨rfl, B1.out.trans (hb2.mono B1.out.size)⟩
      have i3 : (n : Int) ≤ 300 := by omega
      have hcat : (Cat ps).length ≤ 1000000000 := by have := Hn.out; unfold Lens at this; omega
      go_wp2_with fail
      refine (awake_any w HG.out).mono ?_
      rintro e w1 ⟨rfl, hb1⟩
      have B1 := Lib.hid hb1; clear hb1
      go_wp2_with fail
      refine (shajoin_any ((SV.same HX.out (fun y hy => B1.out.block y hy)).mono (fun y hy => Nat.lt_of_lt_of_le hy B1.out.size)) (HG.out.below B1.out HG.out.lt) hcat).mono ?_
      rintro e w2 ⟨rfl, hb2⟩
      have B2 := Lib.hid (B1.out.trans (hb2.mono B1.out.size))
      obtain ⟨v, hv⟩ : ∃ v : ByteArray, (⟨(Sha.sum (Cat ps)).toArray⟩ : ByteArray) = v := ⟨_, rfl⟩
      rw [hv]
      have Hv := Lib.hid hv
      clear hb2 B1 hv
      go_wp2_with fail
      refine (refjoin_any ((SV.same HX.out (fun y hy => B2.out.block y hy)).mono (fun y hy => Nat.lt_of_lt_of_le hy B2.out.size)) hcat).mono ?_
      rintro e w3 ⟨rfl, hb3⟩
      rw [Hv.out]
      have B3 := Lib.hid (B2.out.trans (hb3.mono B2.out.size))
      clear hb3 B2
      go_wp2_with fail
      go_ret
      exact ⟨rfl, B3.out⟩
end Go.Proofs.YtiakmpnmooobbaaDoor
