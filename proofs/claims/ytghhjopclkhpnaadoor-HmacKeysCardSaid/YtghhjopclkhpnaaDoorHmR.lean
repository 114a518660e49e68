/- Contract of the reference's Expand. -/
import Derived.Test.YtghhjopclkhpnaaDoorHmE
import Derived.Test.YtghhjopclkhpnaaDoorConvA
namespace Go.Proofs.YtghhjopclkhpnaaDoor
open Go.RowKit
theorem str_take (O : ByteArray) (m : Nat) : O.extract 0 m = ⟨(O.data.toList.take m).toArray⟩ := by
  apply ByteArray.ext
  apply Array.ext'
  simp
section
variable {w w' : World}
set_option maxRecDepth 100000 in
set_option maxHeartbeats 4000000 in
theorem refexpand_any (s t : ByteArray) (m : Nat) (hs : s.size ≤ 1000000) (ht : t.size ≤ 1000000) (hm : m ≤ 8160) :
    Calls Tryd.prog 21 #[.string s, .string t, .int .i64 (m : Int)] w fun e w' => e = .returned (.string ⟨(Hm.expand s.data.toList t.data.toList m).toArray⟩) ∧ Below w.heap.size w w' := by
  have im : (m : Int) ≤ 8160 := by omega
  obtain ⟨k, hk⟩ : ∃ k, s.data.toList = k := ⟨_, rfl⟩
  obtain ⟨inf, hinf⟩ : ∃ k, t.data.toList = k := ⟨_, rfl⟩
  have HK := Lib.hid hk
  have HI := Lib.hid hinf
  clear hk hinf
  go_enter Tryd.func21, Tryd.ntmps21
  go_wp2_with fail
  go_loopw [7, 8, 9] (fun s7 s8 s9 wr => ∃ (i : Nat) (L O : ByteArray), 32 * i ≤ m + 31 ∧ s9 = .int .i64 ((i : Int) + 1) ∧ s8 = .string L ∧ s7 = .string O ∧ L.data.toList = Hm.block k inf i ∧ O.data.toList = Hm.stream k inf i ∧ Below w.heap.size w wr) (fun _ _ s9 _ => (m + 64 - 32 * (intOf s9).toNat))
  case atStart => exact ⟨0, ⟨#[]⟩, ⟨#[]⟩, by omega, rfl, rfl, rfl, rfl, rfl, Below.refl _ _⟩
  case round =>
    obtain ⟨i, L, O, hi, rfl, rfl, rfl, hL, hO, hbe⟩ := hrel
    have hOs : O.size = 32 * i := by
      have := Hm.stream_length k inf i
      rw [← hO] at this
      exact this
    have HOS := Lib.hid hOs
    have HL := Lib.hid hL
    have HO := Lib.hid hO
    have HBE := Lib.hid hbe
    have iO : (O.size : Int) = 32 * (i : Int) := by omega
    clear hL hO hbe hOs
    by_cases hlt : 32 * i < m
    · have it : (O.size : Int) < (m : Int) := by omega
      have ii : (i : Int) ≤ 254 := by omega
      have IO := Lib.hid iO
      clear iO
      have hLl : L.size ≤ 32 := by
        have e : L.size = (Hm.block k inf i).length := by rw [← HL.out]; rfl
        rw [e]
        cases i with
        | zero => simp [Hm.block]
        | succ i => rw [Hm.block_length]; omega
      have HLl := Lib.hid hLl
      have hLt : (L ++ t).size = L.size + t.size := by simp
      have iL : (L.size : Int) ≤ 32 := by omega
      obtain ⟨c2, w2, hconv2, hR2, hz2⟩ := conv_row wr (L ++ t) (by omega)
      have hLd : (L ++ t).data.toList = Hm.block k inf i ++ inf := by rw [← HL.out, ← HI.out]; simp
      rw [hLd] at hR2
      have hdl : (Hm.block k inf i ++ inf).length = (L ++ t).size := by rw [← hLd]; rfl
      have HDL := Lib.hid hdl
      have HLT := Lib.hid hLt
      have R2 := Lib.hid hR2
      have hlit : (#[.int .u8 ((i : Int) + 1)] : Array Value).toList = By [UInt8.ofNat (i + 1)] := by
        have e : (UInt8.ofNat (i + 1)).toNat = i + 1 := by simp; omega
        simp only [By, List.map_cons, List.map_nil, e]
        push_cast; rfl
      have HLIT := Lib.hid hlit
      obtain ⟨D, hD⟩ : ∃ D, L ++ t = D := ⟨_, rfl⟩
      rw [hD] at hconv2 R2 HDL HLT
      have hadd : ∀ W : World, (L ++ t) = D := fun _ => hD
      clear hLl hR2 hdl hLt hlit hLd hz2
      have R3 := Lib.hid (R2.out.grow ((Below.refl _ _).alloc (Nat.le_refl _) (.cells #[.int .u8 ((i : Int) + 1)] 5)))
      have X3 := Lib.hid (BV.lits w2 #[.int .u8 ((i : Int) + 1)] [UInt8.ofNat (i + 1)] 1 rfl HLIT.out (by omega))
      clear R2 hadd
      go_wp2_with (at_builtin; refine wpList_append_row rfl (.tmp 20) (.tmp 23) rfl (.slice (some ⟨wr.heap.size, 0, none⟩) D.size c2) _ (by rfl) (by rfl) R3.out X3.out (by simp) (by rw [HDL.out, HLT.out]; have := HLl.out; simp only [List.length_cons, List.length_nil]; omega) ?_; intro a5 c5 w5 hb5 hbv5; have B5 := Lib.hid hb5; have X5 := Lib.hid hbv5; clear hb5 hbv5 R3 X3)
      have X6 : Hid (BV w5 (fun x => wr.heap.size ≤ x ∧ x < w5.heap.size) (.slice a5 ((Hm.block k inf i).length + inf.length + 1) c5) (Hm.block k inf i ++ inf ++ [UInt8.ofNat (i + 1)])) := by
        have := X5.out
        rw [List.length_append] at this
        exact Lib.hid this
      clear X5 hconv2 hD
      refine (reftag_any s X6.out (fun x hx => hx.2) (by omega) (by rw [List.length_append, HDL.out, HLT.out]; have := HLl.out; simp only [List.length_cons, List.length_nil]; omega)).mono ?_
      rintro e w6 ⟨rfl, hb6⟩
      rw [HK.out]
      obtain ⟨V, hV⟩ : ∃ V : ByteArray, (⟨(Hm.tag k (Hm.block k inf i ++ inf ++ [UInt8.ofNat (i + 1)])).toArray⟩ : ByteArray) = V := ⟨_, rfl⟩
      rw [hV]
      have hVd : V.data.toList = Hm.block k inf (i + 1) := by rw [← hV]; rfl
      have hOV : (O ++ V).data.toList = Hm.stream k inf (i + 1) := by
        have : (O ++ V).data.toList = O.data.toList ++ V.data.toList := by simp
        rw [this, HO.out, hVd]; rfl
      have B6 := Lib.hid (HBE.out.trans (B5.out.trans (hb6.mono B5.out.size) |>.mono HBE.out.size))
      have hVs : V.size ≤ 32 := by
        have := Hm.block_length k inf i
        rw [← hVd] at this
        exact Nat.le_of_eq this
      have hOs2 : O.size ≤ 9000 := by have := HOS.out; omega
      have HVd := Lib.hid hVd
      have HOV := Lib.hid hOV
      clear hb6 hV hVd hOV X6 B5
      go_wp2_with fail
      exact ⟨⟨i + 1, V, O ++ V, by omega, by go_num, rfl, rfl, HVd.out, HOV.out, B6.out⟩, by simp [intOf]; omega⟩
    · have hx := Hm.expand_of k inf (n := m) (i := i) (by omega)
      have HX := Lib.hid hx
      have ige : (m : Int) ≤ (O.size : Int) := by omega
      clear hx
      go_wp2_with fail
      go_ret
      refine ⟨?_, HBE.out⟩
      rw [HK.out, HI.out, ← HX.out, ← HO.out, ← str_take]
      rfl
end
end Go.Proofs.YtghhjopclkhpnaaDoor
