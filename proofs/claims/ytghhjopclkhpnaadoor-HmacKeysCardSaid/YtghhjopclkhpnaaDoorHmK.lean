/- Contracts of Equal, begins and awake of chapter 5. -/
import Derived.Test.YtghhjopclkhpnaaDoorHmD
import Derived.Test.YtghhjopclkhpnaaDoorHmV
import Derived.BigQuiet
import Derived.Deep.QuietTactic
namespace Go.Proofs.YtghhjopclkhpnaaDoor
open Go.RowKit
theorem str_toList (a b : ByteArray) : a.toList = b.toList ↔ a = b := by
  rw [ByteArray.toList_eq, ByteArray.toList_eq]
  exact ⟨fun h => ByteArray.ext (Array.ext' h), fun h => by rw [h]⟩
section
variable {w w' : World} {F : Nat → Prop} {xv : Value} {l : List UInt8}
set_option maxHeartbeats 400000 in
theorem equal_any (a b : ByteArray) : Calls Tryd.prog 22 #[.string a, .string b] w fun e w' => e = .returned (.bool (decide (a.size = 32) && (a.toList == b.toList))) ∧ w = w' := by
  by_cases h : a.size = 32
  · have i1 : ((a.size : Int) == 32) = true := by rw [beq_iff_eq]; omega
    obtain ⟨c, hc⟩ : ∃ c, (a.toList == b.toList) = c := ⟨_, rfl⟩
    rw [decide_eq_true h, Bool.true_and]
    rw [hc]
    clear h
    go_enter Tryd.func22, Tryd.ntmps22
    go_wp2_with fail
    go_ret
    exact ⟨rfl, rfl⟩
  · have i1 : ((a.size : Int) == 32) = false := by rw [beq_eq_false_iff_ne]; omega
    rw [decide_eq_false h, Bool.false_and]
    clear h
    go_enter Tryd.func22, Tryd.ntmps22
    go_wp2_with fail
    go_ret
    exact ⟨rfl, rfl⟩
set_option maxHeartbeats 1000000 in
theorem begins_any (s : ByteArray) (hx : BV w F xv l) (hl : l.length ≤ s.size) (hs : s.size ≤ 1000000) (hp : s.data.toList.take l.length = l) :
    Calls Tryd.prog 28 #[.string s, xv] w fun e w' => e = .returned (.bool true) ∧ Below w.heap.size w w' := by
  obtain ⟨xa, xc, rfl, xc1, xc2, _⟩ := hx.get
  unfold maxLen at xc2
  have i1 : ¬ (s.size : Int) < (l.length : Int) := by omega
  have HX := Lib.hid hx
  have HP := Lib.hid hp
  clear hx hp
  go_enter Tryd.func28, Tryd.ntmps28
  go_wp2_with fail
  go_loopw [5] (fun s5 wr => ∃ i : Nat, i ≤ l.length ∧ s5 = .int .i64 (i : Int) ∧ Below w.heap.size w wr) (fun s5 _ => l.length - (intOf s5).toNat)
  case atStart => exact ⟨0, by omega, rfl, Below.refl _ _⟩
  case round =>
    obtain ⟨i, hi, rfl, hbe⟩ := hrel
    have HBE := Lib.hid hbe
    clear hbe
    by_cases hlt : i < l.length
    · have it : (i : Int) < (l.length : Int) := by omega
      have i2 : (i : Int) < (s.size : Int) := by omega
      have i3 : (0 : Int) ≤ (i : Int) := by omega
      obtain ⟨_, _, e1, _, _, hget⟩ := (HX.out.grow HBE.out).get
      obtain ⟨rfl, rfl⟩ : _ ∧ _ := by simpa using e1
      obtain ⟨pb, po, rfl, _, pc⟩ := hget i hlt
      have hix := fun W : World => idx_str2 s i (by omega) W
      have hbyte : s.data.toList.getD i 0 = l[i] := by
        have h2 := congrArg (fun x => x.getD i 0) HP.out
        simp only [List.getD, List.getElem?_take, if_pos hlt] at h2
        rw [List.getD_eq_getElem?_getD, h2, List.getElem?_eq_getElem hlt]; rfl
      rw [hbyte] at hix
      obtain ⟨y, hy⟩ : ∃ y, l[i] = y := ⟨_, rfl⟩
      rw [hy] at hix pc
      clear hget e1 hbyte hy
      go_wp2_with fail
      go_quiet (fail)
      go_wp2_with fail
      refine ⟨⟨i + 1, by omega, by go_num, below_drewN2 HBE.out _⟩, by simp [intOf]; omega⟩
    · have e8 : (i : Int) = (l.length : Int) := by omega
      rw [e8]
      clear hlt hi e8
      go_wp2_with fail
      go_ret
      exact ⟨rfl, HBE.out⟩
end
def secS : ByteArray := ⟨#[11, 11, 11, 11, 11, 11, 11, 11, 11, 11, 11, 11, 11, 11, 11, 11, 11, 11, 11, 11, 11, 11]⟩
theorem secS_d : secS.data.toList = Hm.sec := rfl
set_option maxRecDepth 100000 in
set_option maxHeartbeats 4000000 in
theorem awake5_any (w : World) (hg : Glob w) : Calls Tryd.prog 13 #[] w fun e w' => e = .returned (.bool true) ∧ Below w.heap.size w w' := by
  have HG := Lib.hid hg; clear hg
  have X1 : Hid (BV (w.alloc (.cells #[.int .u8 119, .int .u8 104, .int .u8 97, .int .u8 116, .int .u8 32, .int .u8 100, .int .u8 111, .int .u8 32, .int .u8 121, .int .u8 97, .int .u8 32, .int .u8 119, .int .u8 97, .int .u8 110, .int .u8 116, .int .u8 32, .int .u8 102, .int .u8 111, .int .u8 114, .int .u8 32, .int .u8 110, .int .u8 111, .int .u8 116, .int .u8 104, .int .u8 105, .int .u8 110, .int .u8 103, .int .u8 63] 5 (28, 29))) (· = w.heap.size) (.slice (some ⟨w.heap.size, 0, none⟩) 28 28) Hm.want) := BV.made w Hm.want 5 (28, 29) (by unfold maxLen; decide)
  have B1 := Lib.hid ((Below.refl w.heap.size w).alloc (Nat.le_refl _) (.cells #[.int .u8 119, .int .u8 104, .int .u8 97, .int .u8 116, .int .u8 32, .int .u8 100, .int .u8 111, .int .u8 32, .int .u8 121, .int .u8 97, .int .u8 32, .int .u8 119, .int .u8 97, .int .u8 110, .int .u8 116, .int .u8 32, .int .u8 102, .int .u8 111, .int .u8 114, .int .u8 32, .int .u8 110, .int .u8 111, .int .u8 116, .int .u8 104, .int .u8 105, .int .u8 110, .int .u8 103, .int .u8 63] 5 (28, 29)))
  have Z1 : Hid ((w.alloc (.cells #[.int .u8 119, .int .u8 104, .int .u8 97, .int .u8 116, .int .u8 32, .int .u8 100, .int .u8 111, .int .u8 32, .int .u8 121, .int .u8 97, .int .u8 32, .int .u8 119, .int .u8 97, .int .u8 110, .int .u8 116, .int .u8 32, .int .u8 102, .int .u8 111, .int .u8 114, .int .u8 32, .int .u8 110, .int .u8 111, .int .u8 116, .int .u8 104, .int .u8 105, .int .u8 110, .int .u8 103, .int .u8 63] 5 (28, 29))).heap.size = w.heap.size + 1) := by exact Array.size_push ..
  have kc := fun (w : World) (C : Array Value) (n c : Nat) => Lib.run_convert_bytes_const (P := Tryd.prog) w 22 5 C n c Tryd.underlying22 Tryd.underlying5
  go_enter Tryd.func13, Tryd.ntmps13
  go_wp2_with fail
  generalize w.alloc (.cells #[.int .u8 119, .int .u8 104, .int .u8 97, .int .u8 116, .int .u8 32, .int .u8 100, .int .u8 111, .int .u8 32, .int .u8 121, .int .u8 97, .int .u8 32, .int .u8 119, .int .u8 97, .int .u8 110, .int .u8 116, .int .u8 32, .int .u8 102, .int .u8 111, .int .u8 114, .int .u8 32, .int .u8 110, .int .u8 111, .int .u8 116, .int .u8 104, .int .u8 105, .int .u8 110, .int .u8 103, .int .u8 63] 5 (28, 29)) = w1 at *
  refine (hmtag_any ⟨#[74, 101, 102, 101]⟩ X1.out (fun k hk => by have := Z1.out; omega) (HG.out.below B1.out HG.out.lt) (by decide) (by decide)).mono ?_
  rintro e w2 ⟨rfl, hb2⟩
  have B2 := Lib.hid (B1.out.trans (hb2.mono B1.out.size))
  have hT : ∃ T : ByteArray, (⟨(Hm.tag (⟨#[74, 101, 102, 101]⟩ : ByteArray).data.toList Hm.want).toArray⟩ : ByteArray) = T ∧ T.size = 32 ∧ T.data.toList.take 4 = [91, 220, 193, 70] := ⟨_, rfl, Hm.tag_length Hm.jefe Hm.want, Hm.aw1⟩
  obtain ⟨T, hT, hTs, hTt⟩ := hT
  rw [hT]
  have HTT := Lib.hid hTt
  have hTi : (T.size : Int) = 32 := by omega
  have HTi := Lib.hid hTi
  have HTs := Lib.hid hTs
  clear hb2 hT hTs hTt hTi X1 Z1 B1
  go_wp2_with fail
  refine (extract_any ⟨#[]⟩ ⟨#[11, 11, 11, 11, 11, 11, 11, 11, 11, 11, 11, 11, 11, 11, 11, 11, 11, 11, 11, 11, 11, 11]⟩ (HG.out.below B2.out HG.out.lt) (by decide) (by decide)).mono ?_
  rintro e w3 ⟨rfl, hb3⟩
  have B3 := Lib.hid (B2.out.trans (hb3.mono B2.out.size))
  have hK : ∃ T : ByteArray, (⟨(Hm.tag (⟨#[]⟩ : ByteArray).data.toList (⟨#[11, 11, 11, 11, 11, 11, 11, 11, 11, 11, 11, 11, 11, 11, 11, 11, 11, 11, 11, 11, 11, 11]⟩ : ByteArray).data.toList).toArray⟩ : ByteArray) = T ∧ T.size = 32 ∧ T.data.toList.take 4 = [25, 239, 36, 163] ∧ T.data.toList = Hm.tag [] Hm.sec := ⟨_, rfl, Hm.tag_length [] Hm.sec, Hm.aw2, rfl⟩
  obtain ⟨K, hK, hKs, hKt, hKd⟩ := hK
  rw [hK]
  have HKt := Lib.hid hKt
  have HKs := Lib.hid hKs
  have HKd := Lib.hid hKd
  clear hb3 hK hKs hKt hKd B2
  go_wp2_with fail
  refine (expand_any K ⟨#[]⟩ 42 (HG.out.below B3.out HG.out.lt) (by have := HKs.out; omega) (by decide) (by omega) (by omega)).mono ?_
  rintro e w4 ⟨rfl, hb4⟩
  have B4 := Lib.hid (B3.out.trans (hb4.mono B3.out.size))
  have hO : ∃ T : ByteArray, ExpV K.data.toList (⟨#[]⟩ : ByteArray).data.toList 42 = .tuple #[.string T, .int .i64 0] ∧ T.size = 42 ∧ T.data.toList.take 4 = [141, 164, 231, 117] := by
    refine ⟨⟨(Hm.expand K.data.toList [] 42).toArray⟩, ?_, ?_, ?_⟩
    · have := nil_lt K
      have := HKs.out
      unfold ExpV; rw [if_neg (by omega), if_neg (by omega)]; rfl
    · exact Hm.expand_length _ _ _
    · rw [HKd.out]; exact Hm.aw3
  obtain ⟨O, hO, hOs, hOt⟩ := hO
  rw [hO]
  have HOt := Lib.hid hOt
  have HOs := Lib.hid hOs
  clear hb4 hO hOs hOt B3
  have tl : (T.size : Int) = 32 := HTi.out
  have ol : (O.size : Int) = 42 := by have := HOs.out; omega
  have X5 := Lib.hid (BV.lits w4 #[.int .u8 91, .int .u8 220, .int .u8 193, .int .u8 70] [91, 220, 193, 70] 4 rfl rfl (by omega))
  have B5a := Lib.hid (B4.out.alloc B4.out.size (.cells #[.int .u8 91, .int .u8 220, .int .u8 193, .int .u8 70] 5))
  go_wp2_with fail
  generalize w4.alloc (.cells #[.int .u8 91, .int .u8 220, .int .u8 193, .int .u8 70] 5) = w5a at *
  refine (begins_any T X5.out (by have := HTs.out; show 4 ≤ _; omega) (by have := HTs.out; omega) HTT.out).mono ?_
  rintro e w5 ⟨rfl, hb5⟩
  have B5 := Lib.hid (B5a.out.trans (hb5.mono B5a.out.size))
  clear hb5 X5 B5a B4
  have X6 := Lib.hid (BV.lits w5 #[.int .u8 25, .int .u8 239, .int .u8 36, .int .u8 163] [25, 239, 36, 163] 4 rfl rfl (by omega))
  have B6a := Lib.hid (B5.out.alloc B5.out.size (.cells #[.int .u8 25, .int .u8 239, .int .u8 36, .int .u8 163] 5))
  go_wp2_with fail
  generalize w5.alloc (.cells #[.int .u8 25, .int .u8 239, .int .u8 36, .int .u8 163] 5) = w6a at *
  refine (begins_any K X6.out (by have := HKs.out; show 4 ≤ _; omega) (by have := HKs.out; omega) HKt.out).mono ?_
  rintro e w6 ⟨rfl, hb6⟩
  have B6 := Lib.hid (B6a.out.trans (hb6.mono B6a.out.size))
  clear hb6 X6 B6a B5
  have X7 := Lib.hid (BV.lits w6 #[.int .u8 141, .int .u8 164, .int .u8 231, .int .u8 117] [141, 164, 231, 117] 4 rfl rfl (by omega))
  have B7a := Lib.hid (B6.out.alloc B6.out.size (.cells #[.int .u8 141, .int .u8 164, .int .u8 231, .int .u8 117] 5))
  go_wp2_with fail
  generalize w6.alloc (.cells #[.int .u8 141, .int .u8 164, .int .u8 231, .int .u8 117] 5) = w7a at *
  refine (begins_any O X7.out (by have := HOs.out; show 4 ≤ _; omega) (by have := HOs.out; omega) HOt.out).mono ?_
  rintro e w7 ⟨rfl, hb7⟩
  have B7 := Lib.hid (B7a.out.trans (hb7.mono B7a.out.size))
  clear hb7 X7 B7a B6
  go_wp2_with fail
  go_ret
  exact ⟨rfl, B7.out⟩
end Go.Proofs.YtghhjopclkhpnaaDoor
