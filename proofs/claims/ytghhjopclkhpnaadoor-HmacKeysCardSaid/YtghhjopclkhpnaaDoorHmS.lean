/- Contract of (*Mac).Sum. -/
import Derived.Test.YtghhjopclkhpnaaDoorHmC
import Derived.Test.YtghhjopclkhpnaaDoorJoin2
namespace Go.Proofs.YtghhjopclkhpnaaDoor
open Go.RowKit
/-- The worlds of Sum's statement. -/
structure MsR (W : World) (b : Nat) (k d : List UInt8) (w : World) : Prop where
  below : Below W.heap.size W w
  mac : MacIs w b k d
section
variable {W w w' : World} {b : Nat} {k d : List UInt8} {X V : ByteArray} {Q : Prop}
theorem MsR.keep (hX : (⟨(Hm.pad (Hm.key k) 92).toArray⟩ : ByteArray) = X) (h : MsR W b k d w ∧ Q) (hb : Below w.heap.size w w') :
    MsR W b k d w' ∧ (convert 22 9 (.slice (some ⟨b, 73, none⟩) 64 64)).run Tryd.prog w' = .ok (.string X) w' := by
  have h2 : MsR W b k d w' := ⟨h.1.below.trans (hb.mono h.1.below.size), h.1.mac.grow hb⟩
  exact ⟨h2, by rw [← hX]; exact h2.mac.outer.conv⟩
theorem MsR.sum (h : MsR W b k d w ∧ Q) (hg : Glob W) (hlen : d.length ≤ 900000000) (hV : (⟨(Sha.sum (Hm.pad (Hm.key k) 54 ++ d)).toArray⟩ : ByteArray) = V) :
    Calls Tryd.prog 35 #[.pointer (some ⟨b, 0, none⟩)] w fun e w' => e = .returned (.string V) ∧ Below w.heap.size w w' :=
  shasum_at hV h.1.mac (hg.below h.1.below hg.lt) (by rw [List.length_append, Hm.pad_length]; omega)
theorem MsR.glob (hg : Glob W) (h : MsR W b k d w ∧ Q) : Glob w := hg.below h.1.below hg.lt
theorem MsR.ofS (h : MsR W b k d w ∧ Q) : Below W.heap.size W w := h.1.below
set_option maxRecDepth 100000 in
set_option maxHeartbeats 2000000 in
theorem macsum_any (h : MacIs w b k d) (hg : Glob w) (hlen : d.length ≤ 900000000) :
    Calls Tryd.prog 17 #[.pointer (some ⟨b, 0, none⟩)] w fun e w' => e = .returned (.string ⟨(Hm.tag k d).toArray⟩) ∧ Below w.heap.size w w' := by
  have HG := Lib.hid hg; clear hg
  obtain ⟨X, hX⟩ : ∃ X : ByteArray, (⟨(Hm.pad (Hm.key k) 92).toArray⟩ : ByteArray) = X := ⟨_, rfl⟩
  obtain ⟨V, hV⟩ : ∃ X : ByteArray, (⟨(Sha.sum (Hm.pad (Hm.key k) 54 ++ d)).toArray⟩ : ByteArray) = X := ⟨_, rfl⟩
  obtain ⟨T, hT⟩ : ∃ X : ByteArray, (⟨(Hm.tag k d).toArray⟩ : ByteArray) = X := ⟨_, rfl⟩
  have hT2 : (⟨(Sha.sum (Hm.pad (Hm.key k) 92 ++ Sha.sum (Hm.pad (Hm.key k) 54 ++ d))).toArray⟩ : ByteArray) = T := hT
  have HX := Lib.hid hX
  have HV := Lib.hid hV
  have HT := Lib.hid hT
  have HT2 := Lib.hid hT2
  have hlo : (Hm.pad (Hm.key k) 92 ++ Sha.sum (Hm.pad (Hm.key k) 54 ++ d)).length ≤ 1000000000 := by rw [List.length_append, Hm.pad_length, Hm.sum_length]; omega
  have HLO := Lib.hid hlo
  have hS0 := MsR.keep (W := w) hX ⟨⟨Below.refl _ _, h⟩, trivial⟩ (Below.refl _ _)
  clear h hX hV hT hT2 hlo
  go_enter Tryd.func17, Tryd.ntmps17
  go_wp2_with fail
  go_region_held3 (fun w' => MsR w b k d w' ∧ (convert 22 9 (.slice (some ⟨b, 73, none⟩) 64 64)).run Tryd.prog w' = .ok (.string X) w')
    (first
      | exact MsR.keep HX.out (by assumption) hb
      | exact MsR.keep HX.out (by assumption) ((Below.refl _ _).alloc (Nat.le_refl _) _)
      | exact MsR.keep HX.out (by assumption) (Below.refl _ _).drew)
    (first
      | (go_at_call 35; refine (MsR.sum (by assumption) HG.out hlen HV.out).mono ?_; rintro e w' ⟨rfl, hb⟩)
      | (go_at_call 31; refine (shajoin2_at HX.out HV.out HT2.out (lits2 _ X V) (MsR.glob (b := b) (k := k) (d := d) HG.out (by assumption)) HLO.out).mono ?_; rintro e w' ⟨rfl, hb⟩))
  all_goals
    go_wp2_with fail
    go_ret
    exact ⟨by rw [HT.out]; rfl, MsR.ofS (b := b) (k := k) (d := d) (by assumption)⟩
end
end Go.Proofs.YtghhjopclkhpnaaDoor
