/- The walk of HmacStreams. -/
import Derived.Test.YtghhjopclkhpnaaDoorHmK
namespace Go.Proofs.YtghhjopclkhpnaaDoor
open Go.RowKit
/-- A Mac at block b and a slice of its own that holds the same data; all of it new. -/
def StrR (w : World) (b : Nat) (k acc : List UInt8) (sv : Value) (wr : World) : Prop :=
  Below w.heap.size w wr ∧ MacIs wr b k acc ∧ OwnB wr sv acc ∧ w.heap.size ≤ b ∧ ∀ g, sv.ownBlock = some g → b < g
section
variable {w wr w' : World} {b : Nat} {k acc x : List UInt8} {sv sv' : Value}
theorem StrR.grow (h : StrR w b k acc sv wr) (hb : Below wr.heap.size wr w') : StrR w b k acc sv w' :=
  ⟨h.1.trans (hb.mono h.1.size), h.2.1.grow hb, h.2.2.1.grow hb, h.2.2.2.1, h.2.2.2.2⟩
/-- Behind a Write and the append of the same bytes. -/
theorem StrR.both {w1 w2 : World} (h : StrR w b k acc sv wr) (hs : Stp (· = b) wr w1) (hM : MacIs w1 b k (acc ++ x)) (hO : OwnB w2 sv' (acc ++ x)) (hg : w1.grownBy w2 sv.ownBlock) (ho : sv'.ownBlock = sv.ownBlock ∨ sv'.ownBlock = some w1.heap.size) : StrR w b k (acc ++ x) sv' w2 := by
  obtain ⟨h1, h2, h3, h4, h5⟩ := h
  have hb1 := ShaIs.lt hM
  have st : Stp (fun x => sv.ownBlock = some x) w1 w2 := (Stp.refl _ _).grown hg (fun x hx => .inl hx)
  refine ⟨(h1.trans (hs.below (B := w.heap.size) (fun x hx => by omega) h1.size)).trans (st.below (B := w.heap.size) (fun x hx => by have := h5 x hx; omega) (Nat.le_trans h1.size hs.size)), hM.of_same (st.keep b hb1 (fun e => by have := h5 b e; omega)), hO, h4, fun g e => ?_⟩
  rcases ho with e' | e'
  · exact h5 g (by rw [← e', e])
  · rw [e'] at e; simp only [Option.some.injEq] at e; omega
theorem StrR.own (h : StrR w b k acc sv wr) {w1 : World} (hs : Stp (· = b) wr w1) : OwnB w1 sv acc :=
  h.2.2.1.same (F := fun g => sv.ownBlock = some g) (fun g hg => hs.keep g (h.2.2.1.lt g hg) (by have := h.2.2.2.2 g hg; omega)) (fun _ e => e)
end
theorem BVnil (w : World) (F : Nat → Prop) : BV w F (.slice none 0 0) [] := BV.nil w F
set_option maxRecDepth 100000 in
set_option maxHeartbeats 4000000 in
theorem hmacStreams_walk (w : World) (hg : Glob w) (s : ByteArray) (_ : s.size ≤ maxLen) (xv : Value) (L : List (List UInt8)) (hx : LV w (fun k => k < w.heap.size) xv L) :
    Calls Tryd.prog 4 #[.string s, xv] w fun e w' => e = .returned (.bool true) ∧ Below w.heap.size w w' := by
  obtain ⟨xa, xc, rfl, xc1, xc2, _⟩ := hx.get
  unfold maxLen at xc2
  have HX := Lib.hid hx; clear hx
  have HG := Lib.hid hg; clear hg
  by_cases h1 : 200 < s.size
  · have i1 : (200 : Int) < (s.size : Int) := by omega
    go_enter Tryd.func4, Tryd.ntmps4
    go_wp2_with fail
    refine (awake5_any w HG.out).mono ?_
    rintro e w1 ⟨rfl, hb1⟩
    have B1 := Lib.hid hb1; clear hb1
    go_wp2_with fail
    go_ret
    exact ⟨rfl, B1.out⟩
  have i1 : (s.size : Int) ≤ 200 := by omega
  by_cases h2 : 12 < L.length
  · have i2 : (12 : Int) < (L.length : Int) := by omega
    go_enter Tryd.func4, Tryd.ntmps4
    go_wp2_with fail
    refine (awake5_any w HG.out).mono ?_
    rintro e w1 ⟨rfl, hb1⟩
    have B1 := Lib.hid hb1; clear hb1
    go_wp2_with fail
    go_ret
    exact ⟨rfl, B1.out⟩
  have i2 : (L.length : Int) ≤ 12 := by omega
  go_enter Tryd.func4, Tryd.ntmps4
  go_wp2_with fail
  refine (awake5_any w HG.out).mono ?_
  rintro e w1 ⟨rfl, hb1⟩
  have B1 := Lib.hid hb1; clear hb1
  go_wp2_with fail
  refine (macnew_any w1 s (HG.out.below B1.out HG.out.lt) (by omega)).mono ?_
  rintro e w2 ⟨b, rfl, hb, hb2, hM2⟩
  obtain ⟨k, hk⟩ : ∃ k, s.data.toList = k := ⟨_, rfl⟩
  rw [hk] at hM2
  have HK := Lib.hid hk
  have B2 := B1.out.trans (hb2.mono B1.out.size)
  have R0 : Hid (StrR w b k [] (.slice (some ⟨w2.heap.size, 0, none⟩) 0 0) (w2.alloc (.cells #[] 5))) :=
    ⟨B2.alloc B2.size _, hM2.grow ((Below.refl _ _).alloc (Nat.le_refl _) _), (NewB.empty w2).2.1, by have := B1.out.size; omega, fun g hg => by simp only [Value.ownBlock, Option.some.injEq] at hg; have := ShaIs.lt hM2; omega⟩
  clear hb hb2 hM2 hk B2
  go_wp2_with fail
  generalize w2.alloc (.cells #[] 5) = w3 at *
  generalize (.slice (some ⟨w2.heap.size, 0, none⟩) 0 0 : Value) = sv0 at *
  refine (macsum_any R0.out.2.1 (HG.out.below R0.out.1 HG.out.lt) (by decide)).mono ?_
  rintro e w4 ⟨rfl, hb4⟩
  obtain ⟨V, hV⟩ : ∃ V : ByteArray, (⟨(Hm.tag k []).toArray⟩ : ByteArray) = V := ⟨_, rfl⟩
  rw [hV]
  have HV := Lib.hid hV
  have R1 := Lib.hid (R0.out.grow hb4)
  clear hb4 hV R0
  go_wp2_with fail
  refine (hmtag_any s (BVnil w4 (fun _ => False)) (fun _ h => h.elim) (HG.out.below R1.out.1 HG.out.lt) (by omega) (by decide)).mono ?_
  rintro e w5 ⟨rfl, hb5⟩
  rw [HK.out, HV.out]
  have R2 := Lib.hid (R1.out.grow hb5)
  clear hb5 R1
  go_wp2_with fail
  go_loopw [6, 7] (fun sv s7 wr => ∃ (i : Nat) (acc : List UInt8), i ≤ L.length ∧ s7 = .int .i64 (i : Int) ∧ acc.length ≤ 150 * i ∧ StrR w b k acc sv wr) (fun _ s7 _ => L.length - (intOf s7).toNat)
  case atStart => exact ⟨0, [], by omega, rfl, by simp, R2.out⟩
  case round =>
    obtain ⟨i, acc, hi, rfl, hacc, hR⟩ := hrel
    clear R2
    obtain ⟨a, c, rfl, _, _, _, _⟩ := hR.2.2.1.form
    have HR := Lib.hid hR
    have HA := Lib.hid hacc
    have hLX := LV.same HX.out (fun x hx => hR.1.block x hx)
    clear hR hacc
    by_cases hlt : i < L.length
    · have it : (i : Int) < (L.length : Int) := by omega
      obtain ⟨_, _, e1, _, _, hget⟩ := hLX.get
      obtain ⟨rfl, rfl⟩ : _ ∧ _ := by simpa using e1
      obtain ⟨pb, po, pv, rfl, hpb, pc, hpv⟩ := hget i hlt
      obtain ⟨x, hx⟩ : ∃ x, L[i] = x := ⟨_, rfl⟩
      rw [hx] at hpv
      obtain ⟨da, dc, rfl, dc1, dc2, _⟩ := hpv.get
      unfold maxLen at dc2
      have HPV := Lib.hid hpv
      have HPC := Lib.hid pc
      have HPB := Lib.hid hpb
      clear hget e1 hx hpv hLX hpb
      by_cases h150 : 150 < x.length
      · have i3 : (150 : Int) < (x.length : Int) := by omega
        go_wp2_with fail
        go_ret
        exact ⟨rfl, HR.out.1⟩
      have i3 : (x.length : Int) ≤ 150 := by omega
      have hal : acc.length ≤ 2000 := by have := HA.out; omega
      go_wp2_with fail
      refine (macwrite_any HR.out.2.1 HPV.out (fun y hy => ⟨by have := HR.out.2.2.2.1; omega, by have := HR.out.1.size; omega⟩) (HG.out.below HR.out.1 HG.out.lt) (by have := HR.out.2.2.2.1; have := HG.out.lt; omega) (by omega)).mono ?_
      rintro e w6 ⟨rfl, hst, hM6⟩
      have M6 := Lib.hid hM6
      have HST := Lib.hid hst
      have O6 := Lib.hid (HR.out.own hst)
      have hb6 : Below w.heap.size wr w6 := hst.below (fun y hy => by have := HR.out.2.2.2.1; omega) HR.out.1.size
      have pc6 := (hb6.cell (p := ⟨pb, po + i, none⟩) HPB.out).trans HPC.out
      have X6 := Lib.hid (HPV.out.same (fun y hy => hb6.block y hy))
      clear hst hM6 hb6 pc
      go_wp2_with (at_builtin; refine wpList_append_bytes rfl (.tmp 44) (.tmp 48) rfl (.slice a acc.length c) (.slice da x.length dc) x (by rfl) (by rfl) O6.out X6.out (by omega) ?_; intro a7 c7 w7 hO7 hg7 ho7; have R7 := Lib.hid (HR.out.both HST.out M6.out hO7 hg7 ho7); clear hO7 hg7 ho7 M6 HST O6 X6 pc6)
      have hal2 : (acc ++ x).length ≤ 3000 := by rw [List.length_append]; omega
      refine (macsum_any R7.out.2.1 (HG.out.below R7.out.1 HG.out.lt) (by omega)).mono ?_
      rintro e w8 ⟨rfl, hb8⟩
      obtain ⟨V8, hV8⟩ : ∃ V : ByteArray, (⟨(Hm.tag k (acc ++ x)).toArray⟩ : ByteArray) = V := ⟨_, rfl⟩
      rw [hV8]
      have HV8 := Lib.hid hV8
      have R8 := Lib.hid (R7.out.grow hb8)
      have HAL2 := Lib.hid hal2
      clear hb8 hV8 R7 hal2
      go_wp2_with fail
      refine (hmtag_any s R8.out.2.2.1.bv (fun y hy => R8.out.2.2.1.lt y hy) (HG.out.below R8.out.1 HG.out.lt) (by omega) (by have := HAL2.out; omega)).mono ?_
      rintro e w9 ⟨rfl, hb9⟩
      rw [HK.out, HV8.out]
      have R9 := Lib.hid (R8.out.grow hb9)
      clear hb9 R8
      go_wp2_with fail
      refine (macsum_any R9.out.2.1 (HG.out.below R9.out.1 HG.out.lt) (by have := HAL2.out; omega)).mono ?_
      rintro e w10 ⟨rfl, hb10⟩
      rw [HV8.out]
      have R10 := Lib.hid (R9.out.grow hb10)
      clear hb10 R9
      go_wp2_with fail
      refine (hmtag_any s R10.out.2.2.1.bv (fun y hy => R10.out.2.2.1.lt y hy) (HG.out.below R10.out.1 HG.out.lt) (by omega) (by have := HAL2.out; omega)).mono ?_
      rintro e w11 ⟨rfl, hb11⟩
      rw [HK.out, HV8.out]
      have R11 := R10.out.grow hb11
      have HR11 := Lib.hid R11
      clear hb11 R10 R11
      go_wp2_with fail
      go_roundw
      case rel => exact ⟨i + 1, acc ++ x, by omega, by go_num, by rw [List.length_append]; have := HA.out; omega, HR11.out⟩
      case measure => simp [intOf]; omega
    · have ige : ¬ (i : Int) < (L.length : Int) := by omega
      clear hLX
      go_wp2_with fail
      go_ret
      exact ⟨rfl, HR.out.1⟩
end Go.Proofs.YtghhjopclkhpnaaDoor
