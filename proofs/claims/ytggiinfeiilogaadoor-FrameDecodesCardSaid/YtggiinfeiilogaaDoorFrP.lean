/- Contract of Split. -/
import Derived.Test.YtggiinfeiilogaaDoorFrE
namespace Go.Proofs.YtggiinfeiilogaaDoor
open Go.RowKit
namespace Fr
/-- The parts of a body: a byte that says whether more follow, and at most s bytes. -/
def parts (s : Nat) (l : List UInt8) : List (List UInt8) := if l.length ≤ s ∨ s = 0 then [0 :: l] else (1 :: l.take s) :: parts s (l.drop s)
  termination_by l.length
  decreasing_by rename_i h; rw [List.length_drop]; omega
theorem parts_last {s : Nat} {l : List UInt8} (h : l.length ≤ s) : parts s l = [0 :: l] := by rw [parts, if_pos (.inl h)]
theorem parts_more {s : Nat} {l : List UInt8} (h : ¬ l.length ≤ s) (hs : 0 < s) : parts s l = (1 :: l.take s) :: parts s (l.drop s) := by rw [parts, if_neg (by omega)]
def split (k : Int) (s : Nat) (l : List UInt8) : List Msg := (parts s l).map fun p => (k, p)
end Fr
section
variable {w w' : World} {F G : Nat → Prop} {v : Value} {l : List UInt8} {B : Nat}
theorem newB_head {w5 : World} {x : UInt8} {xs : List UInt8} (h : NewB B w (x :: xs) v w5) : ∃ g c, v = .slice (some ⟨g, 0, none⟩) (xs.length + 1) c ∧ w5.cell? ⟨g, 0, none⟩ = some (.int .u8 (x.toNat : Int)) ∧ w5.frozen? ⟨g, 0, none⟩ = false ∧ ∀ y : UInt8, NewB B w (y :: xs) v (w5.setCell ⟨g, 0, none⟩ (.int .u8 (y.toNat : Int))) := by
  obtain ⟨h1, h2, h3, h4⟩ := h
  obtain ⟨g, c, hv, _, _, hlt, hc, hf, hs⟩ := h2.cells (by simp)
  have hg := h4 g (by rw [hv]; rfl)
  refine ⟨g, c, hv, hc 0 (by simp), hf 0, fun y => ⟨h1.setCell hg _, by simpa using hs 0 y (by simp), by simpa using h3, h4⟩⟩
/-- Ahead of the append of a part that has been made. -/
theorem spl_ready {wr w5 : World} {acc : List Fr.Msg} {lv pv : Value} {P : List UInt8} {k : Int} (hB : w.heap.size ≤ wr.heap.size) (hM : MsO w.heap.size wr lv acc) (hN : NewB wr.heap.size wr P pv w5) :
    MsO w.heap.size (w5.alloc (.cells #[.int .i64 k, pv] 32)) lv acc ∧
    BV (w5.alloc (.cells #[.int .i64 k, pv] 32)) (fun y => w.heap.size ≤ y ∧ y < (w5.alloc (.cells #[.int .i64 k, pv] 32)).heap.size ∧ lv.ownBlock ≠ some y) pv P ∧
    (w5.alloc (.cells #[.int .i64 k, pv] 32)).heap[w5.heap.size]? = some (.cells #[.int .i64 k, pv] 32) ∧
    Below wr.heap.size wr (w5.alloc (.cells #[.int .i64 k, pv] 32)) := by
  have hb := hN.1.alloc hN.2.2.1 (.cells #[.int .i64 k, pv] 32)
  have hlt := hM.lt
  refine ⟨hM.grow hb, ?_, heap_alloc_new w5 _, hb⟩
  have hbz : Below w5.heap.size w5 (w5.alloc (.cells #[.int .i64 k, pv] 32)) := (Below.refl _ _).alloc (Nat.le_refl _) _
  refine (hN.2.1.grow hbz).bv.mono (fun y hy => ⟨?_, ?_, fun e => ?_⟩)
  · have := hN.2.2.2 y hy; omega
  · have := hN.2.1.lt y hy; have := hbz.size; omega
  · have := hN.2.2.2 y hy; have := hlt y e; omega
theorem spl_done {w6 w7 : World} {acc : List Fr.Msg} {lv : Value} (hb : Below w.heap.size w w6) (hM : MsO w.heap.size w6 lv acc) (hg : w6.grownBy w7 lv.ownBlock) : Below w.heap.size w w7 := by
  have st : Stp (fun y => lv.ownBlock = some y) w6 w7 := (Stp.refl _ _).grown hg (fun x hx => .inl hx)
  obtain ⟨_, _, q, hs, _⟩ := hM
  exact hb.trans (st.below (fun y hy => q y hy) hs)
/-- What Split returns. -/
def SplPost (w : World) (k : Int) (most : Int) (l : List UInt8) (e : Ending) (w' : World) : Prop :=
  Below w.heap.size w w' ∧ (if ¬ (0 ≤ k ∧ k ≤ 255) ∨ most < 2 ∨ 65536 < most then e = .returned (.tuple #[.slice none 0 0, .int .i64 1])
    else if (most - 1) * 4096 < (l.length : Int) then e = .returned (.tuple #[.slice none 0 0, .int .i64 2])
    else ∃ sv, e = .returned (.tuple #[sv, .int .i64 0]) ∧ MsO w.heap.size w' sv (Fr.split k (most - 1).toNat l))
set_option maxRecDepth 100000 in
set_option maxHeartbeats 4000000 in
theorem split_any (h : BV w F v l) (hF : ∀ k, F k → k < w.heap.size) (k most : Int) : Calls Tryd.prog 38 #[.int .i64 k, v, .int .i64 most] w (SplPost w k most l) := by
  obtain ⟨i0, hi0, hz0, hz1, hz2⟩ := info_parts Tryd.infoM
  obtain ⟨a, c, rfl, h1, h2, _⟩ := h.get
  unfold maxLen at h2
  have H := Lib.hid h
  have HF := Lib.hid hF
  clear h hF
  by_cases hk : 0 ≤ k ∧ k ≤ 255
  case neg =>
    have hd := decide_eq_false hk
    have HD := Lib.hid hd
    have HV : Hid (¬ (0 ≤ k ∧ k ≤ 255) ∨ most < 2 ∨ 65536 < most) := Lib.hid (.inl hk)
    clear hk hd
    go_enter Tryd.func38, Tryd.ntmps38
    go_wp2_with fail
    refine (fkind_any w k).mono ?_
    rintro e w' ⟨rfl, rfl⟩
    rw [HD.out]
    go_wp2_with fail
    go_ret2
    exact ⟨Below.refl _ _, by rw [if_pos HV.out]; rfl⟩
  have hd := decide_eq_true hk
  have HD := Lib.hid hd
  have HK := Lib.hid hk
  clear hk hd
  by_cases hm1 : most < 2
  · have HV : Hid (¬ (0 ≤ k ∧ k ≤ 255) ∨ most < 2 ∨ 65536 < most) := Lib.hid (.inr (.inl hm1))
    go_enter Tryd.func38, Tryd.ntmps38
    go_wp2_with fail
    refine (fkind_any w k).mono ?_
    rintro e w' ⟨rfl, rfl⟩
    rw [HD.out]
    go_wp2_with fail
    go_ret2
    exact ⟨Below.refl _ _, by rw [if_pos HV.out]; rfl⟩
  by_cases hm2 : 65536 < most
  · have HV : Hid (¬ (0 ≤ k ∧ k ≤ 255) ∨ most < 2 ∨ 65536 < most) := Lib.hid (.inr (.inr hm2))
    go_enter Tryd.func38, Tryd.ntmps38
    go_wp2_with fail
    refine (fkind_any w k).mono ?_
    rintro e w' ⟨rfl, rfl⟩
    rw [HD.out]
    go_wp2_with fail
    go_ret2
    exact ⟨Below.refl _ _, by rw [if_pos HV.out]; rfl⟩
  obtain ⟨s, hs⟩ : ∃ s : Nat, most - 1 = (s : Int) := ⟨(most - 1).toNat, by omega⟩
  have HV : Hid (¬ (¬ (0 ≤ k ∧ k ≤ 255) ∨ most < 2 ∨ 65536 < most)) := Lib.hid (by have := HK.out; omega)
  have hs1 : 1 ≤ s := by omega
  have hs2 : s ≤ 65535 := by omega
  by_cases hbig : (s : Int) * 4096 < (l.length : Int)
  · have HB : Hid ((most - 1) * 4096 < (l.length : Int)) := Lib.hid (by omega)
    go_enter Tryd.func38, Tryd.ntmps38
    go_wp2_with fail
    refine (fkind_any w k).mono ?_
    rintro e w' ⟨rfl, rfl⟩
    rw [HD.out]
    go_wp2_with fail
    go_ret2
    exact ⟨Below.refl _ _, by rw [if_neg HV.out, if_pos HB.out]; rfl⟩
  have HB : Hid (¬ (most - 1) * 4096 < (l.length : Int)) := Lib.hid (by omega)
  have hll : l.length ≤ 300000000 := by omega
  go_enter Tryd.func38, Tryd.ntmps38
  go_wp2_with fail
  refine (fkind_any w k).mono ?_
  rintro e w' ⟨rfl, rfl⟩
  rw [HD.out]
  go_wp2_with fail
  go_loopw [1, 6] (fun s1 s6 wr => ∃ (acc : List Fr.Msg) (cur : List UInt8), acc ++ Fr.split k s cur = Fr.split k s l ∧ acc.length + cur.length ≤ l.length ∧ BV w F s1 cur ∧ MsO w.heap.size wr s6 acc ∧ Below w.heap.size w wr) (fun s1 _ _ => slen s1)
  case atStart => exact ⟨[], l, rfl, by simp, H.out, MsO.nil (Nat.le_refl _), Below.refl _ _⟩
  case round =>
    clear H
    obtain ⟨acc, cur, hacc, hle, hbv, hM, hb⟩ := hrel
    obtain ⟨sa, sc, rfl, hac, hcm⟩ := hM.shape
    obtain ⟨ba, bc, rfl, hb1, hb2, hb3, hb4⟩ := id hbv
    have HACC := Lib.hid hacc
    have HM := Lib.hid hM
    have HBE := Lib.hid hb
    have HBV := Lib.hid hbv
    have hal : acc.length ≤ 300000000 := by omega
    have hcl : (cur.length : Int) ≤ 300000000 := by omega
    have HLE := Lib.hid hle
    have N0 : Hid (NewB wr.heap.size wr [0] (.slice (some ⟨wr.heap.size, 0, none⟩) 1 1) (wr.alloc (.cells #[.int .u8 0] 5))) := Lib.hid ⟨(Below.refl _ _).alloc (Nat.le_refl _) _, OwnB.lits wr #[.int .u8 0] [0] 1 rfl (by rfl) (by omega), by simp, fun g e => by simp only [Value.ownBlock, Option.some.injEq] at e; omega⟩
    have XB : Hid (BV (wr.alloc (.cells #[.int .u8 0] 5)) F (.slice ba cur.length bc) cur) := Lib.hid ((hbv.same (w' := wr) (fun y hy => hb.block y (HF.out y hy))).alloc _)
    have HBW := Lib.hid hb.size
    have HSS : Hid ((most - 1).toNat = s) := Lib.hid (by omega)
    unfold maxLen at hb2
    clear hacc hM hb hbv hle
    by_cases hlast : cur.length ≤ s
    · have hmn : (if cur.length < s then (cur.length : Int) else (s : Int)) = (cur.length : Int) := by split <;> omega
      have hs0 : 0 < s := by omega
      have HP : Hid (Fr.split k s cur = [(k, 0 :: cur)]) := Lib.hid (by unfold Fr.split; rw [Fr.parts_last hlast]; rfl)
      clear hlast
      have hcases : (ba = none ∧ bc = 0 ∧ cur = []) ∨ (∃ ad, ba = some ad ∧ bc = 0 ∧ cur = []) ∨ (∃ ad, ba = some ad ∧ ¬ bc = 0 ∧ cur = []) ∨ (∃ b o, ba = some ⟨b, o, none⟩ ∧ bc = cur.length) ∨ (∃ b o, ba = some ⟨b, o, none⟩ ∧ ¬ bc = cur.length) := by
        cases ba with
        | none => exact .inl ⟨rfl, hb3 rfl, List.eq_nil_of_length_eq_zero (by have := hb3 rfl; omega)⟩
        | some ad =>
          by_cases h0 : cur.length = 0
          · by_cases hbc : bc = 0
            · exact .inr (.inl ⟨ad, rfl, hbc, List.eq_nil_of_length_eq_zero h0⟩)
            · exact .inr (.inr (.inl ⟨ad, rfl, hbc, List.eq_nil_of_length_eq_zero h0⟩))
          · obtain ⟨b, o, hs, _⟩ := hb4 (by omega)
            by_cases hbc : bc = cur.length
            · exact .inr (.inr (.inr (.inl ⟨b, o, hs, hbc⟩)))
            · exact .inr (.inr (.inr (.inr ⟨b, o, hs, hbc⟩)))
      rcases hcases with ⟨rfl, rfl, rfl⟩ | ⟨ad, rfl, rfl, rfl⟩ | ⟨ad, rfl, hbc, rfl⟩ | ⟨b, o, rfl, hbc⟩ | ⟨b, o, rfl, hbc⟩
      · clear hb3 hb4
        simp only [List.length_nil] at *
        go_wp2_with (first | (at_builtin; refine wpList_append_bytes rfl (.tmp 34) (.tmp 37) rfl (.slice (some ⟨wr.heap.size, 0, none⟩) 1 1) _ [] (by rfl) (by rfl) N0.out.2.1 XB.out (by simp only [List.length_cons, List.length_nil]; omega) ?_; intro a5 c5 w5 hO5 hg5 ho5; have hN5 := N0.out.push (m := ([] : List UInt8)) hO5 hg5 ho5; obtain ⟨q, hq⟩ : ∃ q, ([0] : List UInt8).length + ([] : List UInt8).length = q := ⟨_, rfl⟩; rw [hq] at hN5 ⊢; obtain ⟨g5, cc5, hv5, hc5, hf5, hset5⟩ := newB_head hN5; injection hv5 with hv51 hv52 hv53; subst hv51; have hN6 := hN5; obtain ⟨hM6, hX6, hB6, hE6⟩ := spl_ready (k := k) HBW.out HM.out hN6; obtain ⟨vs, hvr, hq1, hq2, hel⟩ := id hM6; have HVR := Lib.hid hvr; have HEL := Lib.hid hel; have M6 := Lib.hid hM6; have X6 := Lib.hid hX6; have B6 := Lib.hid hB6; have E6 := Lib.hid (HBE.out.trans (hE6.mono HBE.out.size)); have HQ := Lib.hid hq; clear hO5 hg5 ho5 hN5 hq hv52 hv53 hset5 hN6 hM6 hX6 hB6 hE6 hvr hel hq1 hq2; clear hc5 hf5) | (at_builtin; refine wpList_append_lies _ rfl (.tmp 47) (.tmp 51) 22 rfl 0 32 i0 _ 2 32 Tryd.underlying22 hi0 hz0 hz1 hz2 rfl (by omega) (.slice sa acc.length sc) acc.length _ (by rfl) HVR.out ⟨_, 0, none⟩ 1 1 [.int .i64 k, _] (by rfl) (by rfl) (World.news_of_block (t := 32) (fr := (0, 0)) B6.out) (by simp [Value.oneCell']) (by omega) (by unfold maxLen; omega) (by omega) (by omega) _ rfl ?_; intro gg cap w7 hown7 hg7 hat7 hlt7; have M7 := Lib.hid (MsO.push M6.out (m := (k, [0])) X6.out rfl (fun _ => HEL.out) HVR.out hown7 hg7 hat7); have E7 := Lib.hid (spl_done E6.out M6.out hg7); clear hown7 hg7 hat7 hlt7))
        go_ret2
        refine ⟨E7.out, ?_⟩
        rw [if_neg HV.out, if_neg (by have := HB.out; omega)]
        refine ⟨_, rfl, ?_⟩
        rw [show (most - 1).toNat = s from HSS.out, ← HACC.out, HP.out]
        exact M7.out
      · clear hb3 hb4
        simp only [List.length_nil] at *
        go_wp2_with (first | (at_builtin; refine wpList_append_bytes rfl (.tmp 34) (.tmp 37) rfl (.slice (some ⟨wr.heap.size, 0, none⟩) 1 1) _ [] (by rfl) (by rfl) N0.out.2.1 XB.out (by simp only [List.length_cons, List.length_nil]; omega) ?_; intro a5 c5 w5 hO5 hg5 ho5; have hN5 := N0.out.push (m := ([] : List UInt8)) hO5 hg5 ho5; obtain ⟨q, hq⟩ : ∃ q, ([0] : List UInt8).length + ([] : List UInt8).length = q := ⟨_, rfl⟩; rw [hq] at hN5 ⊢; obtain ⟨g5, cc5, hv5, hc5, hf5, hset5⟩ := newB_head hN5; injection hv5 with hv51 hv52 hv53; subst hv51; have hN6 := hN5; obtain ⟨hM6, hX6, hB6, hE6⟩ := spl_ready (k := k) HBW.out HM.out hN6; obtain ⟨vs, hvr, hq1, hq2, hel⟩ := id hM6; have HVR := Lib.hid hvr; have HEL := Lib.hid hel; have M6 := Lib.hid hM6; have X6 := Lib.hid hX6; have B6 := Lib.hid hB6; have E6 := Lib.hid (HBE.out.trans (hE6.mono HBE.out.size)); have HQ := Lib.hid hq; clear hO5 hg5 ho5 hN5 hq hv52 hv53 hset5 hN6 hM6 hX6 hB6 hE6 hvr hel hq1 hq2; clear hc5 hf5) | (at_builtin; refine wpList_append_lies _ rfl (.tmp 47) (.tmp 51) 22 rfl 0 32 i0 _ 2 32 Tryd.underlying22 hi0 hz0 hz1 hz2 rfl (by omega) (.slice sa acc.length sc) acc.length _ (by rfl) HVR.out ⟨_, 0, none⟩ 1 1 [.int .i64 k, _] (by rfl) (by rfl) (World.news_of_block (t := 32) (fr := (0, 0)) B6.out) (by simp [Value.oneCell']) (by omega) (by unfold maxLen; omega) (by omega) (by omega) _ rfl ?_; intro gg cap w7 hown7 hg7 hat7 hlt7; have M7 := Lib.hid (MsO.push M6.out (m := (k, [0])) X6.out rfl (fun _ => HEL.out) HVR.out hown7 hg7 hat7); have E7 := Lib.hid (spl_done E6.out M6.out hg7); clear hown7 hg7 hat7 hlt7))
        go_ret2
        refine ⟨E7.out, ?_⟩
        rw [if_neg HV.out, if_neg (by have := HB.out; omega)]
        refine ⟨_, rfl, ?_⟩
        rw [show (most - 1).toNat = s from HSS.out, ← HACC.out, HP.out]
        exact M7.out
      · clear hb3 hb4
        simp only [List.length_nil] at *
        go_wp2_with (first | (at_builtin; refine wpList_append_bytes rfl (.tmp 34) (.tmp 37) rfl (.slice (some ⟨wr.heap.size, 0, none⟩) 1 1) _ [] (by rfl) (by rfl) N0.out.2.1 XB.out (by simp only [List.length_cons, List.length_nil]; omega) ?_; intro a5 c5 w5 hO5 hg5 ho5; have hN5 := N0.out.push (m := ([] : List UInt8)) hO5 hg5 ho5; obtain ⟨q, hq⟩ : ∃ q, ([0] : List UInt8).length + ([] : List UInt8).length = q := ⟨_, rfl⟩; rw [hq] at hN5 ⊢; obtain ⟨g5, cc5, hv5, hc5, hf5, hset5⟩ := newB_head hN5; injection hv5 with hv51 hv52 hv53; subst hv51; have hN6 := hN5; obtain ⟨hM6, hX6, hB6, hE6⟩ := spl_ready (k := k) HBW.out HM.out hN6; obtain ⟨vs, hvr, hq1, hq2, hel⟩ := id hM6; have HVR := Lib.hid hvr; have HEL := Lib.hid hel; have M6 := Lib.hid hM6; have X6 := Lib.hid hX6; have B6 := Lib.hid hB6; have E6 := Lib.hid (HBE.out.trans (hE6.mono HBE.out.size)); have HQ := Lib.hid hq; clear hO5 hg5 ho5 hN5 hq hv52 hv53 hset5 hN6 hM6 hX6 hB6 hE6 hvr hel hq1 hq2; clear hc5 hf5) | (at_builtin; refine wpList_append_lies _ rfl (.tmp 47) (.tmp 51) 22 rfl 0 32 i0 _ 2 32 Tryd.underlying22 hi0 hz0 hz1 hz2 rfl (by omega) (.slice sa acc.length sc) acc.length _ (by rfl) HVR.out ⟨_, 0, none⟩ 1 1 [.int .i64 k, _] (by rfl) (by rfl) (World.news_of_block (t := 32) (fr := (0, 0)) B6.out) (by simp [Value.oneCell']) (by omega) (by unfold maxLen; omega) (by omega) (by omega) _ rfl ?_; intro gg cap w7 hown7 hg7 hat7 hlt7; have M7 := Lib.hid (MsO.push M6.out (m := (k, [0])) X6.out rfl (fun _ => HEL.out) HVR.out hown7 hg7 hat7); have E7 := Lib.hid (spl_done E6.out M6.out hg7); clear hown7 hg7 hat7 hlt7))
        go_ret2
        refine ⟨E7.out, ?_⟩
        rw [if_neg HV.out, if_neg (by have := HB.out; omega)]
        refine ⟨_, rfl, ?_⟩
        rw [show (most - 1).toNat = s from HSS.out, ← HACC.out, HP.out]
        exact M7.out
      · clear hb3 hb4
        subst hbc
        go_wp2_with (first | (at_builtin; refine wpList_append_bytes rfl (.tmp 34) (.tmp 37) rfl (.slice (some ⟨wr.heap.size, 0, none⟩) 1 1) _ cur (by rfl) (by rfl) N0.out.2.1 XB.out (by simp only [List.length_cons, List.length_nil]; omega) ?_; intro a5 c5 w5 hO5 hg5 ho5; have hN5 := N0.out.push (m := cur) hO5 hg5 ho5; obtain ⟨q, hq⟩ : ∃ q, ([0] : List UInt8).length + cur.length = q := ⟨_, rfl⟩; rw [hq] at hN5 ⊢; obtain ⟨g5, cc5, hv5, hc5, hf5, hset5⟩ := newB_head hN5; injection hv5 with hv51 hv52 hv53; subst hv51; have hN6 := hN5; obtain ⟨hM6, hX6, hB6, hE6⟩ := spl_ready (k := k) HBW.out HM.out hN6; obtain ⟨vs, hvr, hq1, hq2, hel⟩ := id hM6; have HVR := Lib.hid hvr; have HEL := Lib.hid hel; have M6 := Lib.hid hM6; have X6 := Lib.hid hX6; have B6 := Lib.hid hB6; have E6 := Lib.hid (HBE.out.trans (hE6.mono HBE.out.size)); have HQ := Lib.hid hq; clear hO5 hg5 ho5 hN5 hq hv52 hv53 hset5 hN6 hM6 hX6 hB6 hE6 hvr hel hq1 hq2; clear hc5 hf5) | (at_builtin; refine wpList_append_lies _ rfl (.tmp 47) (.tmp 51) 22 rfl 0 32 i0 _ 2 32 Tryd.underlying22 hi0 hz0 hz1 hz2 rfl (by omega) (.slice sa acc.length sc) acc.length _ (by rfl) HVR.out ⟨_, 0, none⟩ 1 1 [.int .i64 k, _] (by rfl) (by rfl) (World.news_of_block (t := 32) (fr := (0, 0)) B6.out) (by simp [Value.oneCell']) (by omega) (by unfold maxLen; omega) (by omega) (by omega) _ rfl ?_; intro gg cap w7 hown7 hg7 hat7 hlt7; have M7 := Lib.hid (MsO.push M6.out (m := (k, 0 :: cur)) X6.out rfl (fun _ => HEL.out) HVR.out hown7 hg7 hat7); have E7 := Lib.hid (spl_done E6.out M6.out hg7); clear hown7 hg7 hat7 hlt7))
        go_ret2
        refine ⟨E7.out, ?_⟩
        rw [if_neg HV.out, if_neg (by have := HB.out; omega)]
        refine ⟨_, rfl, ?_⟩
        rw [show (most - 1).toNat = s from HSS.out, ← HACC.out, HP.out]
        exact M7.out
      · clear hb3 hb4
        go_wp2_with (first | (at_builtin; refine wpList_append_bytes rfl (.tmp 34) (.tmp 37) rfl (.slice (some ⟨wr.heap.size, 0, none⟩) 1 1) _ cur (by rfl) (by rfl) N0.out.2.1 XB.out (by simp only [List.length_cons, List.length_nil]; omega) ?_; intro a5 c5 w5 hO5 hg5 ho5; have hN5 := N0.out.push (m := cur) hO5 hg5 ho5; obtain ⟨q, hq⟩ : ∃ q, ([0] : List UInt8).length + cur.length = q := ⟨_, rfl⟩; rw [hq] at hN5 ⊢; obtain ⟨g5, cc5, hv5, hc5, hf5, hset5⟩ := newB_head hN5; injection hv5 with hv51 hv52 hv53; subst hv51; have hN6 := hN5; obtain ⟨hM6, hX6, hB6, hE6⟩ := spl_ready (k := k) HBW.out HM.out hN6; obtain ⟨vs, hvr, hq1, hq2, hel⟩ := id hM6; have HVR := Lib.hid hvr; have HEL := Lib.hid hel; have M6 := Lib.hid hM6; have X6 := Lib.hid hX6; have B6 := Lib.hid hB6; have E6 := Lib.hid (HBE.out.trans (hE6.mono HBE.out.size)); have HQ := Lib.hid hq; clear hO5 hg5 ho5 hN5 hq hv52 hv53 hset5 hN6 hM6 hX6 hB6 hE6 hvr hel hq1 hq2; clear hc5 hf5) | (at_builtin; refine wpList_append_lies _ rfl (.tmp 47) (.tmp 51) 22 rfl 0 32 i0 _ 2 32 Tryd.underlying22 hi0 hz0 hz1 hz2 rfl (by omega) (.slice sa acc.length sc) acc.length _ (by rfl) HVR.out ⟨_, 0, none⟩ 1 1 [.int .i64 k, _] (by rfl) (by rfl) (World.news_of_block (t := 32) (fr := (0, 0)) B6.out) (by simp [Value.oneCell']) (by omega) (by unfold maxLen; omega) (by omega) (by omega) _ rfl ?_; intro gg cap w7 hown7 hg7 hat7 hlt7; have M7 := Lib.hid (MsO.push M6.out (m := (k, 0 :: cur)) X6.out rfl (fun _ => HEL.out) HVR.out hown7 hg7 hat7); have E7 := Lib.hid (spl_done E6.out M6.out hg7); clear hown7 hg7 hat7 hlt7))
        go_ret2
        refine ⟨E7.out, ?_⟩
        rw [if_neg HV.out, if_neg (by have := HB.out; omega)]
        refine ⟨_, rfl, ?_⟩
        rw [show (most - 1).toNat = s from HSS.out, ← HACC.out, HP.out]
        exact M7.out
    · have hmn : (if cur.length < s then (cur.length : Int) else (s : Int)) = (s : Int) := by split <;> omega
      obtain ⟨b, o, rfl, hbF, _⟩ := hb4 (by omega)
      obtain ⟨r, hr⟩ : ∃ r, cur.length - s = r := ⟨_, rfl⟩
      obtain ⟨T, hT⟩ : ∃ T, cur.take s = T := ⟨_, rfl⟩
      have hTl : T.length = s := by rw [← hT, List.length_take]; omega
      have HP : Hid (Fr.split k s cur = (k, 1 :: T) :: Fr.split k s (cur.drop s)) := Lib.hid (by unfold Fr.split; rw [Fr.parts_more hlast (by omega), hT]; rfl)
      have XT : Hid (BV (wr.alloc (.cells #[.int .u8 0] 5)) F (.slice (some ⟨b, o, none⟩) s bc) T) := Lib.hid (by rw [← hT]; exact BV.take XB.out (by omega))
      have XR : Hid (BV w F (.slice (some ⟨b, o + s, none⟩) r (bc - s)) (cur.drop s)) := Lib.hid (by
        have := HBV.out.subAt (lo := s) (k := r) rfl (by omega)
        rwa [List.take_of_length_le (by rw [List.length_drop]; omega)] at this)
      have HTL := Lib.hid hTl
      have HRR : Hid (r < cur.length ∧ (cur.drop s).length = r ∧ 1 ≤ s ∧ cur.length = r + s) := Lib.hid ⟨by omega, by rw [List.length_drop, hr], by omega, by omega⟩
      have ir : (0 : Int) < (r : Int) := by omega
      have ir2 : ((r : Int) == 0) = false := by rw [beq_eq_false_iff_ne]; omega
      have ic1 : (s : Int) ≤ (cur.length : Int) := by omega
      have ic2 : (s : Int) ≤ (bc : Int) := by omega
      have ic3 : ¬ bc = s := by omega
      clear hb3 hb4 hlast hT hTl
      go_wp2_with (first | (at_builtin; refine wpList_append_bytes rfl (.tmp 34) (.tmp 37) rfl (.slice (some ⟨wr.heap.size, 0, none⟩) 1 1) _ T (by rfl) (by rfl) N0.out.2.1 XT.out (by simp only [List.length_cons, List.length_nil]; have := HTL.out; omega) ?_; intro a5 c5 w5 hO5 hg5 ho5; have hN5 := N0.out.push (m := T) hO5 hg5 ho5; obtain ⟨q, hq⟩ : ∃ q, ([0] : List UInt8).length + T.length = q := ⟨_, rfl⟩; rw [hq] at hN5 ⊢; obtain ⟨g5, cc5, hv5, hc5, hf5, hset5⟩ := newB_head hN5; injection hv5 with hv51 hv52 hv53; subst hv51; have hN6 : NewB wr.heap.size wr (1 :: T) (.slice (some ⟨g5, 0, none⟩) q c5) (w5.setCell ⟨g5, 0, none⟩ (.int .u8 1)) := hset5 1; have hc6 : w5.cell? ⟨g5, 0, none⟩ = some (.int .u8 0) := hc5; have iq : (0 : Int) < (q : Int) := (by rw [← hq]; simp only [List.length_cons, List.length_nil]; omega); obtain ⟨hM6, hX6, hB6, hE6⟩ := spl_ready (k := k) HBW.out HM.out hN6; rw [World.size_setCell] at hB6; obtain ⟨vs, hvr, hq1, hq2, hel⟩ := id hM6; have HVR := Lib.hid hvr; have HEL := Lib.hid hel; have M6 := Lib.hid hM6; have X6 := Lib.hid hX6; have B6 := Lib.hid hB6; have E6 := Lib.hid (HBE.out.trans (hE6.mono HBE.out.size)); have HQ := Lib.hid hq; clear hO5 hg5 ho5 hN5 hq hv52 hv53 hset5 hN6 hM6 hX6 hB6 hE6 hvr hel hq1 hq2; clear hc5) | (at_builtin; refine wpList_append_lies _ rfl (.tmp 47) (.tmp 51) 22 rfl 0 32 i0 _ 2 32 Tryd.underlying22 hi0 hz0 hz1 hz2 rfl (by omega) (.slice sa acc.length sc) acc.length _ (by rfl) HVR.out ⟨_, 0, none⟩ 1 1 [.int .i64 k, _] (by rfl) (by rfl) (World.news_of_block (t := 32) (fr := (0, 0)) B6.out) (by simp [Value.oneCell']) (by omega) (by unfold maxLen; omega) (by omega) (by omega) _ rfl ?_; intro gg cap w7 hown7 hg7 hat7 hlt7; have M7 := Lib.hid (MsO.push M6.out (m := (k, 1 :: T)) X6.out rfl (fun _ => HEL.out) HVR.out hown7 hg7 hat7); have E7 := Lib.hid (spl_done E6.out M6.out hg7); clear hown7 hg7 hat7 hlt7))
      refine ⟨⟨acc ++ [(k, 1 :: T)], cur.drop s, ?_, ?_, XR.out, M7.out, E7.out⟩, ?_⟩
      · rw [← HACC.out, HP.out, List.append_assoc]; rfl
      · have := HRR.out; have := HLE.out; rw [List.length_append, List.length_cons, List.length_nil]; omega
      · have := HRR.out; simp only [slen]; omega
end
end Go.Proofs.YtggiinfeiilogaaDoor
