/- Contract of the reference's Split. -/
import Derived.Test.YthanbihdkjmeoaaDoorFrT
namespace Go.Proofs.YthanbihdkjmeoaaDoor
open Go.RowKit
section
variable {w w' : World} {F G : Nat → Prop} {v : Value} {l : List UInt8} {B : Nat}
set_option maxRecDepth 100000 in
set_option maxHeartbeats 4000000 in
theorem refsplit_any (h : BV w F v l) (hF : ∀ k, F k → k < w.heap.size) (k most : Int) (hm1 : 2 ≤ most) (hm2 : most ≤ 65536) (hll : l.length ≤ 1000000) : Calls Tryd.prog 34 #[.int .i64 k, v, .int .i64 most] w fun e w' => ∃ sv, e = .returned sv ∧ MsO w.heap.size w' sv (Fr.split k (most - 1).toNat l) ∧ Below w.heap.size w w' := by
  obtain ⟨i0, hi0, hz0, hz1, hz2⟩ := info_parts Tryd.infoM
  obtain ⟨a, c, rfl, h1, h2, _⟩ := h.get
  unfold maxLen at h2
  have H := Lib.hid h
  have HF := Lib.hid hF
  clear h hF
  obtain ⟨s, hs⟩ : ∃ s : Nat, most - 1 = (s : Int) := ⟨(most - 1).toNat, by omega⟩
  have hs1 : 1 ≤ s := by omega
  have hs2 : s ≤ 65535 := by omega
  have M0 := Lib.hid (MsO.empty (w := w) (Nat.le_refl w.heap.size))
  have HSS : Hid ((most - 1).toNat = s) := Lib.hid (by omega)
  go_enter Tryd.func34, Tryd.ntmps34
  go_wp2_with fail
  go_loopw [1, 7] (fun s1 s6 wr => ∃ (acc : List Fr.Msg) (cur : List UInt8), acc ++ Fr.split k s cur = Fr.split k s l ∧ acc.length + cur.length ≤ l.length ∧ BV w F s1 cur ∧ MsO w.heap.size wr s6 acc ∧ Below w.heap.size w wr) (fun s1 _ _ => slen s1)
  case atStart => exact ⟨[], l, rfl, by simp, H.out, M0.out, (Below.refl _ _).alloc (Nat.le_refl _) _⟩
  case round =>
    clear H M0
    obtain ⟨acc, cur, hacc, hle, hbv, hM, hb⟩ := hrel
    obtain ⟨sa, sc, rfl, hac, hcm⟩ := hM.shape
    obtain ⟨ba, bc, rfl, hb1, hb2, hb3, hb4⟩ := id hbv
    have HACC := Lib.hid hacc
    have HM := Lib.hid hM
    have HBE := Lib.hid hb
    have HBV := Lib.hid hbv
    have hal : acc.length ≤ 300000000 := by omega
    have hcl : (cur.length : Int) ≤ 300000000 := by omega
    have HLE := Lib.hid hle
    have HBW := Lib.hid hb.size
    have hbw := hbv.same (w' := wr) (fun y hy => hb.block y (HF.out y hy))
    unfold maxLen at hb2
    clear hacc hM hb hbv hle
    by_cases hlast : cur.length ≤ s
    · have ig : ¬ (s : Int) < (cur.length : Int) := by omega
      have HP : Hid (Fr.split k s cur = [(k, 0 :: cur)]) := Lib.hid (by unfold Fr.split; rw [Fr.parts_last hlast]; rfl)
      have N0 : Hid (NewB wr.heap.size wr [0] (.slice (some ⟨wr.heap.size, 0, none⟩) 1 1) (wr.alloc (.cells #[.int .u8 0] 5))) := Lib.hid ⟨(Below.refl _ _).alloc (Nat.le_refl _) _, OwnB.lits wr #[.int .u8 0] [0] 1 rfl (by rfl) (by omega), by simp, fun g e => by simp only [Value.ownBlock, Option.some.injEq] at e; omega⟩
      have XB : Hid (BV (wr.alloc (.cells #[.int .u8 0] 5)) F (.slice ba cur.length bc) cur) := Lib.hid (hbw.alloc _)
      clear hlast hb3 hb4 hbw
      go_wp2_with (first | (at_builtin; refine wpList_append_bytes rfl (.tmp 31) (.tmp 32) rfl (.slice (some ⟨wr.heap.size, 0, none⟩) 1 1) _ cur (by rfl) (by rfl) N0.out.2.1 XB.out (by simp only [List.length_cons, List.length_nil]; omega) ?_; intro a5 c5 w5 hO5 hg5 ho5; have hN5 := N0.out.push (m := cur) hO5 hg5 ho5; obtain ⟨q, hq⟩ : ∃ q, ([0] : List UInt8).length + cur.length = q := ⟨_, rfl⟩; rw [hq] at hN5 ⊢; obtain ⟨g5, cc5, hv5, hc5, hf5, hset5⟩ := newB_head hN5; injection hv5 with hv51 hv52 hv53; subst hv51; obtain ⟨hM6, hX6, hB6, hE6⟩ := spl_ready (k := k) HBW.out HM.out hN5; obtain ⟨vs, hvr, hq1, hq2, hel⟩ := id hM6; have HVR := Lib.hid hvr; have HEL := Lib.hid hel; have M6 := Lib.hid hM6; have X6 := Lib.hid hX6; have B6 := Lib.hid hB6; have E6 := Lib.hid (HBE.out.trans (hE6.mono HBE.out.size)); have HQ := Lib.hid hq; clear hO5 hg5 ho5 hN5 hq hv52 hv53 hset5 hM6 hX6 hB6 hE6 hvr hel hq1 hq2 hc5 hf5) | (at_builtin; refine wpList_append_lies _ rfl (.tmp 29) (.tmp 35) 48 rfl 0 24 i0 _ 2 32 Tryd.underlying48 hi0 hz0 hz1 hz2 rfl (by omega) (.slice sa acc.length sc) acc.length _ (by rfl) HVR.out ⟨_, 0, none⟩ 1 1 [.int .i64 k, _] (by rfl) (by rfl) (World.news_of_block (t := 24) (fr := (0, 0)) B6.out) (by simp [Value.oneCell']) (by omega) (by unfold maxLen; omega) (by omega) (by omega) _ rfl ?_; intro gg cap w7 hown7 hg7 hat7 hlt7; have M7 := Lib.hid (MsO.push M6.out (m := (k, 0 :: cur)) X6.out rfl (fun _ => HEL.out) HVR.out hown7 hg7 hat7); have E7 := Lib.hid (spl_done E6.out M6.out hg7); clear hown7 hg7 hat7 hlt7))
      go_ret
      refine ⟨_, rfl, ?_, E7.out⟩
      rw [← HACC.out, HP.out]
      exact M7.out
    · have ig : (s : Int) < (cur.length : Int) := by omega
      obtain ⟨b, o, rfl, hbF, _⟩ := hb4 (by omega)
      obtain ⟨r, hr⟩ : ∃ r, cur.length - s = r := ⟨_, rfl⟩
      obtain ⟨T, hT⟩ : ∃ T, cur.take s = T := ⟨_, rfl⟩
      have hTl : T.length = s := by rw [← hT, List.length_take]; omega
      have HP : Hid (Fr.split k s cur = (k, 1 :: T) :: Fr.split k s (cur.drop s)) := Lib.hid (by unfold Fr.split; rw [Fr.parts_more hlast (by omega), hT]; rfl)
      have N0 : Hid (NewB wr.heap.size wr [1] (.slice (some ⟨wr.heap.size, 0, none⟩) 1 1) (wr.alloc (.cells #[.int .u8 1] 5))) := Lib.hid ⟨(Below.refl _ _).alloc (Nat.le_refl _) _, OwnB.lits wr #[.int .u8 1] [1] 1 rfl (by rfl) (by omega), by simp, fun g e => by simp only [Value.ownBlock, Option.some.injEq] at e; omega⟩
      have XT : Hid (BV (wr.alloc (.cells #[.int .u8 1] 5)) F (.slice (some ⟨b, o, none⟩) s bc) T) := Lib.hid (by rw [← hT]; exact BV.take (hbw.alloc _) (by omega))
      have XR : Hid (BV w F (.slice (some ⟨b, o + s, none⟩) r (bc - s)) (cur.drop s)) := Lib.hid (by
        have := HBV.out.subAt (lo := s) (k := r) rfl (by omega)
        rwa [List.take_of_length_le (by rw [List.length_drop]; omega)] at this)
      have HTL := Lib.hid hTl
      have HRR : Hid (r < cur.length ∧ (cur.drop s).length = r ∧ 1 ≤ s ∧ cur.length = r + s) := Lib.hid ⟨by omega, by rw [List.length_drop, hr], by omega, by omega⟩
      have ic1 : (s : Int) ≤ (cur.length : Int) := by omega
      have ic2 : (s : Int) ≤ (bc : Int) := by omega
      have ic3 : ¬ bc = s := by omega
      clear hb3 hb4 hlast hT hTl hbw
      go_wp2_with (first | (at_builtin; refine wpList_append_bytes rfl (.tmp 16) (.tmp 20) rfl (.slice (some ⟨wr.heap.size, 0, none⟩) 1 1) _ T (by rfl) (by rfl) N0.out.2.1 XT.out (by simp only [List.length_cons, List.length_nil]; have := HTL.out; omega) ?_; intro a5 c5 w5 hO5 hg5 ho5; have hN5 := N0.out.push (m := T) hO5 hg5 ho5; obtain ⟨q, hq⟩ : ∃ q, ([1] : List UInt8).length + T.length = q := ⟨_, rfl⟩; rw [hq] at hN5 ⊢; obtain ⟨g5, cc5, hv5, hc5, hf5, hset5⟩ := newB_head hN5; injection hv5 with hv51 hv52 hv53; subst hv51; obtain ⟨hM6, hX6, hB6, hE6⟩ := spl_ready (k := k) HBW.out HM.out hN5; obtain ⟨vs, hvr, hq1, hq2, hel⟩ := id hM6; have HVR := Lib.hid hvr; have HEL := Lib.hid hel; have M6 := Lib.hid hM6; have X6 := Lib.hid hX6; have B6 := Lib.hid hB6; have E6 := Lib.hid (HBE.out.trans (hE6.mono HBE.out.size)); have HQ := Lib.hid hq; clear hO5 hg5 ho5 hN5 hq hv52 hv53 hset5 hM6 hX6 hB6 hE6 hvr hel hq1 hq2 hc5 hf5) | (at_builtin; refine wpList_append_lies _ rfl (.tmp 14) (.tmp 23) 48 rfl 0 24 i0 _ 2 32 Tryd.underlying48 hi0 hz0 hz1 hz2 rfl (by omega) (.slice sa acc.length sc) acc.length _ (by rfl) HVR.out ⟨_, 0, none⟩ 1 1 [.int .i64 k, _] (by rfl) (by rfl) (World.news_of_block (t := 24) (fr := (0, 0)) B6.out) (by simp [Value.oneCell']) (by omega) (by unfold maxLen; omega) (by omega) (by omega) _ rfl ?_; intro gg cap w7 hown7 hg7 hat7 hlt7; have M7 := Lib.hid (MsO.push M6.out (m := (k, 1 :: T)) X6.out rfl (fun _ => HEL.out) HVR.out hown7 hg7 hat7); have E7 := Lib.hid (spl_done E6.out M6.out hg7); clear hown7 hg7 hat7 hlt7))
      refine ⟨⟨acc ++ [(k, 1 :: T)], cur.drop s, ?_, ?_, XR.out, M7.out, E7.out⟩, ?_⟩
      · rw [← HACC.out, HP.out, List.append_assoc]; rfl
      · have := HRR.out; have := HLE.out; rw [List.length_append, List.length_cons, List.length_nil]; omega
      · have := HRR.out; simp only [slen]; omega
end
end Go.Proofs.YthanbihdkjmeoaaDoor
