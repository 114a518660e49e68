/- Contract of the reference's Sum. -/
import Derived.Test.YtggiinfeiilogaaDoorRefP
import Derived.Deep.RegionHeld3
namespace Go.Proofs.YtggiinfeiilogaaDoor
open Go.RowKit
section
variable {w w' : World} {x : List UInt8} {F : Nat → Prop} {xv : Value}
theorem BV.sub {b o c n lo k : Nat} {l : List UInt8} (h : BV w F (.slice (some ⟨b, o, none⟩) n c) l) (hn : l.length = n) (hk : lo + k ≤ n) (h0 : 0 < k) : BV w F (.slice (some ⟨b, o + lo, none⟩) k (c - lo)) ((l.drop lo).take k) := by
  have hc : n ≤ c := by obtain ⟨a, c', e, h1, _⟩ := h; injection e with _ e2 e3; omega
  have h1 := h.drop hn (k := lo) (by omega)
  rw [if_neg (by omega)] at h1
  exact h1.take (by omega)
/-- Bytes that the call appends to, beside the words at block b; all of it new. -/
def OutR (w : World) (b : Nat) (L : List Value) (acc : List UInt8) (sv : Value) (wr : World) : Prop :=
  Below w.heap.size w wr ∧ Blk wr b L 92 ∧ OwnB wr sv acc ∧ w.heap.size ≤ b ∧ b < wr.heap.size ∧ ∀ g, sv.ownBlock = some g → b < g
theorem OutR.alloc {b : Nat} {L : List Value} {acc : List UInt8} {sv : Value} {wr : World} (h : OutR w b L acc sv wr) (o : Obj) : OutR w b L acc sv (wr.alloc o) := by
  obtain ⟨h1, h2, h3, h4, h5, h6⟩ := h
  exact ⟨h1.alloc (by omega) o, h2.alloc o, h3.grow ((Below.refl _ _).alloc (Nat.le_refl _) o), h4, by simp; omega, h6⟩
theorem OutR.drew {b : Nat} {L : List Value} {acc : List UInt8} {sv : Value} {wr : World} (h : OutR w b L acc sv wr) : OutR w b L acc sv wr.drew := ⟨h.1.drew, h.2.1, h.2.2.1, h.2.2.2⟩
theorem OutR.push {b : Nat} {L : List Value} {acc m : List UInt8} {sv sv' : Value} {wr wr2 : World} (h : OutR w b L acc sv wr) (hO : OwnB wr2 sv' (acc ++ m)) (hg : wr.grownBy wr2 sv.ownBlock) (ho : sv'.ownBlock = sv.ownBlock ∨ sv'.ownBlock = some wr.heap.size) : OutR w b L (acc ++ m) sv' wr2 := by
  obtain ⟨h1, h2, h3, h4, h5, h6⟩ := h
  have st : Stp (fun x => sv.ownBlock = some x) wr wr2 := (Stp.refl _ _).grown hg (fun x hx => .inl hx)
  refine ⟨h1.trans (st.below (fun x hx => by have := h6 x hx; omega) (by omega)), h2.of_same (st.keep b h5 (fun e => by have := h6 b e; omega)), hO, h4, Nat.lt_of_lt_of_le h5 st.size, fun g e => ?_⟩
  rcases ho with e' | e'
  · exact h6 g (by rw [← e', e])
  · rw [e'] at e; simp only [Option.some.injEq] at e; omega
theorem OutR.cell_far {b i : Nat} {L : List Value} {acc : List UInt8} {sv v : Value} {wr w2 : World} {o : Obj} (h : OutR w b L acc sv wr) (hg : ((wr.alloc o).drew).grownBy w2 sv.ownBlock) (hc : wr.cell? ⟨b, i, none⟩ = some v) : w2.cell? ⟨b, i, none⟩ = some v := by
  obtain ⟨h1, h2, h3, h4, h5, h6⟩ := h
  rw [hg.cell_far ⟨b, i, none⟩ (by simp; omega) (fun e => by have := h6 b e.symm; omega)]
  exact (World.cell?_of_block (a := ⟨b, i, none⟩) (Below.heap_alloc wr o b h5)).trans hc
theorem OutR.wrote {b : Nat} {L : List Value} {acc d : List UInt8} {sv : Value} {wr w2 : World} {gg cap n : Nat} {o : Obj} (h : OutR w b L acc sv wr) (hd : d.length = n)
    (hown : w2.ownsRow 0 5 1 (.slice (some ⟨gg, 0, none⟩) (acc.length + n) cap) (acc.length + n) (By acc ++ By d)) (hg : ((wr.alloc o).drew).grownBy w2 sv.ownBlock) (hat : sv.ownBlock = some gg ∨ gg = wr.heap.size + 1) :
    OutR w b L (acc ++ d) (.slice (some ⟨gg, 0, none⟩) (acc.length + n) cap) w2 := by
  refine (h.alloc o).drew.push ?_ hg (hat.elim (fun e => .inl e.symm) (fun e => .inr ?_))
  · unfold OwnB
    rw [By_append, List.length_append, hd]
    exact hown
  · subst e; simp [Value.ownBlock]
theorem stp_setCells (b o : Nat) (vs : List Value) (w : World) : Stp (· = b) w (w.setCells b o vs) := by
  obtain ⟨h1, h2, h3, h4, h5⟩ := heap_setCells (b := b) vs o w
  exact ⟨h3, h4, h5, by rw [h2]; exact Nat.le_refl _, fun k _ hn => h1 k hn⟩
theorem pad_mod (x : List UInt8) : ∃ n, (x ++ Sha.pad x.length).length = 64 * n ∧ 0 < n ∧ 64 * n ≤ x.length + 100 := by
  have h : (x ++ Sha.pad x.length).length = x.length + Sha.zeros x.length + 9 := by simp [Sha.pad, Sha.be8]; omega
  have := zeros_le x.length
  refine ⟨(x.length + Sha.zeros x.length + 9) / 64, ?_, ?_, ?_⟩ <;> (unfold Sha.zeros at *; omega)
theorem bytes_take (v : Sha.V) {i : Nat} (hi : i < 8) : (Sha.bytes v).take (4 * (i + 1)) = (Sha.bytes v).take (4 * i) ++ [((v.list.getD i 0) >>> 24).toUInt8, ((v.list.getD i 0) >>> 16).toUInt8, ((v.list.getD i 0) >>> 8).toUInt8, (v.list.getD i 0).toUInt8] := by
  rcases (by omega : i = 0 ∨ i = 1 ∨ i = 2 ∨ i = 3 ∨ i = 4 ∨ i = 5 ∨ i = 6 ∨ i = 7) with e | e | e | e | e | e | e | e <;> (subst e; rfl)
theorem iv_ws : (Ws Sha.iv.list).toArray = #[.int .u32 1779033703, .int .u32 3144134277, .int .u32 1013904242, .int .u32 2773480762, .int .u32 1359893119, .int .u32 2600822924, .int .u32 528734635, .int .u32 1541459225] := by kernel_rfl
set_option maxRecDepth 100000 in
set_option maxHeartbeats 4000000 in
theorem refsum_any (hx : BV w F xv x) (hlen : x.length ≤ 1000000000) : Calls Tryd.prog 51 #[xv] w fun e w' => e = .returned (.string ⟨(Sha.sum x).toArray⟩) ∧ Below w.heap.size w w' := by
  obtain ⟨i0, hi0, hz0, hz1, hz2⟩ := info_parts Tryd.infoB
  have HX := Lib.hid hx; clear hx
  have hz8 := Tryd.zeroW8
  go_enter Tryd.func51, Tryd.ntmps51
  have hB0 : Blk (w.alloc (.cells zw8 92)) w.heap.size zw8.toList 92 := Blk.new w zw8.toList _
  have B0 := Lib.hid hB0
  have W0 := Lib.hid ((Below.refl w.heap.size w).alloc (Nat.le_refl _) (.cells zw8 92))
  have S0 : Hid ((w.alloc (.cells zw8 92)).heap.size = w.heap.size + 1) := by exact Array.size_push ..
  clear hB0
  obtain ⟨L, hL⟩ : ∃ L, Ws Sha.iv.list = L := ⟨_, rfl⟩
  have hLl : L.length = 8 := by rw [← hL]; rfl
  have HL1 := Lib.hid (Ws_one Sha.iv.list)
  rw [hL] at HL1
  have HL := Lib.hid hL
  have HLl := Lib.hid hLl
  clear hL hLl
  go_wp2_with (first
    | (refine wpList_build_at rfl 92 _ rfl (.agg L.toArray) (by rw [← HL.out]; kernel_rfl) ?_)
    | (refine wpList_store_mid rfl 92 (.tmp 3) (.tmp 8) rfl w.heap.size 0 L.toArray (by rfl) (by rfl) (B0.out.there (by rw [List.size_toArray, HLl.out]; exact Nat.le_refl 8)) (by rw [List.size_toArray, HLl.out]; exact Tryd.sizeW8) (all_oneCell_toArray HL1.out) ?_; change wpList _ _ _ _ _ ((w.alloc (.cells zw8 92)).setCells w.heap.size 0 L)))
  have B1 := Lib.hid (B0.out.fresh (cs := L) HLl.out)
  have W1 := Lib.hid (below_setCells W0.out (Nat.le_refl _) 0 L)
  have S1 : Hid (((w.alloc (.cells zw8 92)).setCells w.heap.size 0 L).heap.size = w.heap.size + 1) := (heap_setCells _ _ _).2.1.trans S0.out
  generalize (w.alloc (.cells zw8 92)).setCells w.heap.size 0 L = w1 at *
  clear B0 W0 S0
  refine (refpad_any (HX.out.grow W1.out) hlen).mono ?_
  rintro e w2 ⟨pv, rfl, hN⟩
  obtain ⟨m, hm⟩ : ∃ m, x ++ Sha.pad x.length = m := ⟨_, rfl⟩
  obtain ⟨n, hn1, hn2, hn3⟩ := pad_mod x
  rw [hm] at hn1 hN
  obtain ⟨g, pc, rfl, pc1, pc2, hg1, _⟩ := hN.2.1.cells (by omega)
  have hbv : BV w2 (fun k => w.heap.size < k ∧ k < w2.heap.size) (.slice (some ⟨g, 0, none⟩) m.length pc) m := hN.2.1.bv.mono (fun k hk => ⟨by have := hN.2.2.2 k hk; have := S1.out; omega, hN.2.1.lt k hk⟩)
  have B2 := Lib.hid (B1.out.of_same (hN.1.block _ (by have := S1.out; omega)))
  have W2 := Lib.hid (W1.out.trans (hN.1.mono (by have := S1.out; omega)))
  have hs2 : w.heap.size < w2.heap.size := by have := hN.2.2.1; have := S1.out; omega
  have S2 := Lib.hid hs2
  have Hm := Lib.hid hm
  rw [hn1] at hbv pc1 ⊢
  have HBV := Lib.hid hbv
  have Hn1 := Lib.hid hn1
  clear hN hbv hs2 hm hn1 B1 W1 S1 hz8
  unfold maxLen at pc2
  have B3 : Hid (Blk w2 w.heap.size (Ws (Sha.blocks 0 Sha.iv m).list) 92) := by
    show Blk w2 w.heap.size (Ws Sha.iv.list) 92
    rw [HL.out]; exact B2.out
  clear B2
  have in3 : (64 * n : Nat) ≤ 2000000000 := by omega
  obtain ⟨q, hq⟩ : ∃ q, 64 * n = q := ⟨_, rfl⟩
  rw [hq] at HBV Hn1 in3 pc1 ⊢
  have Hq := Lib.hid hq
  have iq : (q : Int) ≤ 2000000000 := by omega
  clear hq
  go_wp2_with fail
  go_loopw [5] (fun s5 wr => ∃ k p : Nat, k ≤ n ∧ p = 64 * k ∧ s5 = .int .i64 (p : Int) ∧ Below w.heap.size w wr ∧ Stp (· = w.heap.size) w2 wr ∧ Blk wr w.heap.size (Ws (Sha.blocks k Sha.iv m).list) 92) (fun s5 _ => q - (intOf s5).toNat)
  case atStart => exact ⟨0, 0, by omega, rfl, rfl, W2.out, Stp.refl _ _, B3.out⟩
  case round =>
    obtain ⟨k, p, hk, hp, rfl, hbe, hst, hB⟩ := hrel
    clear W2 B3
    have HP := Lib.hid hp
    by_cases hlt : k < n
    · have ip : (p : Int) < (q : Int) := by have := Hq.out; omega
      have hpq : p + 64 ≤ q := by have := Hq.out; omega
      have hcp : pc ≠ p := by omega
      have hbv2 : BV wr (fun k => w.heap.size < k ∧ k < w2.heap.size) (.slice (some ⟨g, 0, none⟩) q pc) m := HBV.out.same (fun x hx => hst.keep x hx.2 (by have := hx.1; omega))
      have hsub := hbv2.sub (lo := p) (k := 64) Hn1.out hpq (by omega)
      obtain ⟨v, hv⟩ : ∃ v, Sha.blocks k Sha.iv m = v := ⟨_, rfl⟩
      rw [hv] at hB
      have hnx : Sha.block v ((m.drop p).take 64) = Sha.blocks (k + 1) Sha.iv m := by rw [← hv, hp]; rfl
      have hl64 : ((m.drop p).take 64).length = 64 := by rw [List.length_take, List.length_drop, Hn1.out]; omega
      obtain ⟨blk, hblk⟩ : ∃ b, (m.drop p).take 64 = b := ⟨_, rfl⟩
      rw [hblk] at hsub hnx hl64
      rw [Nat.zero_add] at hsub
      have HS := Lib.hid hsub
      have HL64 := Lib.hid hl64
      have HNX := Lib.hid hnx
      have HBE := Lib.hid hbe
      have HST := Lib.hid hst
      have HB := Lib.hid hB
      obtain ⟨va, vb, vc, vd, ve, vf, vg, vh⟩ := v
      have d0 : wr.cell? ⟨w.heap.size, 0, none⟩ = some (.int .u32 (va.toNat : Int)) := hB.cell (i := 0) rfl
      have d1 : wr.cell? ⟨w.heap.size, 1, none⟩ = some (.int .u32 (vb.toNat : Int)) := hB.cell (i := 1) rfl
      have d2 : wr.cell? ⟨w.heap.size, 2, none⟩ = some (.int .u32 (vc.toNat : Int)) := hB.cell (i := 2) rfl
      have d3 : wr.cell? ⟨w.heap.size, 3, none⟩ = some (.int .u32 (vd.toNat : Int)) := hB.cell (i := 3) rfl
      have d4 : wr.cell? ⟨w.heap.size, 4, none⟩ = some (.int .u32 (ve.toNat : Int)) := hB.cell (i := 4) rfl
      have d5 : wr.cell? ⟨w.heap.size, 5, none⟩ = some (.int .u32 (vf.toNat : Int)) := hB.cell (i := 5) rfl
      have d6 : wr.cell? ⟨w.heap.size, 6, none⟩ = some (.int .u32 (vg.toNat : Int)) := hB.cell (i := 6) rfl
      have d7 : wr.cell? ⟨w.heap.size, 7, none⟩ = some (.int .u32 (vh.toNat : Int)) := hB.cell (i := 7) rfl
      clear hsub hl64 hnx hblk hv hbe hst hB hp hbv2
      obtain ⟨pe, hpe⟩ : ∃ pe, p + 64 = pe := ⟨_, rfl⟩
      have e64 : IntKind.i64.wrap ((p : Int) + 64) = (pe : Int) := by rw [← hpe]; simp [IntKind.wrap, IntKind.bits, IntKind.signed]; omega
      have i1 : (p : Int) ≤ (pe : Int) := by omega
      have i2 : (pe : Int) ≤ (pc : Int) := by omega
      have i3 : pe - p = 64 := by omega
      have HPE := Lib.hid hpe
      clear hpe
      go_wp2_with fail
      go_still_tail 6, (by kernel_rfl)
      change wpList _ _ _ _ _ wr.drew
      have B4 : Hid (Blk wr.drew w.heap.size (Ws (⟨va, vb, vc, vd, ve, vf, vg, vh⟩ : Sha.V).list) 92) := HB.out
      have S4 := Lib.hid (HS.out.same (w' := wr.drew) (fun _ _ => rfl))
      have W4 := Lib.hid HBE.out.drew
      have T4 := Lib.hid HST.out.drew
      have hlt4 : w.heap.size < wr.drew.heap.size := Nat.lt_of_lt_of_le S2.out HST.out.size
      have L4 := Lib.hid hlt4
      clear HB HS HBE HST d0 d1 d2 d3 d4 d5 d6 d7 hlt4
      generalize wr.drew = w4 at *
      go_wp2_with fail
      refine (refblock_any ⟨va, vb, vc, vd, ve, vf, vg, vh⟩ S4.out HL64.out).mono ?_
      rintro e w5 ⟨rfl, hb5⟩
      rw [HNX.out]
      have B5 := Lib.hid (B4.out.of_same (hb5.block _ L4.out))
      have W5 := Lib.hid (W4.out.trans (hb5.mono (Nat.le_of_lt L4.out)))
      have T5 := Lib.hid (T4.out.trans' (Stp.of_below _ hb5))
      obtain ⟨un, hun⟩ : ∃ u, Ws (Sha.blocks (k + 1) Sha.iv m).list = u := ⟨_, rfl⟩
      rw [hun]
      have hul : un.length = 8 := by rw [← hun]; rfl
      have HU1 := Lib.hid (Ws_one (Sha.blocks (k + 1) Sha.iv m).list)
      rw [hun] at HU1
      have Hul := Lib.hid hul
      have Hun := Lib.hid hun
      clear hun hul hb5 B4 W4 T4 S4
      go_wp2_with (refine wpList_store_mid rfl 92 (.tmp 3) (.tmp 23) rfl w.heap.size 0 un.toArray (by rfl) (by rfl) (B5.out.there (by rw [List.size_toArray, Hul.out]; exact Nat.le_refl 8)) (by rw [List.size_toArray, Hul.out]; exact Tryd.sizeW8) (all_oneCell_toArray HU1.out) ?_; change wpList _ _ _ _ _ (w5.setCells w.heap.size 0 un))
      refine ⟨⟨k + 1, pe, by omega, by have := HPE.out; have := HP.out; omega, rfl, below_setCells W5.out (Nat.le_refl _) _ _, T5.out.trans' (stp_setCells _ _ _ _), ?_⟩, by simp [intOf]; omega⟩
      rw [Hun.out]; exact B5.out.fresh (Hul.out.trans rfl)
    · have e8 : k = n := by omega
      have hpe : p = q := by have := Hq.out; omega
      rw [e8] at hB
      rw [show (p : Int) = (q : Int) from by omega]
      have hs : Sha.sum x = Sha.bytes (Sha.blocks n Sha.iv m) := by
        have e : m.length / 64 = n := by have := Hn1.out; have := Hq.out; omega
        unfold Sha.sum Sha.run; rw [Hm.out, e]
      obtain ⟨v, hv⟩ : ∃ v, Sha.blocks n Sha.iv m = v := ⟨_, rfl⟩
      rw [hv] at hB hs
      have HB := Lib.hid hB
      have HSUM := Lib.hid hs
      have HBE := Lib.hid hbe
      have hlt6 : w.heap.size < wr.heap.size := Nat.lt_of_lt_of_le S2.out hst.size
      have L6 := Lib.hid hlt6
      clear hB hs hbe hst hv e8 hpe hlt HP hp hk hlt6 HBV
      go_wp2_with fail
      have N7 : Hid (OutR w w.heap.size (Ws v.list) ((Sha.bytes v).take (4 * 0)) (.slice (some ⟨wr.heap.size, 0, none⟩) 0 0) (wr.alloc (.cells #[] 5))) :=
        ⟨HBE.out.alloc HBE.out.size _, HB.out.alloc _, (NewB.empty wr).2.1, Nat.le_refl _, by simp; exact Nat.lt_succ_of_lt L6.out, fun g hg => by simp only [Value.ownBlock, Option.some.injEq] at hg; rw [← hg]; exact L6.out⟩
      generalize wr.alloc (.cells #[] 5) = w6 at *
      clear HB HBE
      go_loopw [6, 7] (fun sv s7 wy => ∃ i : Nat, i ≤ 8 ∧ s7 = .int .i64 (i : Int) ∧ OutR w w.heap.size (Ws v.list) ((Sha.bytes v).take (4 * i)) sv wy) (fun _ s7 _ => 8 - (intOf s7).toNat)
      case atStart => exact ⟨0, by omega, rfl, N7.out⟩
      case round =>
        obtain ⟨i, hi, rfl, hR⟩ := hrel
        clear N7
        by_cases hlt : i < 8
        · have it : (i : Int) < 8 := by omega
          have cv := hR.2.1.cell (Ws_get v.list i (by exact hlt))
          have hnx := bytes_take v hlt
          obtain ⟨y, hy⟩ : ∃ y, v.list.getD i 0 = y := ⟨_, rfl⟩
          rw [hy] at cv hnx
          obtain ⟨acc, hacc⟩ : ∃ a, (Sha.bytes v).take (4 * i) = a := ⟨_, rfl⟩
          rw [hacc] at hR hnx
          have hal : acc.length ≤ 100 := by rw [← hacc, List.length_take]; omega
          obtain ⟨a, c, rfl, _, _, _, _⟩ := hR.2.2.1.form
          have HR := Lib.hid hR
          have hown := hR.2.2.1
          unfold OwnB at hown
          have Hown := Lib.hid hown
          have k24 : IntKind.u8.wrap ((y.toNat : Int) / 16777216) = ((y >>> 24).toUInt8.toNat : Int) := by rw [IntKind.wrap_u8']; simp [Nat.shiftRight_eq_div_pow]
          have k16 : IntKind.u8.wrap ((y.toNat : Int) / 65536) = ((y >>> 16).toUInt8.toNat : Int) := by rw [IntKind.wrap_u8']; simp [Nat.shiftRight_eq_div_pow]
          have k8 : IntKind.u8.wrap ((y.toNat : Int) / 256) = ((y >>> 8).toUInt8.toNat : Int) := by rw [IntKind.wrap_u8']; simp [Nat.shiftRight_eq_div_pow]
          have k0 : IntKind.u8.wrap (y.toNat : Int) = (y.toUInt8.toNat : Int) := by rw [IntKind.wrap_u8']; simp
          obtain ⟨b3, hb3⟩ : ∃ b, (y >>> 24).toUInt8 = b := ⟨_, rfl⟩
          obtain ⟨b2, hb2⟩ : ∃ b, (y >>> 16).toUInt8 = b := ⟨_, rfl⟩
          obtain ⟨b1, hb1⟩ : ∃ b, (y >>> 8).toUInt8 = b := ⟨_, rfl⟩
          obtain ⟨b0, hb0⟩ : ∃ b, y.toUInt8 = b := ⟨_, rfl⟩
          rw [hb3] at k24 hnx
          rw [hb2] at k16 hnx
          rw [hb1] at k8 hnx
          rw [hb0] at k0 hnx
          have HNX := Lib.hid hnx
          have HCV := Lib.hid cv
          clear hR hnx hy hacc hi hown hb0 hb1 hb2 hb3
          go_wp2_with fail
          go_region_held3 (fun w' => w'.cell? ⟨w.heap.size, i, none⟩ = some (.int .u32 (y.toNat : Int))) (first | go_keep | exact HR.out.cell_far hgrow HCV.out) ((refine step_append_lies _ (by rfl) _ _ _ (by rfl) 0 5 i0 _ 1 1 Tryd.underlying30 hi0 hz0 hz1 hz2 rfl (by omega) (.slice a acc.length c) acc.length (By acc) (by rfl) (Hown.out.alloc _).drew ⟨wr.heap.size, 0, none⟩ 4 4 [.int .u8 (b3.toNat : Int), .int .u8 (b2.toNat : Int), .int .u8 (b1.toNat : Int), .int .u8 (b0.toNat : Int)] (by rfl) (by rfl) (World.news_of_block (cs := #[.int .u8 (b3.toNat : Int), .int .u8 (b2.toNat : Int), .int .u8 (b1.toNat : Int), .int .u8 (b0.toNat : Int)]) (t := 5) (fr := (0, 0)) (heap_alloc_new wr _)) (by simp [Value.oneCell']) (by omega) (by unfold maxLen; omega) (by omega) (by omega) (wr.heap.size + 1) (by simp) ?_; intro gg cap w2 hown2 hgrow hat hlt2))
          have N2 := Lib.hid (HR.out.wrote (d := [b3, b2, b1, b0]) rfl (o := .cells #[.int .u8 (b3.toNat : Int), .int .u8 (b2.toNat : Int), .int .u8 (b1.toNat : Int), .int .u8 (b0.toNat : Int)] 5) hown2 hgrow hat)
          rw [← HNX.out] at N2
          clear hown2 hgrow hat hlt2 cv HR
          go_wp2_with fail
          go_roundw
          case rel => exact ⟨i + 1, by omega, by go_num, N2.out⟩
          case measure => simp [intOf]; omega
        · have e8 : i = 8 := by omega
          rw [e8, show (Sha.bytes v).take (4 * 8) = Sha.bytes v from rfl] at hR
          rw [show (i : Int) = 8 from by omega]
          have hstr := run_toString (P := Tryd.prog) hR.2.2.1.bv 30 5 9 Tryd.underlying30 Tryd.underlying5 Tryd.underlying9
          have hbe := hR.1
          clear hR e8 hi hlt
          go_wp2_with fail
          go_ret
          exact ⟨by rw [HSUM.out]; rfl, hbe⟩
end
end Go.Proofs.YtggiinfeiilogaaDoor
