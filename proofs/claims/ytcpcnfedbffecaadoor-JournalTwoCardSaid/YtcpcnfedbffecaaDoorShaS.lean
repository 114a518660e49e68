/- Contract of (*State).Sum, Len, Clone and New. -/
import Derived.Test.YtcpcnfedbffecaaDoorShaW
import Derived.Deep.MidRow
namespace Go.Proofs.YtcpcnfedbffecaaDoor
open Go.RowKit
section
variable {w w' : World} {b k : Nat} {l x : List UInt8} {L rest : List Value} {T : TypeId} {F : Nat → Prop} {xv : Value}
theorem Blk.rangeAt {cs : List Value} (h : Blk w b (cs ++ rest) T) : w.rangeAt b 0 cs := fun j v hv => by
  rw [Nat.zero_add]
  refine h.cell ?_
  rw [List.getElem?_append_left (List.getElem?_eq_some_iff.1 hv).1]; exact hv
theorem Blk.there (h : Blk w b L T) {n : Nat} (hn : n ≤ L.length) : w.there b 0 n := fun j hj => by
  rw [Nat.zero_add]
  exact ⟨by rw [h.cell (List.getElem?_eq_getElem (show j < L.length by omega))]; rfl, h.free j⟩
theorem Blk.setCells : ∀ (vs : List Value) (o : Nat) (w : World) (L : List Value), Blk w b L T → o + vs.length ≤ L.length → Blk (w.setCells b o vs) b (L.take o ++ (vs ++ L.drop (o + vs.length))) T
  | [], o, w, L, h, _ => by simpa [World.setCells] using h
  | v :: r, o, w, L, h, hl => by
    simp only [List.length_cons] at hl
    have := Blk.setCells r (o + 1) _ _ (h.set o v) (by simp; omega)
    rw [World.setCells]
    have e : L.take o ++ (v :: r ++ L.drop (o + (v :: r).length)) = (L.set o v).take (o + 1) ++ (r ++ (L.set o v).drop (o + 1 + r.length)) := by
      have hs : L.set o v = L.take o ++ v :: L.drop (o + 1) := by rw [List.set_eq_take_append_cons_drop, if_pos (by omega)]
      have hl2 : (L.take o).length = o := by simp; omega
      rw [hs, List.take_append, List.drop_append, List.take_of_length_le (show (L.take o).length ≤ o + 1 by omega), List.drop_of_length_le (show (L.take o).length ≤ o + 1 + r.length by omega), hl2]
      rw [show o + 1 - o = 1 from by omega, show o + 1 + r.length - o = r.length + 1 from by omega]
      simp [Nat.add_comm, Nat.add_left_comm]
    rw [e]
    exact this
theorem Blk.fresh {cs Z : List Value} (h : Blk w b Z T) (hl : cs.length = Z.length) : Blk (w.setCells b 0 cs) b cs T := by
  have := Blk.setCells cs 0 w Z h (by omega)
  rw [Nat.zero_add, List.drop_of_length_le (by omega)] at this
  simpa using this
theorem heap_setCells : ∀ (vs : List Value) (o : Nat) (w : World), (∀ j, j ≠ b → (w.setCells b o vs).heap[j]? = w.heap[j]?) ∧ (w.setCells b o vs).heap.size = w.heap.size ∧ (w.setCells b o vs).os = w.os ∧ (w.setCells b o vs).tape = w.tape ∧ (w.setCells b o vs).output = w.output
  | [], _, w => ⟨fun _ _ => rfl, rfl, rfl, rfl, rfl⟩
  | v :: r, o, w => by
    obtain ⟨h1, h2, h3, h4, h5⟩ := heap_setCells r (o + 1) (w.setCell ⟨b, o, none⟩ v)
    rw [World.setCells]
    exact ⟨fun j hj => (h1 j hj).trans (heap_setCell_other w _ j _ hj), h2.trans (by simp), h3, h4, h5⟩
theorem below_setCells {B : Nat} (h : Below B w w') (hb : B ≤ b) (o : Nat) (vs : List Value) : Below B w (w'.setCells b o vs) := by
  obtain ⟨h1, h2, h3, h4, h5⟩ := heap_setCells (b := b) vs o w'
  exact ⟨h3.trans h.os, h4.trans h.tape, h5.trans h.output, by rw [h2]; exact h.size, fun j hj => (h1 j (by omega)).trans (h.block j hj)⟩
theorem shaCells_length {v : Sha.V} {buf : List UInt8} {n : Nat} (h : buf.length = 64) : (shaCells v buf n).length = 73 := by simp [shaCells, Ws_length, V_list_length, h]
theorem shaCells_one {v : Sha.V} {buf : List UInt8} {n : Nat} : ∀ u ∈ shaCells v buf n, u.oneCell' = true := by
  intro u hu
  simp only [shaCells, List.mem_append, Ws, List.mem_map, List.mem_singleton] at hu
  rcases hu with (⟨_, _, rfl⟩ | hu) | rfl
  · rfl
  · exact By_oneCell buf u hu
  · rfl
theorem Tryd.sizeState : (Tryd.prog.info? 97).map (·.size) = some 73 := by kernel_rfl
def zst : Array Value := #[.int .u32 0, .int .u32 0, .int .u32 0, .int .u32 0, .int .u32 0, .int .u32 0, .int .u32 0, .int .u32 0, .int .u8 0, .int .u8 0, .int .u8 0, .int .u8 0, .int .u8 0, .int .u8 0, .int .u8 0, .int .u8 0, .int .u8 0, .int .u8 0, .int .u8 0, .int .u8 0, .int .u8 0, .int .u8 0, .int .u8 0, .int .u8 0, .int .u8 0, .int .u8 0, .int .u8 0, .int .u8 0, .int .u8 0, .int .u8 0, .int .u8 0, .int .u8 0, .int .u8 0, .int .u8 0, .int .u8 0, .int .u8 0, .int .u8 0, .int .u8 0, .int .u8 0, .int .u8 0, .int .u8 0, .int .u8 0, .int .u8 0, .int .u8 0, .int .u8 0, .int .u8 0, .int .u8 0, .int .u8 0, .int .u8 0, .int .u8 0, .int .u8 0, .int .u8 0, .int .u8 0, .int .u8 0, .int .u8 0, .int .u8 0, .int .u8 0, .int .u8 0, .int .u8 0, .int .u8 0, .int .u8 0, .int .u8 0, .int .u8 0, .int .u8 0, .int .u8 0, .int .u8 0, .int .u8 0, .int .u8 0, .int .u8 0, .int .u8 0, .int .u8 0, .int .u8 0, .int .i64 0]
theorem zst_size : zst.toList.length = 73 := by kernel_rfl
theorem Tryd.zeroState (w : World) : (zeroValue 97).run Tryd.prog w = .ok (.agg zst) w := by kernel_rfl
/-- The state copied to a new block. -/
theorem ShaIs.copy {v : Sha.V} {buf : List UInt8} (h64 : buf.length = 64) (hv : v = Sha.blocks (l.length / 64) Sha.iv l) (ht : buf.take (l.length % 64) = l.drop (64 * (l.length / 64))) (W : World) :
    Below W.heap.size W ((W.alloc (.cells zst 97)).setCells W.heap.size 0 (shaCells v buf l.length)) ∧
    ShaIs ((W.alloc (.cells zst 97)).setCells W.heap.size 0 (shaCells v buf l.length)) W.heap.size l [] 97 ∧
    ((W.alloc (.cells zst 97)).setCells W.heap.size 0 (shaCells v buf l.length)).heap.size = W.heap.size + 1 := by
  have hb : Blk (W.alloc (.cells zst 97)) W.heap.size zst.toList 97 := Blk.new W zst.toList _
  refine ⟨below_setCells ((Below.refl _ _).alloc (Nat.le_refl _) _) (Nat.le_refl _) _ _, ⟨v, buf, h64, hv, ht, ?_⟩, ?_⟩
  · rw [List.append_nil]
    exact hb.fresh (by rw [shaCells_length h64, zst_size])
  · rw [(heap_setCells _ _ _).2.1]; simp
/-- A new row of literal bytes, in the walk's own spelling. -/
theorem BV.lits (W : World) (cs : Array Value) (l : List UInt8) (n : Nat) (hn : l.length = n) (hc : cs.toList = By l) (hl : n ≤ 1000) : BV (W.alloc (.cells cs 5)) (· = W.heap.size) (.slice (some ⟨W.heap.size, 0, none⟩) n n) l := by
  subst hn
  have := BV.made W l 5 (0, 0) (by unfold maxLen; omega)
  rw [← hc] at this
  simpa using this
theorem OwnB.lits (W : World) (cs : Array Value) (l : List UInt8) (n : Nat) (hn : l.length = n) (hc : cs.toList = By l) (hl : n ≤ 1000) : OwnB (W.alloc (.cells cs 5)) (.slice (some ⟨W.heap.size, 0, none⟩) n n) l := by
  subst hn
  have hs : cs.size = l.length := by rw [← Array.length_toList, hc, By_length]
  unfold OwnB
  refine ⟨by simp, .inr ⟨W.heap.size, l.length, cs, rfl, Nat.zero_le _, heap_alloc_new W _, Nat.le_refl _, by unfold maxLen; omega, by omega, ?_⟩⟩
  rw [hc, List.take_of_length_le (by simp)]
/-- A slice of bytes that the call appends to, beside a sum in progress at block p; all of it new. -/
def PadR (w : World) (p : Nat) (l : List UInt8) (pad : List UInt8) (sv : Value) (wr : World) : Prop :=
  Below p w wr ∧ ShaIs wr p l [] 97 ∧ OwnB wr sv pad ∧ p < wr.heap.size ∧ ∀ g, sv.ownBlock = some g → p < g
theorem PadR.alloc {p : Nat} {pad : List UInt8} {sv : Value} {wr : World} (h : PadR w p l pad sv wr) (o : Obj) : PadR w p l pad sv (wr.alloc o) := by
  obtain ⟨h1, h2, h3, h4, h5⟩ := h
  exact ⟨h1.alloc (by omega) o, h2.of_same (Below.heap_alloc _ _ _ h4), h3.grow ((Below.refl _ _).alloc (Nat.le_refl _) o), by simp; omega, h5⟩
theorem PadR.push {p : Nat} {pad m : List UInt8} {sv sv' : Value} {wr wr2 : World} (h : PadR w p l pad sv wr) (hO : OwnB wr2 sv' (pad ++ m)) (hg : wr.grownBy wr2 sv.ownBlock) (ho : sv'.ownBlock = sv.ownBlock ∨ sv'.ownBlock = some wr.heap.size) : PadR w p l (pad ++ m) sv' wr2 := by
  obtain ⟨h1, h2, h3, h4, h5⟩ := h
  have st : Stp (fun x => sv.ownBlock = some x) wr wr2 := (Stp.refl _ _).grown hg (fun x hx => .inl hx)
  refine ⟨h1.trans (st.below (fun x hx => by have := h5 x hx; omega) (by omega)), h2.of_same (st.keep p h4 (fun e => by have := h5 p e; omega)), hO, Nat.lt_of_lt_of_le h4 st.size, fun g e => ?_⟩
  rcases ho with e' | e'
  · exact h5 g (by rw [← e', e])
  · rw [e'] at e; simp only [Option.some.injEq] at e; omega
theorem zeros_le (n : Nat) : Sha.zeros n ≤ 63 := by unfold Sha.zeros; omega
theorem be8_take (n i : Nat) (hi : i < 8) : (Sha.be8 n).take (i + 1) = (Sha.be8 n).take i ++ [UInt8.ofNat (n / 2 ^ (56 - 8 * i))] := by
  have h : i = 0 ∨ i = 1 ∨ i = 2 ∨ i = 3 ∨ i = 4 ∨ i = 5 ∨ i = 6 ∨ i = 7 := by omega
  rcases h with rfl | rfl | rfl | rfl | rfl | rfl | rfl | rfl <;> rfl
theorem four_bytes (x : UInt32) : (#[.int .u8 ((x.toNat : Int) / 16777216 % 256), .int .u8 ((x.toNat : Int) / 65536 % 256), .int .u8 ((x.toNat : Int) / 256 % 256), .int .u8 ((x.toNat : Int) % 256)] : Array Value).toList = By [(x >>> 24).toUInt8, (x >>> 16).toUInt8, (x >>> 8).toUInt8, x.toUInt8] := by
  simp [By, Nat.shiftRight_eq_div_pow]
theorem u8_mod (n : Nat) : (((n % 256 : Nat)) : Int) = ((UInt8.ofNat n).toNat : Int) := by simp
set_option maxRecDepth 100000 in
set_option maxHeartbeats 4000000 in
theorem shasum_any (h : ShaIs w b l rest T) (hg : Glob w) (hlen : l.length ≤ 1000000000) :
    Calls Tryd.prog 47 #[.pointer (some ⟨b, 0, none⟩)] w fun e w' => e = .returned (.string ⟨(Sha.sum l).toArray⟩) ∧ Below w.heap.size w w' := by
  have h0 := Lib.hid h
  obtain ⟨v, buf, h64, hv, ht, hB⟩ := h
  have CC := Lib.hid (ShaIs.copy h64 hv ht w)
  have c72 := sha_cell72 hB h64
  have hbl := hB.lt
  have hp2 := hg.lt
  have HB := Lib.hid hB
  have HG := Lib.hid hg
  clear hB hg hv ht
  have hz := Tryd.zeroState
  go_enter Tryd.func47, Tryd.ntmps47
  go_wp2_with (first
    | (refine wpList_load_mid rfl 97 (.tmp 11) rfl b 0 (by rfl) (shaCells v buf l.length) _ HB.out.rangeAt Tryd.underlying97 rfl (by rw [shaCells_length h64]; exact Tryd.sizeState) ?_)
    | (refine wpList_store_mid rfl 97 (.tmp 3) (.tmp 12) rfl w.heap.size 0 (shaCells v buf l.length).toArray (by rfl) (by rfl) ((show Blk (w.alloc (.cells zst 97)) w.heap.size zst.toList 97 from Blk.new w zst.toList _).there (by simp only [List.size_toArray, shaCells_length h64, zst_size]; omega)) (by simp only [List.size_toArray, shaCells_length h64]; exact Tryd.sizeState) (all_oneCell_toArray shaCells_one) ?_; change wpList _ _ _ _ _ ((w.alloc (.cells zst 97)).setCells w.heap.size 0 (shaCells v buf l.length)); generalize (w.alloc (.cells zst 97)).setCells w.heap.size 0 (shaCells v buf l.length) = w1 at *; generalize hp : w.heap.size = p at *))
  have P1 : Hid (PadR w p l [128] (.slice (some ⟨w1.heap.size, 0, none⟩) 1 1) (w1.alloc (.cells #[.int .u8 128] 5))) := by
    obtain ⟨q1, q2, q3⟩ := CC.out
    refine ⟨q1.alloc (by omega) _, q2.of_same (Below.heap_alloc _ _ _ (by omega)), OwnB.lits _ _ _ _ rfl rfl (by omega), by simp; omega, fun g hg => ?_⟩
    simp only [Value.ownBlock, Option.some.injEq] at hg; omega
  generalize w1.alloc (.cells #[.int .u8 128] 5) = w2 at *
  generalize (some ⟨w1.heap.size, 0, none⟩ : Option Addr) = a2 at *
  have hbp : b < p := hbl
  have Hc72 := Lib.hid c72
  have Hp := Lib.hid hp
  clear CC hz c72 hbl hp
  go_loopw [4] (fun sv wr => ∃ j, j ≤ Sha.zeros l.length ∧ PadR w p l ([128] ++ List.replicate j 0) sv wr) (fun sv _ => 64 - sliceLen sv)
  case atStart => exact ⟨0, by omega, P1.out⟩
  case round =>
    obtain ⟨j, hj, hR⟩ := hrel
    clear P1
    have hz63 := zeros_le l.length
    obtain ⟨a, c, rfl, hac, _, _, _⟩ := hR.2.2.1.form
    obtain ⟨q, hq⟩ : ∃ q, ([128] ++ List.replicate j (0 : UInt8)).length = q := ⟨_, rfl⟩
    have hq1 : q = j + 1 := by rw [← hq]; simp
    rw [hq] at hR hac ⊢
    have c72 := (hR.1.cell (p := ⟨b, 72, none⟩) hbp).trans Hc72.out
    have HR := Lib.hid hR
    have Hq := Lib.hid hq
    have Hq1 := Lib.hid hq1
    have iq : (q : Int) ≤ 64 := by omega
    clear hR hq
    by_cases ht : (l.length + q) % 64 = 56
    · have ht' : (((l.length : Int) + (q : Int)) % 64 != 56) = false := by simp; omega
      have hjz : j = Sha.zeros l.length := by unfold Sha.zeros at hj ⊢; omega
      have Hjz := Lib.hid hjz
      clear ht hjz hq1 hj
      go_wp2_with fail
      have PE0 : PadR w p l (([128] ++ List.replicate (Sha.zeros l.length) 0) ++ (Sha.be8 (8 * l.length)).take 0) (.slice a q c) wr := by
        rw [← Hjz.out]; simpa using HR.out
      have PE := Lib.hid PE0
      clear HR Hq Hq1 Hjz ht' PE0
      go_loopw [4, 6] (fun sv s6 wy => ∃ i : Nat, i ≤ 8 ∧ s6 = .int .i64 (56 - 8 * (i : Int)) ∧ PadR w p l (([128] ++ List.replicate (Sha.zeros l.length) 0) ++ (Sha.be8 (8 * l.length)).take i) sv wy) (fun _ s6 _ => (intOf s6 + 8).toNat)
      case atStart => exact ⟨0, by omega, rfl, PE.out⟩
      case round =>
        obtain ⟨i, hi, rfl, hR⟩ := hrel
        clear PE
        have h8 : i = 8 ∨ i = 0 ∨ i = 1 ∨ i = 2 ∨ i = 3 ∨ i = 4 ∨ i = 5 ∨ i = 6 ∨ i = 7 := by omega
        clear hi
        rcases h8 with rfl | rfl | rfl | rfl | rfl | rfl | rfl | rfl | rfl
        · obtain ⟨d, hd⟩ : ∃ d, ([128] ++ List.replicate (Sha.zeros l.length) 0) ++ (Sha.be8 (8 * l.length)).take 8 = d := ⟨_, rfl⟩
          have hpd : d = Sha.pad l.length := by rw [← hd]; rfl
          have hdl : d.length ≤ 100 := by rw [← hd]; have := zeros_le l.length; simp only [List.length_append, List.length_take, List.length_replicate, List.length_cons, List.length_nil]; omega
          rw [hd] at hR
          have HR := Lib.hid hR
          have Hpd := Lib.hid hpd
          have Hdl := Lib.hid hdl
          clear hR hpd hdl hd
          go_wp2_with fail
          refine (shawrite_any HR.out.2.1 HR.out.2.2.1.bv (fun k hk => ⟨by have := HR.out.2.2.2.2 k hk; omega, HR.out.2.2.1.lt k hk⟩) (HG.out.below HR.out.1 hp2) hp2 (by have := Hdl.out; omega)).mono ?_
          rintro e w7 ⟨rfl, hst7, hS7⟩
          have hb7 := HR.out.1.trans (hst7.below (B := p) (fun x hx => by omega) (Nat.le_of_lt HR.out.2.2.2.1))
          have hp7 : p < w7.heap.size := Nat.lt_of_lt_of_le HR.out.2.2.2.1 hst7.size
          obtain ⟨v7, buf7, h647, hv7, _, hB7⟩ := id hS7
          have hsum : Sha.sum l = Sha.bytes v7 := by rw [hv7, Hpd.out]; rfl
          have Hsum := Lib.hid hsum
          obtain ⟨va, vb, vc, vd, ve, vf, vg, vh⟩ := v7
          have P8 : Hid (PadR w p (l ++ d) ((Sha.bytes ⟨va, vb, vc, vd, ve, vf, vg, vh⟩).take (4 * 0)) (.slice (some ⟨w7.heap.size, 0, none⟩) 0 32) (w7.alloc (.cells (List.replicate 32 (.int .u8 0)).toArray 5))) := by
            refine ⟨hb7.alloc (Nat.le_of_lt hp7) _, hS7.of_same (Below.heap_alloc _ _ _ hp7), ?_, by simp; omega, fun g hg => by simp only [Value.ownBlock, Option.some.injEq] at hg; omega⟩
            rw [Nat.mul_zero, List.take_zero]
            unfold OwnB
            exact ⟨by simp, .inr ⟨w7.heap.size, 32, (List.replicate 32 (Value.int .u8 0)).toArray, rfl, Nat.zero_le _, heap_alloc_new w7 _, by simp, by unfold maxLen; omega, by simp, by simp [By]⟩⟩
          have d0 : (w7.alloc (.cells (List.replicate 32 (.int .u8 0)).toArray 5)).cell? ⟨p, 0, none⟩ = some (.int .u32 (va.toNat : Int)) := (hB7.alloc _).cell (i := 0) rfl
          have d1 : (w7.alloc (.cells (List.replicate 32 (.int .u8 0)).toArray 5)).cell? ⟨p, 1, none⟩ = some (.int .u32 (vb.toNat : Int)) := (hB7.alloc _).cell (i := 1) rfl
          have d2 : (w7.alloc (.cells (List.replicate 32 (.int .u8 0)).toArray 5)).cell? ⟨p, 2, none⟩ = some (.int .u32 (vc.toNat : Int)) := (hB7.alloc _).cell (i := 2) rfl
          have d3 : (w7.alloc (.cells (List.replicate 32 (.int .u8 0)).toArray 5)).cell? ⟨p, 3, none⟩ = some (.int .u32 (vd.toNat : Int)) := (hB7.alloc _).cell (i := 3) rfl
          have d4 : (w7.alloc (.cells (List.replicate 32 (.int .u8 0)).toArray 5)).cell? ⟨p, 4, none⟩ = some (.int .u32 (ve.toNat : Int)) := (hB7.alloc _).cell (i := 4) rfl
          have d5 : (w7.alloc (.cells (List.replicate 32 (.int .u8 0)).toArray 5)).cell? ⟨p, 5, none⟩ = some (.int .u32 (vf.toNat : Int)) := (hB7.alloc _).cell (i := 5) rfl
          have d6 : (w7.alloc (.cells (List.replicate 32 (.int .u8 0)).toArray 5)).cell? ⟨p, 6, none⟩ = some (.int .u32 (vg.toNat : Int)) := (hB7.alloc _).cell (i := 6) rfl
          have d7 : (w7.alloc (.cells (List.replicate 32 (.int .u8 0)).toArray 5)).cell? ⟨p, 7, none⟩ = some (.int .u32 (vh.toNat : Int)) := (hB7.alloc _).cell (i := 7) rfl
          clear hst7 hS7 hv7 hB7 hb7 hsum HR hp7
          go_wp2_with (at_make; refine wpList_make_n rfl _ _ _ rfl 5 (.int .u8 0) 1 0 32 Tryd.underlying39 Tryd.infoB rfl rfl rfl (by omega) (by omega) (by unfold maxLen; omega) ?_; generalize w7.alloc (.cells (List.replicate 32 (.int .u8 0)).toArray 5) = w8 at *)
          go_loopw [7, 48] (fun sv s48 wy => ∃ i : Nat, i ≤ 8 ∧ s48 = .int .i64 (i : Int) ∧ PadR w p (l ++ d) ((Sha.bytes ⟨va, vb, vc, vd, ve, vf, vg, vh⟩).take (4 * i)) sv wy) (fun _ s48 _ => 8 - (intOf s48).toNat)
          case atStart => exact ⟨0, by omega, rfl, P8.out⟩
          case round =>
            obtain ⟨i, hi, rfl, hR⟩ := hrel
            clear P8 d0 d1 d2 d3 d4 d5 d6 d7
            have h8 : i = 8 ∨ i = 0 ∨ i = 1 ∨ i = 2 ∨ i = 3 ∨ i = 4 ∨ i = 5 ∨ i = 6 ∨ i = 7 := by omega
            clear hi
            rcases h8 with rfl | rfl | rfl | rfl | rfl | rfl | rfl | rfl | rfl
            · have hstr := run_toString (P := Tryd.prog) hR.2.2.1.bv 39 5 9 Tryd.underlying39 Tryd.underlying5 Tryd.underlying9
              have hbe := hR.1
              clear hR
              go_wp2_with fail
              go_ret
              refine ⟨?_, by rw [Hp.out]; exact hbe⟩
              rw [Hsum.out]
              rfl
            · have hidx : ∀ W : World, (Instr.index 94 (.agg #[.int .u32 (va.toNat : Int), .int .u32 (vb.toNat : Int), .int .u32 (vc.toNat : Int), .int .u32 (vd.toNat : Int), .int .u32 (ve.toNat : Int), .int .u32 (vf.toNat : Int), .int .u32 (vg.toNat : Int), .int .u32 (vh.toNat : Int)]) (.int .i64 0)).run Tryd.prog W = .ok (.int .u32 (va.toNat : Int)) W := fun W => rfl
              rw [show ((0 : Nat) : Int) = 0 from rfl]
              obtain ⟨e, he⟩ : ∃ e, (Sha.bytes ⟨va, vb, vc, vd, ve, vf, vg, vh⟩).take (4 * 0) = e := ⟨_, rfl⟩
              have hnx : (Sha.bytes ⟨va, vb, vc, vd, ve, vf, vg, vh⟩).take (4 * 1) = e ++ [(va >>> 24).toUInt8, (va >>> 16).toUInt8, (va >>> 8).toUInt8, va.toUInt8] := by rw [← he]; rfl
              have hel : e.length = 4 * 0 := by rw [← he]; rfl
              rw [he] at hR
              obtain ⟨a, c, rfl, _, _, _, _⟩ := hR.2.2.1.form
              have HR := Lib.hid hR
              have Hnx := Lib.hid hnx
              have Hel := Lib.hid hel
              clear hR hnx hel he
              go_wp2_with (at_builtin; refine wpList_append_bytes rfl (.tmp 51) (.tmp 63) rfl (.slice a e.length c) _ [(va >>> 24).toUInt8, (va >>> 16).toUInt8, (va >>> 8).toUInt8, va.toUInt8] (by rfl) (by rfl) (HR.out.alloc _).2.2.1 (BV.lits wr _ _ 4 rfl (four_bytes va) (by omega)) (by have := Hel.out; simp; omega) ?_; intro a5 c5 w5 hO5 hg5 ho5)
              have P3 := (HR.out.alloc _).push hO5 hg5 ho5
              rw [← Hnx.out] at P3
              exact ⟨⟨1, by omega, by rfl, by simpa using P3⟩, by simp [intOf]⟩
            · have hidx : ∀ W : World, (Instr.index 94 (.agg #[.int .u32 (va.toNat : Int), .int .u32 (vb.toNat : Int), .int .u32 (vc.toNat : Int), .int .u32 (vd.toNat : Int), .int .u32 (ve.toNat : Int), .int .u32 (vf.toNat : Int), .int .u32 (vg.toNat : Int), .int .u32 (vh.toNat : Int)]) (.int .i64 1)).run Tryd.prog W = .ok (.int .u32 (vb.toNat : Int)) W := fun W => rfl
              rw [show ((1 : Nat) : Int) = 1 from rfl]
              obtain ⟨e, he⟩ : ∃ e, (Sha.bytes ⟨va, vb, vc, vd, ve, vf, vg, vh⟩).take (4 * 1) = e := ⟨_, rfl⟩
              have hnx : (Sha.bytes ⟨va, vb, vc, vd, ve, vf, vg, vh⟩).take (4 * 2) = e ++ [(vb >>> 24).toUInt8, (vb >>> 16).toUInt8, (vb >>> 8).toUInt8, vb.toUInt8] := by rw [← he]; rfl
              have hel : e.length = 4 * 1 := by rw [← he]; rfl
              rw [he] at hR
              obtain ⟨a, c, rfl, _, _, _, _⟩ := hR.2.2.1.form
              have HR := Lib.hid hR
              have Hnx := Lib.hid hnx
              have Hel := Lib.hid hel
              clear hR hnx hel he
              go_wp2_with (at_builtin; refine wpList_append_bytes rfl (.tmp 51) (.tmp 63) rfl (.slice a e.length c) _ [(vb >>> 24).toUInt8, (vb >>> 16).toUInt8, (vb >>> 8).toUInt8, vb.toUInt8] (by rfl) (by rfl) (HR.out.alloc _).2.2.1 (BV.lits wr _ _ 4 rfl (four_bytes vb) (by omega)) (by have := Hel.out; simp; omega) ?_; intro a5 c5 w5 hO5 hg5 ho5)
              have P3 := (HR.out.alloc _).push hO5 hg5 ho5
              rw [← Hnx.out] at P3
              exact ⟨⟨2, by omega, by rfl, by simpa using P3⟩, by simp [intOf]⟩
            · have hidx : ∀ W : World, (Instr.index 94 (.agg #[.int .u32 (va.toNat : Int), .int .u32 (vb.toNat : Int), .int .u32 (vc.toNat : Int), .int .u32 (vd.toNat : Int), .int .u32 (ve.toNat : Int), .int .u32 (vf.toNat : Int), .int .u32 (vg.toNat : Int), .int .u32 (vh.toNat : Int)]) (.int .i64 2)).run Tryd.prog W = .ok (.int .u32 (vc.toNat : Int)) W := fun W => rfl
              rw [show ((2 : Nat) : Int) = 2 from rfl]
              obtain ⟨e, he⟩ : ∃ e, (Sha.bytes ⟨va, vb, vc, vd, ve, vf, vg, vh⟩).take (4 * 2) = e := ⟨_, rfl⟩
              have hnx : (Sha.bytes ⟨va, vb, vc, vd, ve, vf, vg, vh⟩).take (4 * 3) = e ++ [(vc >>> 24).toUInt8, (vc >>> 16).toUInt8, (vc >>> 8).toUInt8, vc.toUInt8] := by rw [← he]; rfl
              have hel : e.length = 4 * 2 := by rw [← he]; rfl
              rw [he] at hR
              obtain ⟨a, c, rfl, _, _, _, _⟩ := hR.2.2.1.form
              have HR := Lib.hid hR
              have Hnx := Lib.hid hnx
              have Hel := Lib.hid hel
              clear hR hnx hel he
              go_wp2_with (at_builtin; refine wpList_append_bytes rfl (.tmp 51) (.tmp 63) rfl (.slice a e.length c) _ [(vc >>> 24).toUInt8, (vc >>> 16).toUInt8, (vc >>> 8).toUInt8, vc.toUInt8] (by rfl) (by rfl) (HR.out.alloc _).2.2.1 (BV.lits wr _ _ 4 rfl (four_bytes vc) (by omega)) (by have := Hel.out; simp; omega) ?_; intro a5 c5 w5 hO5 hg5 ho5)
              have P3 := (HR.out.alloc _).push hO5 hg5 ho5
              rw [← Hnx.out] at P3
              exact ⟨⟨3, by omega, by rfl, by simpa using P3⟩, by simp [intOf]⟩
            · have hidx : ∀ W : World, (Instr.index 94 (.agg #[.int .u32 (va.toNat : Int), .int .u32 (vb.toNat : Int), .int .u32 (vc.toNat : Int), .int .u32 (vd.toNat : Int), .int .u32 (ve.toNat : Int), .int .u32 (vf.toNat : Int), .int .u32 (vg.toNat : Int), .int .u32 (vh.toNat : Int)]) (.int .i64 3)).run Tryd.prog W = .ok (.int .u32 (vd.toNat : Int)) W := fun W => rfl
              rw [show ((3 : Nat) : Int) = 3 from rfl]
              obtain ⟨e, he⟩ : ∃ e, (Sha.bytes ⟨va, vb, vc, vd, ve, vf, vg, vh⟩).take (4 * 3) = e := ⟨_, rfl⟩
              have hnx : (Sha.bytes ⟨va, vb, vc, vd, ve, vf, vg, vh⟩).take (4 * 4) = e ++ [(vd >>> 24).toUInt8, (vd >>> 16).toUInt8, (vd >>> 8).toUInt8, vd.toUInt8] := by rw [← he]; rfl
              have hel : e.length = 4 * 3 := by rw [← he]; rfl
              rw [he] at hR
              obtain ⟨a, c, rfl, _, _, _, _⟩ := hR.2.2.1.form
              have HR := Lib.hid hR
              have Hnx := Lib.hid hnx
              have Hel := Lib.hid hel
              clear hR hnx hel he
              go_wp2_with (at_builtin; refine wpList_append_bytes rfl (.tmp 51) (.tmp 63) rfl (.slice a e.length c) _ [(vd >>> 24).toUInt8, (vd >>> 16).toUInt8, (vd >>> 8).toUInt8, vd.toUInt8] (by rfl) (by rfl) (HR.out.alloc _).2.2.1 (BV.lits wr _ _ 4 rfl (four_bytes vd) (by omega)) (by have := Hel.out; simp; omega) ?_; intro a5 c5 w5 hO5 hg5 ho5)
              have P3 := (HR.out.alloc _).push hO5 hg5 ho5
              rw [← Hnx.out] at P3
              exact ⟨⟨4, by omega, by rfl, by simpa using P3⟩, by simp [intOf]⟩
            · have hidx : ∀ W : World, (Instr.index 94 (.agg #[.int .u32 (va.toNat : Int), .int .u32 (vb.toNat : Int), .int .u32 (vc.toNat : Int), .int .u32 (vd.toNat : Int), .int .u32 (ve.toNat : Int), .int .u32 (vf.toNat : Int), .int .u32 (vg.toNat : Int), .int .u32 (vh.toNat : Int)]) (.int .i64 4)).run Tryd.prog W = .ok (.int .u32 (ve.toNat : Int)) W := fun W => rfl
              rw [show ((4 : Nat) : Int) = 4 from rfl]
              obtain ⟨e, he⟩ : ∃ e, (Sha.bytes ⟨va, vb, vc, vd, ve, vf, vg, vh⟩).take (4 * 4) = e := ⟨_, rfl⟩
              have hnx : (Sha.bytes ⟨va, vb, vc, vd, ve, vf, vg, vh⟩).take (4 * 5) = e ++ [(ve >>> 24).toUInt8, (ve >>> 16).toUInt8, (ve >>> 8).toUInt8, ve.toUInt8] := by rw [← he]; rfl
              have hel : e.length = 4 * 4 := by rw [← he]; rfl
              rw [he] at hR
              obtain ⟨a, c, rfl, _, _, _, _⟩ := hR.2.2.1.form
              have HR := Lib.hid hR
              have Hnx := Lib.hid hnx
              have Hel := Lib.hid hel
              clear hR hnx hel he
              go_wp2_with (at_builtin; refine wpList_append_bytes rfl (.tmp 51) (.tmp 63) rfl (.slice a e.length c) _ [(ve >>> 24).toUInt8, (ve >>> 16).toUInt8, (ve >>> 8).toUInt8, ve.toUInt8] (by rfl) (by rfl) (HR.out.alloc _).2.2.1 (BV.lits wr _ _ 4 rfl (four_bytes ve) (by omega)) (by have := Hel.out; simp; omega) ?_; intro a5 c5 w5 hO5 hg5 ho5)
              have P3 := (HR.out.alloc _).push hO5 hg5 ho5
              rw [← Hnx.out] at P3
              exact ⟨⟨5, by omega, by rfl, by simpa using P3⟩, by simp [intOf]⟩
            · have hidx : ∀ W : World, (Instr.index 94 (.agg #[.int .u32 (va.toNat : Int), .int .u32 (vb.toNat : Int), .int .u32 (vc.toNat : Int), .int .u32 (vd.toNat : Int), .int .u32 (ve.toNat : Int), .int .u32 (vf.toNat : Int), .int .u32 (vg.toNat : Int), .int .u32 (vh.toNat : Int)]) (.int .i64 5)).run Tryd.prog W = .ok (.int .u32 (vf.toNat : Int)) W := fun W => rfl
              rw [show ((5 : Nat) : Int) = 5 from rfl]
              obtain ⟨e, he⟩ : ∃ e, (Sha.bytes ⟨va, vb, vc, vd, ve, vf, vg, vh⟩).take (4 * 5) = e := ⟨_, rfl⟩
              have hnx : (Sha.bytes ⟨va, vb, vc, vd, ve, vf, vg, vh⟩).take (4 * 6) = e ++ [(vf >>> 24).toUInt8, (vf >>> 16).toUInt8, (vf >>> 8).toUInt8, vf.toUInt8] := by rw [← he]; rfl
              have hel : e.length = 4 * 5 := by rw [← he]; rfl
              rw [he] at hR
              obtain ⟨a, c, rfl, _, _, _, _⟩ := hR.2.2.1.form
              have HR := Lib.hid hR
              have Hnx := Lib.hid hnx
              have Hel := Lib.hid hel
              clear hR hnx hel he
              go_wp2_with (at_builtin; refine wpList_append_bytes rfl (.tmp 51) (.tmp 63) rfl (.slice a e.length c) _ [(vf >>> 24).toUInt8, (vf >>> 16).toUInt8, (vf >>> 8).toUInt8, vf.toUInt8] (by rfl) (by rfl) (HR.out.alloc _).2.2.1 (BV.lits wr _ _ 4 rfl (four_bytes vf) (by omega)) (by have := Hel.out; simp; omega) ?_; intro a5 c5 w5 hO5 hg5 ho5)
              have P3 := (HR.out.alloc _).push hO5 hg5 ho5
              rw [← Hnx.out] at P3
              exact ⟨⟨6, by omega, by rfl, by simpa using P3⟩, by simp [intOf]⟩
            · have hidx : ∀ W : World, (Instr.index 94 (.agg #[.int .u32 (va.toNat : Int), .int .u32 (vb.toNat : Int), .int .u32 (vc.toNat : Int), .int .u32 (vd.toNat : Int), .int .u32 (ve.toNat : Int), .int .u32 (vf.toNat : Int), .int .u32 (vg.toNat : Int), .int .u32 (vh.toNat : Int)]) (.int .i64 6)).run Tryd.prog W = .ok (.int .u32 (vg.toNat : Int)) W := fun W => rfl
              rw [show ((6 : Nat) : Int) = 6 from rfl]
              obtain ⟨e, he⟩ : ∃ e, (Sha.bytes ⟨va, vb, vc, vd, ve, vf, vg, vh⟩).take (4 * 6) = e := ⟨_, rfl⟩
              have hnx : (Sha.bytes ⟨va, vb, vc, vd, ve, vf, vg, vh⟩).take (4 * 7) = e ++ [(vg >>> 24).toUInt8, (vg >>> 16).toUInt8, (vg >>> 8).toUInt8, vg.toUInt8] := by rw [← he]; rfl
              have hel : e.length = 4 * 6 := by rw [← he]; rfl
              rw [he] at hR
              obtain ⟨a, c, rfl, _, _, _, _⟩ := hR.2.2.1.form
              have HR := Lib.hid hR
              have Hnx := Lib.hid hnx
              have Hel := Lib.hid hel
              clear hR hnx hel he
              go_wp2_with (at_builtin; refine wpList_append_bytes rfl (.tmp 51) (.tmp 63) rfl (.slice a e.length c) _ [(vg >>> 24).toUInt8, (vg >>> 16).toUInt8, (vg >>> 8).toUInt8, vg.toUInt8] (by rfl) (by rfl) (HR.out.alloc _).2.2.1 (BV.lits wr _ _ 4 rfl (four_bytes vg) (by omega)) (by have := Hel.out; simp; omega) ?_; intro a5 c5 w5 hO5 hg5 ho5)
              have P3 := (HR.out.alloc _).push hO5 hg5 ho5
              rw [← Hnx.out] at P3
              exact ⟨⟨7, by omega, by rfl, by simpa using P3⟩, by simp [intOf]⟩
            · have hidx : ∀ W : World, (Instr.index 94 (.agg #[.int .u32 (va.toNat : Int), .int .u32 (vb.toNat : Int), .int .u32 (vc.toNat : Int), .int .u32 (vd.toNat : Int), .int .u32 (ve.toNat : Int), .int .u32 (vf.toNat : Int), .int .u32 (vg.toNat : Int), .int .u32 (vh.toNat : Int)]) (.int .i64 7)).run Tryd.prog W = .ok (.int .u32 (vh.toNat : Int)) W := fun W => rfl
              rw [show ((7 : Nat) : Int) = 7 from rfl]
              obtain ⟨e, he⟩ : ∃ e, (Sha.bytes ⟨va, vb, vc, vd, ve, vf, vg, vh⟩).take (4 * 7) = e := ⟨_, rfl⟩
              have hnx : (Sha.bytes ⟨va, vb, vc, vd, ve, vf, vg, vh⟩).take (4 * 8) = e ++ [(vh >>> 24).toUInt8, (vh >>> 16).toUInt8, (vh >>> 8).toUInt8, vh.toUInt8] := by rw [← he]; rfl
              have hel : e.length = 4 * 7 := by rw [← he]; rfl
              rw [he] at hR
              obtain ⟨a, c, rfl, _, _, _, _⟩ := hR.2.2.1.form
              have HR := Lib.hid hR
              have Hnx := Lib.hid hnx
              have Hel := Lib.hid hel
              clear hR hnx hel he
              go_wp2_with (at_builtin; refine wpList_append_bytes rfl (.tmp 51) (.tmp 63) rfl (.slice a e.length c) _ [(vh >>> 24).toUInt8, (vh >>> 16).toUInt8, (vh >>> 8).toUInt8, vh.toUInt8] (by rfl) (by rfl) (HR.out.alloc _).2.2.1 (BV.lits wr _ _ 4 rfl (four_bytes vh) (by omega)) (by have := Hel.out; simp; omega) ?_; intro a5 c5 w5 hO5 hg5 ho5)
              have P3 := (HR.out.alloc _).push hO5 hg5 ho5
              rw [← Hnx.out] at P3
              exact ⟨⟨8, by omega, by rfl, by simpa using P3⟩, by simp [intOf]⟩
        · obtain ⟨d, hd⟩ : ∃ d, ([128] ++ List.replicate (Sha.zeros l.length) 0) ++ (Sha.be8 (8 * l.length)).take 0 = d := ⟨_, rfl⟩
          have hnx : ([128] ++ List.replicate (Sha.zeros l.length) 0) ++ (Sha.be8 (8 * l.length)).take 1 = d ++ [UInt8.ofNat (8 * l.length / 2 ^ (56 - 8 * 0))] := by
            rw [← hd, be8_take _ 0 (by omega)]; simp only [List.append_assoc]
          have hdl : d.length ≤ 100 := by rw [← hd]; have := zeros_le l.length; simp only [List.length_append, List.length_take, List.length_replicate, List.length_cons, List.length_nil]; omega
          rw [hd] at hR
          obtain ⟨a, c, rfl, _, _, _, _⟩ := hR.2.2.1.form
          have HR := Lib.hid hR
          have Hnx := Lib.hid hnx
          have Hdl := Lib.hid hdl
          clear hR hnx hdl hd
          go_wp2_with (at_builtin; refine wpList_append_bytes rfl (.tmp 36) (.tmp 41) rfl (.slice a d.length c) _ [UInt8.ofNat (8 * l.length / 2 ^ (56 - 8 * 0))] (by rfl) (by rfl) (HR.out.alloc _).2.2.1 (BV.lits wr _ _ 1 rfl (by simp [By]; omega) (by omega)) (by have := Hdl.out; simp; omega) ?_; intro a5 c5 w5 hO5 hg5 ho5)
          have P3 := (HR.out.alloc _).push hO5 hg5 ho5
          rw [← Hnx.out] at P3
          exact ⟨⟨1, by omega, by rfl, by simpa using P3⟩, by simp [intOf]⟩
        · obtain ⟨d, hd⟩ : ∃ d, ([128] ++ List.replicate (Sha.zeros l.length) 0) ++ (Sha.be8 (8 * l.length)).take 1 = d := ⟨_, rfl⟩
          have hnx : ([128] ++ List.replicate (Sha.zeros l.length) 0) ++ (Sha.be8 (8 * l.length)).take 2 = d ++ [UInt8.ofNat (8 * l.length / 2 ^ (56 - 8 * 1))] := by
            rw [← hd, be8_take _ 1 (by omega)]; simp only [List.append_assoc]
          have hdl : d.length ≤ 100 := by rw [← hd]; have := zeros_le l.length; simp only [List.length_append, List.length_take, List.length_replicate, List.length_cons, List.length_nil]; omega
          rw [hd] at hR
          obtain ⟨a, c, rfl, _, _, _, _⟩ := hR.2.2.1.form
          have HR := Lib.hid hR
          have Hnx := Lib.hid hnx
          have Hdl := Lib.hid hdl
          clear hR hnx hdl hd
          go_wp2_with (at_builtin; refine wpList_append_bytes rfl (.tmp 36) (.tmp 41) rfl (.slice a d.length c) _ [UInt8.ofNat (8 * l.length / 2 ^ (56 - 8 * 1))] (by rfl) (by rfl) (HR.out.alloc _).2.2.1 (BV.lits wr _ _ 1 rfl (by simp [By]; omega) (by omega)) (by have := Hdl.out; simp; omega) ?_; intro a5 c5 w5 hO5 hg5 ho5)
          have P3 := (HR.out.alloc _).push hO5 hg5 ho5
          rw [← Hnx.out] at P3
          exact ⟨⟨2, by omega, by rfl, by simpa using P3⟩, by simp [intOf]⟩
        · obtain ⟨d, hd⟩ : ∃ d, ([128] ++ List.replicate (Sha.zeros l.length) 0) ++ (Sha.be8 (8 * l.length)).take 2 = d := ⟨_, rfl⟩
          have hnx : ([128] ++ List.replicate (Sha.zeros l.length) 0) ++ (Sha.be8 (8 * l.length)).take 3 = d ++ [UInt8.ofNat (8 * l.length / 2 ^ (56 - 8 * 2))] := by
            rw [← hd, be8_take _ 2 (by omega)]; simp only [List.append_assoc]
          have hdl : d.length ≤ 100 := by rw [← hd]; have := zeros_le l.length; simp only [List.length_append, List.length_take, List.length_replicate, List.length_cons, List.length_nil]; omega
          rw [hd] at hR
          obtain ⟨a, c, rfl, _, _, _, _⟩ := hR.2.2.1.form
          have HR := Lib.hid hR
          have Hnx := Lib.hid hnx
          have Hdl := Lib.hid hdl
          clear hR hnx hdl hd
          go_wp2_with (at_builtin; refine wpList_append_bytes rfl (.tmp 36) (.tmp 41) rfl (.slice a d.length c) _ [UInt8.ofNat (8 * l.length / 2 ^ (56 - 8 * 2))] (by rfl) (by rfl) (HR.out.alloc _).2.2.1 (BV.lits wr _ _ 1 rfl (by simp [By]; omega) (by omega)) (by have := Hdl.out; simp; omega) ?_; intro a5 c5 w5 hO5 hg5 ho5)
          have P3 := (HR.out.alloc _).push hO5 hg5 ho5
          rw [← Hnx.out] at P3
          exact ⟨⟨3, by omega, by rfl, by simpa using P3⟩, by simp [intOf]⟩
        · obtain ⟨d, hd⟩ : ∃ d, ([128] ++ List.replicate (Sha.zeros l.length) 0) ++ (Sha.be8 (8 * l.length)).take 3 = d := ⟨_, rfl⟩
          have hnx : ([128] ++ List.replicate (Sha.zeros l.length) 0) ++ (Sha.be8 (8 * l.length)).take 4 = d ++ [UInt8.ofNat (8 * l.length / 2 ^ (56 - 8 * 3))] := by
            rw [← hd, be8_take _ 3 (by omega)]; simp only [List.append_assoc]
          have hdl : d.length ≤ 100 := by rw [← hd]; have := zeros_le l.length; simp only [List.length_append, List.length_take, List.length_replicate, List.length_cons, List.length_nil]; omega
          rw [hd] at hR
          obtain ⟨a, c, rfl, _, _, _, _⟩ := hR.2.2.1.form
          have HR := Lib.hid hR
          have Hnx := Lib.hid hnx
          have Hdl := Lib.hid hdl
          clear hR hnx hdl hd
          go_wp2_with (at_builtin; refine wpList_append_bytes rfl (.tmp 36) (.tmp 41) rfl (.slice a d.length c) _ [UInt8.ofNat (8 * l.length / 2 ^ (56 - 8 * 3))] (by rfl) (by rfl) (HR.out.alloc _).2.2.1 (BV.lits wr _ _ 1 rfl (by simp [By]; omega) (by omega)) (by have := Hdl.out; simp; omega) ?_; intro a5 c5 w5 hO5 hg5 ho5)
          have P3 := (HR.out.alloc _).push hO5 hg5 ho5
          rw [← Hnx.out] at P3
          exact ⟨⟨4, by omega, by rfl, by simpa using P3⟩, by simp [intOf]⟩
        · obtain ⟨d, hd⟩ : ∃ d, ([128] ++ List.replicate (Sha.zeros l.length) 0) ++ (Sha.be8 (8 * l.length)).take 4 = d := ⟨_, rfl⟩
          have hnx : ([128] ++ List.replicate (Sha.zeros l.length) 0) ++ (Sha.be8 (8 * l.length)).take 5 = d ++ [UInt8.ofNat (8 * l.length / 2 ^ (56 - 8 * 4))] := by
            rw [← hd, be8_take _ 4 (by omega)]; simp only [List.append_assoc]
          have hdl : d.length ≤ 100 := by rw [← hd]; have := zeros_le l.length; simp only [List.length_append, List.length_take, List.length_replicate, List.length_cons, List.length_nil]; omega
          rw [hd] at hR
          obtain ⟨a, c, rfl, _, _, _, _⟩ := hR.2.2.1.form
          have HR := Lib.hid hR
          have Hnx := Lib.hid hnx
          have Hdl := Lib.hid hdl
          clear hR hnx hdl hd
          go_wp2_with (at_builtin; refine wpList_append_bytes rfl (.tmp 36) (.tmp 41) rfl (.slice a d.length c) _ [UInt8.ofNat (8 * l.length / 2 ^ (56 - 8 * 4))] (by rfl) (by rfl) (HR.out.alloc _).2.2.1 (BV.lits wr _ _ 1 rfl (by simp [By]; omega) (by omega)) (by have := Hdl.out; simp; omega) ?_; intro a5 c5 w5 hO5 hg5 ho5)
          have P3 := (HR.out.alloc _).push hO5 hg5 ho5
          rw [← Hnx.out] at P3
          exact ⟨⟨5, by omega, by rfl, by simpa using P3⟩, by simp [intOf]⟩
        · obtain ⟨d, hd⟩ : ∃ d, ([128] ++ List.replicate (Sha.zeros l.length) 0) ++ (Sha.be8 (8 * l.length)).take 5 = d := ⟨_, rfl⟩
          have hnx : ([128] ++ List.replicate (Sha.zeros l.length) 0) ++ (Sha.be8 (8 * l.length)).take 6 = d ++ [UInt8.ofNat (8 * l.length / 2 ^ (56 - 8 * 5))] := by
            rw [← hd, be8_take _ 5 (by omega)]; simp only [List.append_assoc]
          have hdl : d.length ≤ 100 := by rw [← hd]; have := zeros_le l.length; simp only [List.length_append, List.length_take, List.length_replicate, List.length_cons, List.length_nil]; omega
          rw [hd] at hR
          obtain ⟨a, c, rfl, _, _, _, _⟩ := hR.2.2.1.form
          have HR := Lib.hid hR
          have Hnx := Lib.hid hnx
          have Hdl := Lib.hid hdl
          clear hR hnx hdl hd
          go_wp2_with (at_builtin; refine wpList_append_bytes rfl (.tmp 36) (.tmp 41) rfl (.slice a d.length c) _ [UInt8.ofNat (8 * l.length / 2 ^ (56 - 8 * 5))] (by rfl) (by rfl) (HR.out.alloc _).2.2.1 (BV.lits wr _ _ 1 rfl (by simp [By]; omega) (by omega)) (by have := Hdl.out; simp; omega) ?_; intro a5 c5 w5 hO5 hg5 ho5)
          have P3 := (HR.out.alloc _).push hO5 hg5 ho5
          rw [← Hnx.out] at P3
          exact ⟨⟨6, by omega, by rfl, by simpa using P3⟩, by simp [intOf]⟩
        · obtain ⟨d, hd⟩ : ∃ d, ([128] ++ List.replicate (Sha.zeros l.length) 0) ++ (Sha.be8 (8 * l.length)).take 6 = d := ⟨_, rfl⟩
          have hnx : ([128] ++ List.replicate (Sha.zeros l.length) 0) ++ (Sha.be8 (8 * l.length)).take 7 = d ++ [UInt8.ofNat (8 * l.length / 2 ^ (56 - 8 * 6))] := by
            rw [← hd, be8_take _ 6 (by omega)]; simp only [List.append_assoc]
          have hdl : d.length ≤ 100 := by rw [← hd]; have := zeros_le l.length; simp only [List.length_append, List.length_take, List.length_replicate, List.length_cons, List.length_nil]; omega
          rw [hd] at hR
          obtain ⟨a, c, rfl, _, _, _, _⟩ := hR.2.2.1.form
          have HR := Lib.hid hR
          have Hnx := Lib.hid hnx
          have Hdl := Lib.hid hdl
          clear hR hnx hdl hd
          go_wp2_with (at_builtin; refine wpList_append_bytes rfl (.tmp 36) (.tmp 41) rfl (.slice a d.length c) _ [UInt8.ofNat (8 * l.length / 2 ^ (56 - 8 * 6))] (by rfl) (by rfl) (HR.out.alloc _).2.2.1 (BV.lits wr _ _ 1 rfl (by simp [By]; omega) (by omega)) (by have := Hdl.out; simp; omega) ?_; intro a5 c5 w5 hO5 hg5 ho5)
          have P3 := (HR.out.alloc _).push hO5 hg5 ho5
          rw [← Hnx.out] at P3
          exact ⟨⟨7, by omega, by rfl, by simpa using P3⟩, by simp [intOf]⟩
        · obtain ⟨d, hd⟩ : ∃ d, ([128] ++ List.replicate (Sha.zeros l.length) 0) ++ (Sha.be8 (8 * l.length)).take 7 = d := ⟨_, rfl⟩
          have hnx : ([128] ++ List.replicate (Sha.zeros l.length) 0) ++ (Sha.be8 (8 * l.length)).take 8 = d ++ [UInt8.ofNat (8 * l.length / 2 ^ (56 - 8 * 7))] := by
            rw [← hd, be8_take _ 7 (by omega)]; simp only [List.append_assoc]
          have hdl : d.length ≤ 100 := by rw [← hd]; have := zeros_le l.length; simp only [List.length_append, List.length_take, List.length_replicate, List.length_cons, List.length_nil]; omega
          rw [hd] at hR
          obtain ⟨a, c, rfl, _, _, _, _⟩ := hR.2.2.1.form
          have HR := Lib.hid hR
          have Hnx := Lib.hid hnx
          have Hdl := Lib.hid hdl
          clear hR hnx hdl hd
          go_wp2_with (at_builtin; refine wpList_append_bytes rfl (.tmp 36) (.tmp 41) rfl (.slice a d.length c) _ [UInt8.ofNat (8 * l.length / 2 ^ (56 - 8 * 7))] (by rfl) (by rfl) (HR.out.alloc _).2.2.1 (BV.lits wr _ _ 1 rfl (by simp [By]; omega) (by omega)) (by have := Hdl.out; simp; omega) ?_; intro a5 c5 w5 hO5 hg5 ho5)
          have P3 := (HR.out.alloc _).push hO5 hg5 ho5
          rw [← Hnx.out] at P3
          exact ⟨⟨8, by omega, by rfl, by simpa using P3⟩, by simp [intOf]⟩
    · have ht' : (((l.length : Int) + (q : Int)) % 64 != 56) = true := by simp; omega
      have hjz : j + 1 ≤ Sha.zeros l.length := by
        by_cases h : j = Sha.zeros l.length
        · exact absurd (show (l.length + q) % 64 = 56 by unfold Sha.zeros at h; omega) ht
        · omega
      have Hjz := Lib.hid hjz
      clear ht hjz hq1 hj
      have P2 := HR.out.alloc (.cells #[.int .u8 0] 5)
      have HP2 := Lib.hid P2
      have hbv := BV.lits wr #[.int .u8 0] [0] 1 rfl rfl (by omega)
      clear P2
      go_wp2_with (at_builtin; refine wpList_append_bytes rfl (.tmp 23) (.tmp 24) rfl (.slice a q c) _ [0] (by rfl) (by rfl) HP2.out.2.2.1 hbv (by have := Hq1.out; have := Hjz.out; simp; omega) ?_; intro a5 c5 w5 hO5 hg5 ho5)
      have P3 := HP2.out.push hO5 hg5 ho5
      rw [List.append_assoc, ← List.replicate_succ'] at P3
      refine ⟨⟨j + 1, Hjz.out, by simpa using P3⟩, ?_⟩
      have := Hq1.out
      have := Hjz.out
      simp only [sliceLen]
      omega
end
end Go.Proofs.YtcpcnfedbffecaaDoor
