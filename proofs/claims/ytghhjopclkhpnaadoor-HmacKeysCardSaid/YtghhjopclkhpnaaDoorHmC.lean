/- Contract of the closure of New. -/
import Derived.Test.YtghhjopclkhpnaaDoorHmF
namespace Go.Proofs.YtghhjopclkhpnaaDoor
open Go.RowKit
def zb64 : Array Value := (List.replicate 64 (Value.int .u8 0)).toArray
theorem zb64_len : zb64.toList.length = 64 := by kernel_rfl
theorem Tryd.zeroB64 (w : World) : (zeroValue 45).run Tryd.prog w = .ok (.agg zb64) w := by kernel_rfl
theorem Tryd.sizeB64 : (Tryd.prog.info? 45).map (·.size) = some 64 := by kernel_rfl
def prow (l : List UInt8) (i : Nat) : List Value := By (l.take i) ++ List.replicate (64 - i) (.int .u8 0)
theorem prow_zero (l : List UInt8) : prow l 0 = zb64.toList := rfl
theorem prow_full (l : List UInt8) (h : l.length = 64) : prow l 64 = By l := by
  unfold prow; rw [List.take_of_length_le (by omega)]; simp
theorem prow_length {l : List UInt8} (h : l.length = 64) {i : Nat} (hi : i ≤ 64) : (prow l i).length = 64 := by
  unfold prow; simp [h]; omega
theorem prow_zeroAt {l : List UInt8} (h : l.length = 64) {i : Nat} (hi : i < 64) : (prow l i)[i]? = some (.int .u8 0) := by
  unfold prow
  rw [List.getElem?_append_right (by rw [By_length, List.length_take, h]; omega), By_length, List.length_take, h, show i - min i 64 = 0 from by omega, List.getElem?_replicate, if_pos (by omega)]
theorem prow_set {l : List UInt8} (h : l.length = 64) {i : Nat} (hi : i < 64) : (prow l i).set i (.int .u8 ((l.getD i 0).toNat : Int)) = prow l (i + 1) := by
  unfold prow
  have hl : (By (l.take i)).length = i := by simp [h]; omega
  obtain ⟨m, hm⟩ : ∃ m, 64 - i = m + 1 := ⟨63 - i, by omega⟩
  have e : By (l.take (i + 1)) = By (l.take i) ++ [.int .u8 ((l.getD i 0).toNat : Int)] := by
    rw [List.take_succ_eq_append_getElem (by omega), By_append]
    simp [By, List.getD, h, hi]
  rw [List.set_append, if_neg (by omega), hl, Nat.sub_self, hm, show 64 - (i + 1) = m from by omega, List.replicate_succ, e, List.set_cons_zero, List.append_assoc]
  rfl
theorem idx_arr (l : List UInt8) (h : l.length = 64) (k : Nat) (hk : k < 64) (W : World) : (Instr.index 45 (.agg (By l).toArray) (.int .i64 (k : Int))).run Tryd.prog W = .ok (.int .u8 ((l.getD k 0).toNat : Int)) W := by
  have hu := Tryd.underlying45
  simp [Instr.index, run_underlying hu, go_sem, hk, List.getD, h]
  simp [By]
section
variable {w w' : World} {f : Nat} {k : List UInt8}
set_option maxRecDepth 100000 in
set_option maxHeartbeats 1000000 in
theorem combined_any (x : UInt8) (hf : Blk w f (By (Hm.fill k)) 45) :
    Calls Tryd.prog 32 #[.int .u8 (x.toNat : Int), .pointer (some ⟨f, 0, none⟩)] w fun e w' => e = .returned (.agg (By (Hm.pad k x)).toArray) ∧ Below w.heap.size w w' := by
  have hz := Tryd.zeroB64
  have hfl := Hm.fill_length k
  have HF := Lib.hid hf
  obtain ⟨l, hl⟩ : ∃ l, Hm.fill k = l := ⟨_, rfl⟩
  rw [hl] at HF hfl
  have HLl := Lib.hid hl
  have hpl := Hm.pad_length k x
  obtain ⟨p, hp⟩ : ∃ p, Hm.pad k x = p := ⟨_, rfl⟩
  have hpd : ∀ i, i < 64 → p.getD i 0 = l.getD i 0 ^^^ x := fun i hi => by
    have e : p = l.map (· ^^^ x) := by rw [← hp, ← hl]; rfl
    rw [e]; simp [List.getD, hfl, hi]
  rw [hp] at hpl
  have Hp := Lib.hid hp
  have Hpd := Lib.hid hpd
  have B0 : Hid (Blk (w.alloc (.cells zb64 45)) w.heap.size (prow p 0) 45) := Blk.new w zb64.toList _
  have W0 := Lib.hid ((Below.refl w.heap.size w).alloc (Nat.le_refl _) (.cells zb64 45))
  have F0 : Hid (Blk (w.alloc (.cells zb64 45)) f (By l) 45) := HF.out.alloc _
  have hne : f < w.heap.size := hf.lt
  have Hne := Lib.hid hne
  have Hfl := Lib.hid hfl
  have Hpl := Lib.hid hpl
  clear hf hp hl hpd hne hfl hpl
  have bsz : (By l).length = 64 := by rw [By_length, Hfl.out]
  have Hbs := Lib.hid bsz
  clear bsz
  obtain ⟨L, hL⟩ : ∃ L, By l = L := ⟨_, rfl⟩
  have hidx : ∀ (k : Nat), k < 64 → ∀ W : World, (Instr.index 45 (.agg L.toArray) (.int .i64 (k : Int))).run Tryd.prog W = .ok (.int .u8 ((l.getD k 0).toNat : Int)) W := fun k hk W => by rw [← hL]; exact idx_arr l Hfl.out k hk W
  have HI := Lib.hid hidx
  rw [hL] at F0 Hbs
  clear hL hidx
  go_enter Tryd.func32, Tryd.ntmps32
  go_wp2_with (refine wpList_load_mid rfl 45 (.tmp 1) rfl f 0 (by rfl) L _ (by have := F0.out; rw [← List.append_nil L] at this; exact this.rangeAt) Tryd.underlying45 rfl (by rw [Hbs.out]; exact Tryd.sizeB64) ?_)
  generalize w.alloc (.cells zb64 45) = w1 at *
  go_loopw [7] (fun i wr => ∃ k : Nat, k ≤ 64 ∧ i = .int .i64 (k : Int) ∧ Below w.heap.size w wr ∧ Blk wr w.heap.size (prow p k) 45) (fun i _ => 64 - (intOf i).toNat)
  case atStart => exact ⟨0, by omega, rfl, W0.out, B0.out⟩
  case round =>
    obtain ⟨i, hi, rfl, hW, hB⟩ := hrel
    clear W0 B0
    by_cases hlt : i < 64
    · have it : (i : Int) < 64 := by omega
      have hix := HI.out i hlt
      have hps := prow_set Hpl.out hlt
      rw [Hpd.out i hlt] at hps
      obtain ⟨y, hy⟩ : ∃ y, l.getD i 0 = y := ⟨_, rfl⟩
      rw [hy] at hix hps
      have hc : wr.cell? ⟨w.heap.size, i, none⟩ = some (.int .u8 0) := hB.cell (prow_zeroAt Hpl.out hlt)
      have hfr := hB.free i
      have hlt2 := hB.lt
      have HW := Lib.hid (hW.setCell (p := ⟨w.heap.size, i, none⟩) (Nat.le_refl _) (.int .u8 ((y ^^^ x).toNat : Int)))
      have HB := Lib.hid (hB.set i (.int .u8 ((y ^^^ x).toNat : Int)))
      rw [hps] at HB
      clear hps hW hB hy
      go_wp2_with fail
      rw [b_xor]
      generalize wr.setCell ⟨w.heap.size, i, none⟩ (.int .u8 ((y ^^^ x).toNat : Int)) = w2 at *
      exact ⟨⟨i + 1, by omega, by go_num, HW.out, HB.out⟩, by simp [intOf]; omega⟩
    · have e8 : i = 64 := by omega
      rw [e8, prow_full _ Hpl.out] at hB
      rw [show (i : Int) = 64 from by omega]
      obtain ⟨Q, hQ⟩ : ∃ Q, By p = Q := ⟨_, rfl⟩
      have hQ1 : ∀ u ∈ Q, u.oneCell' = true := by rw [← hQ]; exact By_oneCell p
      have hQl : Q.length = 64 := by rw [← hQ, By_length, Hpl.out]
      rw [hQ] at hB
      have HW := Lib.hid hW
      have HB := Lib.hid hB
      have HQ := Lib.hid hQ
      have HQ1 := Lib.hid hQ1
      have HQl := Lib.hid hQl
      clear hW hB hQ hQ1 hQl e8 hi hlt
      go_wp2_with (first
        | (refine wpList_load_mid rfl 45 (.tmp 3) rfl w.heap.size 0 (by rfl) Q _ (by have := HB.out; rw [← List.append_nil Q] at this; exact this.rangeAt) Tryd.underlying45 rfl (by rw [HQl.out]; exact Tryd.sizeB64) ?_)
        | (refine wpList_store_mid rfl 45 (.tmp 3) (.tmp 17) rfl w.heap.size 0 Q.toArray (by rfl) (by rfl) (HB.out.there (by rw [List.size_toArray, HQl.out]; omega)) (by rw [List.size_toArray, HQl.out]; exact Tryd.sizeB64) (all_oneCell_toArray HQ1.out) ?_; change wpList _ _ _ _ _ (wr.setCells w.heap.size 0 Q)))
      have R := HB.out.fresh (cs := Q) rfl
      refine bodyPost_ret (results_cell_row rfl _ _ w.heap.size 45 Q.toArray (0, 0) _ rfl R Tryd.underlying45 rfl (by rw [List.size_toArray, HQl.out]; exact Tryd.sizeB64)) rfl ?_
      exact ⟨by rw [Hp.out, HQ.out], below_setCells HW.out (Nat.le_refl _) _ _⟩
end
end Go.Proofs.YtghhjopclkhpnaaDoor
