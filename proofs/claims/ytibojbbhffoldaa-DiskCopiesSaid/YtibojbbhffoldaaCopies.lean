/- The walk of DiskCopies. -/
import Derived.Test.YtibojbbhffoldaaDiskK
import Derived.Test.YtibojbbhffoldaaOwnB
namespace Go.Proofs.Ytibojbbhffoldaa
open Go.RowKit Go.Maps
theorem uint8_bump (a : UInt8) : IntKind.u8.wrap ((a.toNat : Int) + 1) = ((a + 1).toNat : Int) := by
  rw [IntKind.wrap_u8', UInt8.toNat_add]; simp
theorem one_write (l : List UInt8) : (DSt.new 1 l.length).write 0 l = (0, ⟨l.length, [List.replicate l.length 0], [(0, l)], -1, false⟩) := by
  simp [DSt.write, DSt.new, DSt.valid, DSt.failing, DSt.push, DSt.step]
theorem one_read (n : Nat) (z l : List UInt8) : DSt.read ⟨n, [z], [(0, l)], -1, false⟩ 0 = (0, l) := by
  simp [DSt.read, DSt.valid, DSt.look, DSt.lastIdx]
theorem one_sync (n : Nat) (z l : List UInt8) : DSt.sync ⟨n, [z], [(0, l)], -1, false⟩ = (0, ⟨n, [l], [], -1, false⟩) := by
  simp [DSt.sync, DSt.failing, DSt.step, DSt.flush]
theorem one_read2 (n : Nat) (l : List UInt8) : DSt.read ⟨n, [l], [], -1, false⟩ 0 = (0, l) := by
  simp [DSt.read, DSt.valid, DSt.look, DSt.lastIdx]
/-- A store into a block that is none of the disk's. -/
theorem DiskAt.store {w : World} {s : DSt} {b : Nat} {F : Nat → Prop} (h : DiskAt w s b F) {g : Nat} (hg : ¬ F g) (i : Nat) (v : Value) : DiskAt (w.setCell ⟨g, i, none⟩ v) s b F :=
  h.same (fun k hk => Below.heap_setCell _ _ _ _ (fun e => hg (by subst e; exact hk))) (by simp)
set_option maxRecDepth 100000 in
set_option maxHeartbeats 2000000 in
theorem copies_walk (w : World) (v : Value) (l : List UInt8) (hv : BV w (fun k => k < w.heap.size) v l) :
    Calls Try.prog 3 #[v] w fun e w' => e = .returned (.bool true) ∧ Below w.heap.size w w' := by
  obtain ⟨va, vc, rfl, v1, v2, v3⟩ := hv.get
  unfold maxLen at v2
  have V0 := Lib.hid hv; clear hv v3
  by_cases h8 : 8 < l.length
  · go_enter Try.func3, Try.ntmps3
    go_wp2_with fail
    refine (awake_any w).mono ?_
    rintro e w1 ⟨rfl, hb1⟩
    go_wp2_with fail
    go_ret
    exact ⟨rfl, hb1⟩
  by_cases h1 : l.length < 1
  · have h1' : l.length = 0 := by omega
    have h1'' := Lib.hid h1'
    clear h1'
    go_enter Try.func3, Try.ntmps3
    go_wp2_with fail
    refine (awake_any w).mono ?_
    rintro e w1 ⟨rfl, hb1⟩
    go_wp2_with fail
    go_ret
    exact ⟨rfl, hb1⟩
  go_enter Try.func3, Try.ntmps3
  go_wp2_with fail
  refine (awake_any w).mono ?_
  rintro e w1 ⟨rfl, hb1⟩
  have V1 := Lib.hid (V0.out.grow hb1)
  have B1 := Lib.hid hb1
  clear hb1
  go_wp2_with fail
  refine (new_yes 1 l.length w1 (by omega) (by omega) (by omega) (by omega)).mono ?_
  rintro e w2 ⟨b, rfl, hb2, hD2⟩
  have D2 := Lib.hid hD2; clear hD2
  have V2 := Lib.hid (V1.out.grow hb2)
  have B2 := Lib.hid (B1.out.trans (hb2.mono B1.out.size))
  have S2 := hb2.size
  clear hb2
  have O2 : OwnB (w2.alloc (.cells #[] 5)) (.slice (some ⟨w2.heap.size, 0, none⟩) 0 0) [] := ⟨rfl, .inr ⟨w2.heap.size, 0, #[], rfl, Nat.zero_le _, heap_alloc_new _ _, Nat.le_refl _, Nat.zero_le _, rfl, rfl⟩⟩
  have O2' := Lib.hid O2; clear O2
  go_wp2_with (at_builtin; refine wpList_append_bytes rfl (.tmp 27) (.tmp 28) rfl (.slice (some ⟨w2.heap.size, 0, none⟩) 0 0) (.slice va l.length vc) l (by rfl) (by rfl) O2'.out (V2.out.alloc _) (by simp; omega) ?_)
  intro oa oc w3 hO hg hat
  obtain ⟨g, c, e, _, oc2, og, ocell, ofree, _⟩ := hO.cells (by omega)
  obtain ⟨rfl, rfl⟩ : oa = some ⟨g, 0, none⟩ ∧ oc = c := by simpa using e
  have g2 : w2.heap.size ≤ g := by
    rcases hat with h | h
    · simp [Value.ownBlock] at h; omega
    · simp [Value.ownBlock] at h; omega
  have gB : w.heap.size ≤ g := by have := B2.out.size; omega
  have X3 : Below w2.heap.size w2 w3 := ((Below.refl _ _).alloc (Nat.le_refl _) _).grown hg (by simp) (fun k hk => by simp [Value.ownBlock] at hk; omega)
  have D3 := Lib.hid (D2.out.below X3)
  have V3 := Lib.hid (V2.out.grow X3)
  have B3 := Lib.hid (B2.out.trans (X3.mono B2.out.size))
  have S3 := X3.size
  have F2 : From w.heap.size (fun k => w1.heap.size ≤ k ∧ k < w2.heap.size) := fun k hk => by have := B1.out.size; omega
  have F2' := Lib.hid F2
  have OO := Lib.hid hO.bv
  have oc0 := ocell 0 (by omega)
  have of0 := ofree 0
  clear e hat hg X3 F2 hO ocell ofree O2' D2 V2 B2 V1
  go_wp2_with fail
  refine (write_any D3.out 0 _ l OO.out (by simp [DSt.new])).mono ?_
  rintro e w4 ⟨rfl, st4, hD4⟩
  rw [one_write] at hD4 ⊢
  simp only at hD4 ⊢
  have nF : ¬ Plus (fun k => w1.heap.size ≤ k ∧ k < w2.heap.size) w3 w4 g := by
    rintro (h | h) <;> omega
  have oc4 := (World.cell?_of_block (w := w3) (a := ⟨g, 0, none⟩) (st4.keep g og (fun h => by omega))).trans oc0
  have of4 := (World.frozen?_of_block (w := w3) (a := ⟨g, 0, none⟩) (st4.keep g og (fun h => by omega))).trans of0
  have B4 := Lib.hid (B3.out.trans (st4.below F2'.out B3.out.size))
  have V4 := Lib.hid (V3.out.same (F := fun k => k < w.heap.size) (w' := w4) (fun k hk => st4.keep k (Nat.lt_of_lt_of_le hk B3.out.size) (fun h => by have := F2'.out k h; omega)))
  have S4 := st4.size
  have D4 := Lib.hid hD4
  have F4 := Lib.hid (Plus.froms (w' := w4) F2'.out B3.out.size)
  have nF' := Lib.hid nF
  clear st4 hD4 oc0 of0 nF
  generalize Plus (fun k => w1.heap.size ≤ k ∧ k < w2.heap.size) w3 w4 = F4s at *
  go_wp2_with fail
  have D5 := Lib.hid (D4.out.store nF'.out 0 (.int .u8 (((l[0].toNat : Int) + 1) % 256)))
  have B5 := Lib.hid (B4.out.setCell (p := ⟨g, 0, none⟩) gB (.int .u8 (((l[0].toNat : Int) + 1) % 256)))
  have V5 := Lib.hid (V4.out.same (w' := w4.setCell ⟨g, 0, none⟩ (.int .u8 (((l[0].toNat : Int) + 1) % 256))) (fun k hk => Below.heap_setCell _ _ _ _ (Nat.ne_of_lt (Nat.lt_of_lt_of_le hk gB))))
  clear D4 B4 V4 oc4 of4 gB
  generalize w4.setCell ⟨g, 0, none⟩ (.int .u8 (((l[0].toNat : Int) + 1) % 256)) = w5 at *
  refine (read_any D5.out 0).mono ?_
  rintro e w6 ⟨rv, rfl, hb6, hv6⟩
  rw [one_read] at hv6 ⊢
  simp only at hv6 ⊢
  rcases hv6 with ⟨_, h0⟩ | ⟨k6, rfl, hk6, hkb6, hkl6⟩
  · rw [h0] at h1; simp at h1
  have D6 := Lib.hid (D5.out.below hb6)
  have B6 := Lib.hid (B5.out.trans (hb6.mono B5.out.size))
  have V6 := Lib.hid (V5.out.grow hb6)
  have N6 : ¬ F4s k6 := fun h => by have := D5.out.inn k6 h; omega
  have K6 := Lib.hid (BV.whole hkb6 (by omega))
  have kc6 := hkb6.cell (By_get l 0 (by omega))
  have kf6 := hkb6.free 0
  have kl6 := hkb6.lt
  have k6B : w.heap.size ≤ k6 := by have := B5.out.size; omega
  clear hb6 hkb6 D5 B5 V5
  go_wp2_with fail
  refine (same_any K6.out V6.out).mono ?_
  rintro e w' ⟨rfl, rfl⟩
  have el : (l == l) = true := by simp
  rw [el]
  clear el
  have D7 := Lib.hid (D6.out.store N6 0 (.int .u8 (((l[0].toNat : Int) + 1) % 256)))
  have B7 := Lib.hid (B6.out.setCell (p := ⟨k6, 0, none⟩) k6B (.int .u8 (((l[0].toNat : Int) + 1) % 256)))
  have V7 := Lib.hid (V6.out.same (w' := w6.setCell ⟨k6, 0, none⟩ (.int .u8 (((l[0].toNat : Int) + 1) % 256))) (fun k hk => Below.heap_setCell _ _ _ _ (Nat.ne_of_lt (Nat.lt_of_lt_of_le hk k6B))))
  have N6' := Lib.hid N6; clear N6
  clear D6 B6 V6 K6
  go_wp2_with fail
  clear kc6 kf6
  generalize w6.setCell ⟨k6, 0, none⟩ (.int .u8 (((l[0].toNat : Int) + 1) % 256)) = w7 at *
  refine (sync_any D7.out (by simp)).mono ?_
  rintro e w8 ⟨rfl, st8, hD8⟩
  rw [one_sync] at hD8 ⊢
  simp only at hD8 ⊢
  have B8 := Lib.hid (B7.out.trans (st8.below F4.out B7.out.size))
  have V8 := Lib.hid (V7.out.same (w' := w8) (fun k hk => st8.keep k (Nat.lt_of_lt_of_le hk B7.out.size) (fun h => by have := F4.out k h; have : k < w.heap.size := hk; omega)))
  have D8 := Lib.hid hD8
  clear D7 B7 V7 st8 hD8
  generalize Plus F4s w7 w8 = F8s at *
  go_wp2_with fail
  refine (image_any D8.out).mono ?_
  rintro e w9 ⟨iv, rfl, hb9, hv9⟩
  obtain ⟨ik, vs, rfl, hik, hib, _, hall⟩ := hv9
  obtain ⟨x0, hx0, j0, rfl, hj0, hjb0, _⟩ := hall.get (i := 0) (b := l) rfl
  have c9 := hib.cell hx0
  have lik := hib.lt
  have B9 := Lib.hid (B8.out.trans (hb9.mono B8.out.size))
  have D9 := Lib.hid (D8.out.below hb9)
  have V9 := Lib.hid (V8.out.grow hb9)
  have N9 : ¬ F8s j0 := fun h => by have := D8.out.inn j0 h; omega
  have K9 := Lib.hid (BV.whole hjb0 (by omega))
  have kc9 := hjb0.cell (By_get l 0 (by omega))
  have kf9 := hjb0.free 0
  have kl9 := hjb0.lt
  have j0B : w.heap.size ≤ j0 := by have := B8.out.size; omega
  clear hb9 hall hx0 hib hjb0 D8 B8 V8
  go_wp2_with fail
  refine (same_any K9.out V9.out).mono ?_
  rintro e w' ⟨rfl, rfl⟩
  have el : (l == l) = true := by simp
  rw [el]
  clear el
  have D10 := Lib.hid (D9.out.store N9 0 (.int .u8 (((l[0].toNat : Int) + 1) % 256)))
  have B10 := Lib.hid (B9.out.setCell (p := ⟨j0, 0, none⟩) j0B (.int .u8 (((l[0].toNat : Int) + 1) % 256)))
  have V10 := Lib.hid (V9.out.same (w' := w9.setCell ⟨j0, 0, none⟩ (.int .u8 (((l[0].toNat : Int) + 1) % 256))) (fun k hk => Below.heap_setCell _ _ _ _ (Nat.ne_of_lt (Nat.lt_of_lt_of_le hk j0B))))
  clear D9 B9 V9 K9 N9
  go_wp2_with fail
  generalize w9.setCell ⟨j0, 0, none⟩ (.int .u8 (((l[0].toNat : Int) + 1) % 256)) = w10 at *
  refine (read_any D10.out 0).mono ?_
  rintro e w11 ⟨rv2, rfl, hb11, hv11⟩
  rw [one_read2] at hv11 ⊢
  simp only at hv11 ⊢
  have B11 := Lib.hid (B10.out.trans (hb11.mono B10.out.size))
  have V11 := Lib.hid (V10.out.grow hb11)
  have K11 := Lib.hid hv11.bv
  clear hb11 hv11 D10 B10 V10
  go_wp2_with fail
  refine (same_any K11.out V11.out).mono ?_
  rintro e w' ⟨rfl, rfl⟩
  have el : (l == l) = true := by simp
  rw [el]
  go_wp2_with fail
  go_ret
  exact ⟨rfl, B11.out⟩
end Go.Proofs.Ytibojbbhffoldaa
