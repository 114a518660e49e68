/- A link in memory; contracts of package link. -/
import Derived.Test.YtggiinfeiilogaaDoorFrZ
import Derived.BigQuiet
import Derived.Deep.QuietTactic
namespace Go.Proofs.YtggiinfeiilogaaDoor
open Go.RowKit
theorem Tryd.sizeByte : (Tryd.prog.info? 5).map (·.size) = some 1 := by kernel_rfl
/-- A link of which side 0 sends and side 1 receives. -/
structure Lk where
  sent : List UInt8
  wait : List UInt8
  bud : Nat
  cut : Int
  down : Bool
def LkAt (w : World) (b : Nat) (F : Nat → Prop) (s : Lk) : Prop :=
  F b ∧ Inn F w ∧ ∃ sv wv, OwnB w sv s.sent ∧ OwnB w wv s.wait ∧ (∀ g, sv.ownBlock = some g → F g ∧ g ≠ b ∧ wv.ownBlock ≠ some g) ∧ (∀ g, wv.ownBlock = some g → F g ∧ g ≠ b) ∧
    Blk w b [sv, .slice none 0 0, .slice none 0 0, wv, .int .i64 (s.bud : Int), .int .i64 s.cut, .bool s.down] 76
section
variable {w w' : World} {F G : Nat → Prop} {b : Nat} {s : Lk} {xv : Value} {x : List UInt8}
theorem LkAt.same (h : LkAt w b F s) (hs : Same F w w') (hz : w.heap.size ≤ w'.heap.size) : LkAt w' b F s := by
  obtain ⟨h1, h2, sv, wv, h3, h4, h5, h6, h7⟩ := h
  exact ⟨h1, fun k hk => Nat.lt_of_lt_of_le (h2 k hk) hz, sv, wv, h3.same hs (fun g hg => (h5 g hg).1), h4.same hs (fun g hg => (h6 g hg).1), h5, h6, h7.of_same (hs b h1)⟩
theorem LkAt.grow (h : LkAt w b F s) (hb : Below w.heap.size w w') : LkAt w' b F s := h.same (fun k hk => hb.block k (h.2.1 k hk)) hb.size
theorem LkAt.drewN (h : LkAt w b F s) (n : Nat) : LkAt (w.drewN n) b F s := h.same (fun _ _ => rfl) (Nat.le_refl _)
theorem isside_any (w : World) (k : Int) (hk : k = 0 ∨ k = 1) : Calls Tryd.prog 47 #[.int .i64 k] w fun e w' => e = .returned (.bool true) ∧ w = w' := by
  rcases hk with rfl | rfl
  · go_enter Tryd.func47, Tryd.ntmps47
    go_wp2_with fail
    go_ret
    exact ⟨rfl, rfl⟩
  · go_enter Tryd.func47, Tryd.ntmps47
    go_wp2_with fail
    go_ret
    exact ⟨rfl, rfl⟩
set_option maxHeartbeats 1000000 in
theorem newlink_any (w : World) (n : Nat) (c : Int) (hn : n ≤ 1048576) : Calls Tryd.prog 16 #[.int .i64 (n : Int), .int .i64 c] w fun e w' => e = .returned (.tuple #[.pointer (some ⟨w.heap.size, 0, none⟩), .int .i64 0]) ∧ Below w.heap.size w w' ∧ LkAt w' w.heap.size (fun k => w.heap.size ≤ k ∧ k < w'.heap.size) ⟨[], [], n, c, false⟩ := by
  have i1 : (n : Int) ≤ 1073741824 := by omega
  have i0 : (0 : Int) ≤ (n : Int) := by omega
  go_enter Tryd.func16, Tryd.ntmps16
  go_wp2_with fail
  go_ret2
  refine ⟨rfl, (Below.refl _ _).alloc (Nat.le_refl _) _, ⟨Nat.le_refl _, by simp⟩, fun k hk => hk.2, .slice none 0 0, .slice none 0 0, OwnB.nil _, OwnB.nil _, (fun g e => by cases e), (fun g e => by cases e), ?_⟩
  exact Blk.new w [.slice none 0 0, .slice none 0 0, .slice none 0 0, .slice none 0 0, .int .i64 (n : Int), .int .i64 c, .bool false] _
set_option maxHeartbeats 1000000 in
theorem total_any (h : LkAt w b F s) (hl : s.sent.length ≤ 1000000000) : Calls Tryd.prog 48 #[.pointer (some ⟨b, 0, none⟩)] w fun e w' => e = .returned (.int .i64 (s.sent.length : Int)) ∧ ∃ n, w' = w.drewN n := by
  obtain ⟨hF, hI, sv, wv, hsv, _, _, _, hb⟩ := h
  obtain ⟨a, c, rfl, _⟩ := hsv.bv.get
  have c0 := hb.cell (i := 0) rfl
  have c2 := hb.cell (i := 2) rfl
  have hlt := hb.lt
  have il : (s.sent.length : Int) ≤ 1000000000 := by omega
  clear hF hI hsv hb hl
  go_enter Tryd.func48, Tryd.ntmps48
  go_wp2_with fail
  go_quiet (fail)
  go_wp2_with fail
  go_ret
  exact ⟨rfl, _, rfl⟩
theorem total_q {n : Nat} (h : LkAt w b F s) (hl : s.sent.length ≤ 1000000000) {t : Nat} (ht : s.sent.length = t) : Calls Tryd.prog 48 #[.pointer (some ⟨b, 0, none⟩)] (w.drewN n) fun e w' => e = .returned (.int .i64 (t : Int)) ∧ ∃ m, w' = w.drewN m := by
  subst ht
  exact Calls.quiet_of (total_any (h.drewN n) hl)
set_option maxHeartbeats 1000000 in
theorem left_any (h : LkAt w b F s) (hl : s.sent.length ≤ 1000000000) (hb2 : s.bud ≤ 1048576) : Calls Tryd.prog 25 #[.pointer (some ⟨b, 0, none⟩)] w fun e w' => e = .returned (.int .i64 ((s.bud : Int) - (s.sent.length : Int))) ∧ ∃ n, w' = w.drewN n := by
  have H := Lib.hid h
  obtain ⟨hF, hI, sv, wv, hsv, _, _, _, hb⟩ := h
  have c4 := hb.cell (i := 4) rfl
  have hlt := hb.lt
  obtain ⟨t, ht⟩ : ∃ t, s.sent.length = t := ⟨_, rfl⟩
  have HT := Lib.hid ht
  have HLL := Lib.hid hl
  rw [ht]
  have it : (t : Int) ≤ 1000000000 := by omega
  have i4 : (s.bud : Int) ≤ 1048576 := by omega
  clear hF hI hsv hb hl ht hb2
  go_enter Tryd.func25, Tryd.ntmps25
  go_wp2_with fail
  go_quiet (first | (go_at_call 48; exact total_q H.out HLL.out HT.out))
  go_wp2_with fail
  go_ret
  exact ⟨rfl, _, rfl⟩
theorem left_q {n : Nat} (h : LkAt w b F s) (hl : s.sent.length ≤ 1000000000) (hb2 : s.bud ≤ 1048576) {t : Nat} (ht : s.sent.length = t) : Calls Tryd.prog 25 #[.pointer (some ⟨b, 0, none⟩)] (w.drewN n) fun e w' => e = .returned (.int .i64 ((s.bud : Int) - (t : Int))) ∧ ∃ m, w' = w.drewN m := by
  subst ht
  exact Calls.quiet_of (left_any (h.drewN n) hl hb2)
set_option maxHeartbeats 1000000 in
theorem sent0_any (h : LkAt w b F s) : Calls Tryd.prog 24 #[.pointer (some ⟨b, 0, none⟩), .int .i64 0] w fun e w' => e = .returned (.int .i64 (s.sent.length : Int)) ∧ w = w' := by
  obtain ⟨hF, hI, sv, wv, hsv, _, _, _, hb⟩ := h
  obtain ⟨a, c, rfl, _⟩ := hsv.bv.get
  have c0 := hb.cell (i := 0) rfl
  have hlt := hb.lt
  clear hF hI hsv hb
  go_enter Tryd.func24, Tryd.ntmps24
  go_wp2_with fail
  refine (isside_any w 0 (.inl rfl)).mono ?_
  rintro e w' ⟨rfl, rfl⟩
  go_wp2_with fail
  go_ret
  exact ⟨rfl, rfl⟩
set_option maxHeartbeats 1000000 in
theorem sent1_any (h : LkAt w b F s) : Calls Tryd.prog 24 #[.pointer (some ⟨b, 0, none⟩), .int .i64 1] w fun e w' => e = .returned (.int .i64 0) ∧ w = w' := by
  obtain ⟨hF, hI, sv, wv, hsv, _, _, _, hb⟩ := h
  have c2 := hb.cell (i := 2) rfl
  have hlt := hb.lt
  clear hF hI hsv hb
  go_enter Tryd.func24, Tryd.ntmps24
  go_wp2_with fail
  refine (isside_any w 1 (.inr rfl)).mono ?_
  rintro e w' ⟨rfl, rfl⟩
  go_wp2_with fail
  go_ret
  exact ⟨rfl, rfl⟩
set_option maxRecDepth 100000 in
set_option maxHeartbeats 1000000 in
theorem receive_any (h : LkAt w b F s) (hl : s.wait.length ≤ 1000000000) : Calls Tryd.prog 20 #[.pointer (some ⟨b, 0, none⟩), .int .i64 1] w fun e w' => ∃ rv, e = .returned (.tuple #[rv, .int .i64 0]) ∧ Stp F w w' ∧ LkAt w' b F { s with wait := [] } ∧ BV w' (fun k => w.heap.size ≤ k ∧ k < w'.heap.size) rv s.wait := by
  obtain ⟨hF, hI, sv, wv, hsv, hwv, hs5, hs6, hb⟩ := h
  obtain ⟨a, c, rfl, hc1, hc2, _⟩ := hwv.bv.get
  have c3 := hb.cell (i := 3) rfl
  have hlt := hb.lt
  obtain ⟨n, hn⟩ : ∃ n, s.wait.length = n := ⟨_, rfl⟩
  have HN := Lib.hid hn
  have i1 : (n : Int) ≤ 1000000000 := by omega
  have hl' : n ≤ 1000000000 := by omega
  rw [hn] at c3 hwv hc1 hs5 hs6 hb
  have HB := Lib.hid hb
  have HSV := Lib.hid hsv
  have HWV := Lib.hid hwv
  have HI := Lib.hid hI
  have HF := Lib.hid hF
  have HS5 := Lib.hid hs5
  have g1 : w.heap.size ≠ b := by omega
  have g2 : b ≠ w.heap.size := by omega
  have N0 : Hid (Blk (w.alloc (.cells (List.replicate n (.int .u8 0)).toArray 5)) w.heap.size (List.replicate n (.int .u8 0)) 5) := Lib.hid (Blk.new w _ _)
  clear hF hI hsv hwv hb hs5 hs6 hn hl hc1 hc2
  go_enter Tryd.func20, Tryd.ntmps20
  go_wp2_with fail
  refine (isside_any w 1 (.inr rfl)).mono ?_
  rintro e w' ⟨rfl, rfl⟩
  have HW1 := Lib.hid (HWV.out.bv.mono (G := fun k => k < w.heap.size) (fun k hk => HWV.out.lt k hk))
  obtain ⟨l, hll⟩ : ∃ l, s.wait = l := ⟨_, rfl⟩
  have HLL := Lib.hid hll
  rw [hll] at HW1 HN
  have HLN : Hid (l.length = n) := HN
  have e0 : (List.replicate n (Value.int .u8 0)).take 0 ++ (By (l.take n) ++ (List.replicate n (Value.int .u8 0)).drop (0 + min l.length n)) = By l := by
    rw [HLN.out, List.take_zero, List.nil_append, Nat.min_self, Nat.zero_add, List.drop_of_length_le (by rw [List.length_replicate]; omega), List.append_nil, List.take_of_length_le (by rw [HLN.out]; omega)]
  have E0 := Lib.hid e0
  have HC3 : Hid (Blk (w.alloc (.cells (By l).toArray 5)) b [sv, .slice none 0 0, .slice none 0 0, .slice a n c, .int .i64 (s.bud : Int), .int .i64 s.cut, .bool s.down] 76) := Lib.hid (HB.out.alloc _)
  have d3 := HC3.out.cell (i := 3) rfl
  have f3 := HC3.out.free 3
  have N1 : Hid (Blk (w.alloc (.cells (By l).toArray 5)) w.heap.size (By l) 5) := Lib.hid (Blk.new w _ _)
  clear hll e0
  go_wp2_with (first | at_make; refine wpList_make_n rfl _ _ _ rfl 5 (.int .u8 0) 1 n n Tryd.underlying30 Tryd.infoB rfl rfl rfl (Nat.le_refl _) (by omega) (by unfold maxLen; omega) ?_ | (refine wpList_copy_bytes rfl (.tmp 22) (.tmp 26) _ _ rfl 5 Tryd.underlying30 Tryd.sizeByte w.heap.size 0 n n (by rfl) _ (.slice a n c) (by rfl) l (HW1.out.alloc _) (List.replicate n (.int .u8 0)) 5 N0.out (by rw [HLN.out, List.length_replicate]; omega) ?_; rw [E0.out, setRow_alloc]))
  have hcm : (w.alloc (.cells (By l).toArray 5)).setCell ⟨b, 3, none⟩ (.slice none 0 0) = (w.setCell ⟨b, 3, none⟩ (.slice none 0 0)).alloc (.cells (By l).toArray 5) := World.setCell_alloc_past _ b 3 _ hlt
  have S1 : Stp F w ((w.alloc (.cells (By l).toArray 5)).setCell ⟨b, 3, none⟩ (.slice none 0 0)) := ((Stp.refl _ _).alloc _).set (.inl (.inl HF.out)) _
  have K3 := HC3.out.set 3 (.slice none 0 0)
  have N3 := N1.out.set_ne (a := ⟨b, 3, none⟩) g1 (.slice none 0 0)
  have hsz : ((w.alloc (.cells (By l).toArray 5)).setCell ⟨b, 3, none⟩ (.slice none 0 0)).heap.size = w.heap.size + 1 := by simp
  have O3 : OwnB ((w.alloc (.cells (By l).toArray 5)).setCell ⟨b, 3, none⟩ (.slice none 0 0)) sv s.sent := by
    refine HSV.out.same (F := fun k => sv.ownBlock = some k) (fun k hk => ?_) (fun k hk => hk)
    have := HS5.out k hk
    have e := heap_setCell_other (w.alloc (.cells (By l).toArray 5)) ⟨b, 3, none⟩ k (.slice none 0 0) this.2.1
    rw [e]
    exact Below.heap_alloc w _ k (HSV.out.lt k hk)
  rw [hcm] at S1 K3 N3 hsz O3
  go_ret2
  refine ⟨_, rfl, S1, ⟨HF.out, S1.inn HI.out, sv, .slice none 0 0, O3, OwnB.nil _, fun g hg => ⟨(HS5.out g hg).1, (HS5.out g hg).2.1, fun e => by cases e⟩, (fun g e => by cases e), K3⟩, ?_⟩
  have h := BV.of_blk (l := l) (c := n) N3 (by rw [List.take_of_length_le (by rw [By_length]; omega)]) (by rw [HLN.out]; omega) (by unfold maxLen; omega)
  rw [HLN.out] at h
  rw [HLL.out]
  exact h.mono (fun k hk => by subst hk; exact ⟨Nat.le_refl _, by rw [hsz]; omega⟩)
end
end Go.Proofs.YtggiinfeiilogaaDoor
