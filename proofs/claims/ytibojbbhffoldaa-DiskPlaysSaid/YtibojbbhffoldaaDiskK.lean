/- The examples of the chapter: 'awake' returns true. -/
import Derived.Test.YtibojbbhffoldaaDiskT
import Derived.Test.YtibojbbhffoldaaDiskC
import Derived.Test.YtibojbbhffoldaaDiskI
namespace Go.Proofs.Ytibojbbhffoldaa
open Go.RowKit Go.Maps
/-- A disk whose blocks lie from B on. -/
def DiskIn (B : Nat) (w : World) (s : DSt) (b : Nat) : Prop := ∃ F, DiskAt w s b F ∧ From B F
theorem DiskIn.of_new {w w' : World} {s : DSt} {b : Nat} (h : DiskAt w' s b (fun k => w.heap.size ≤ k ∧ k < w'.heap.size)) {B : Nat} (hB : B ≤ w.heap.size) : DiskIn B w' s b := ⟨_, h, fun k hk => by have := hk.1; omega⟩
theorem DiskIn.below {B : Nat} {w w' : World} {s : DSt} {b : Nat} (h : DiskIn B w s b) (hb : Below w.heap.size w w') : DiskIn B w' s b := by
  obtain ⟨F, h, hF⟩ := h; exact ⟨F, h.below hb, hF⟩
/-- What an operation leaves, in the words of what lies from B on. -/
def DiskQ (B : Nat) (w : World) (b : Nat) (s' : DSt) (v : Value) (e : Ending) (w' : World) : Prop := e = .returned v ∧ Below B w w' ∧ DiskIn B w' s' b
theorem DiskP.q {B : Nat} {w : World} {b : Nat} {F : Nat → Prop} {s' : DSt} {v : Value} {e : Ending} {w' : World} (h : DiskP w b F s' v e w') (hF : From B F) (hB : B ≤ w.heap.size) : DiskQ B w b s' v e w' :=
  ⟨h.1, h.2.1.below hF hB, _, h.2.2, Plus.froms hF hB⟩
section
variable {B : Nat} {w : World} {s : DSt} {b : Nat} {G : Nat → Prop}
theorem DiskIn.write (h : DiskIn B w s b) (hB : B ≤ w.heap.size) (k : Int) (dv : Value) (l : List UInt8) (hv : BV w G dv l) (hp : s.pend.length < 1000000) :
    Calls Try.prog 13 #[.pointer (some ⟨b, 0, none⟩), .int .i64 k, dv] w (DiskQ B w b (s.write k l).2 (.int .i64 (s.write k l).1)) := by
  obtain ⟨F, h, hF⟩ := h; exact (write_any h k dv l hv hp).mono fun _ _ q => q.q hF hB
theorem DiskIn.read (h : DiskIn B w s b) (k : Int) : Calls Try.prog 14 #[.pointer (some ⟨b, 0, none⟩), .int .i64 k] w (ReadP w (s.read k)) := by
  obtain ⟨F, h, hF⟩ := h; exact read_any h k
theorem DiskIn.sync (h : DiskIn B w s b) (hB : B ≤ w.heap.size) (hp : s.pend.length < 1000000) :
    Calls Try.prog 16 #[.pointer (some ⟨b, 0, none⟩)] w (DiskQ B w b s.sync.2 (.int .i64 s.sync.1)) := by
  obtain ⟨F, h, hF⟩ := h; exact (sync_any h hp).mono fun _ _ q => q.q hF hB
theorem DiskIn.fail (h : DiskIn B w s b) (hB : B ≤ w.heap.size) (n : Int) (hn : n ≤ 9223372036854775807) :
    Calls Try.prog 30 #[.pointer (some ⟨b, 0, none⟩), .int .i64 n] w (DiskQ B w b (s.fail n) (.tuple #[])) := by
  obtain ⟨F, h, hF⟩ := h; exact (fail_any h n hn).mono fun _ _ q => q.q hF hB
theorem DiskIn.crash (h : DiskIn B w s b) (hB : B ≤ w.heap.size) (hp : s.pend.length < 1000000) (kv : Value) (keep : List Bool) (hk : BoolsV w (· < B) kv keep) (tn : Int) :
    Calls Try.prog 27 #[.pointer (some ⟨b, 0, none⟩), kv, .int .i64 tn] w (DiskQ B w b (s.crash keep tn) (.tuple #[])) := by
  obtain ⟨F, ⟨bd, bm, dvs, pv, pvs, D, h⟩, hF⟩ := h; exact (crash_loop h hp kv keep hk (fun k hk hf => by have := hF k hf; omega) tn).mono fun _ _ q => q.q hF hB
theorem DiskIn.spoil (h : DiskIn B w s b) (hB : B ≤ w.heap.size) (k o : Int) (x : UInt8) :
    Calls Try.prog 28 #[.pointer (some ⟨b, 0, none⟩), .int .i64 k, .int .i64 o, .int .u8 (x.toNat : Int)] w (DiskQ B w b (s.spoil k o x).2 (.int .i64 (s.spoil k o x).1)) := by
  obtain ⟨F, h, hF⟩ := h; exact (spoil_any h k o x).mono fun _ _ q => q.q hF hB
theorem DiskIn.image (h : DiskIn B w s b) : Calls Try.prog 17 #[.pointer (some ⟨b, 0, none⟩)] w (ImageP w s.dur) := by
  obtain ⟨F, h, hF⟩ := h; exact image_any h
theorem DiskIn.pending (h : DiskIn B w s b) : Calls Try.prog 22 #[.pointer (some ⟨b, 0, none⟩)] w fun e w' => e = .returned (.int .i64 (s.pend.length : Int)) ∧ w = w' := by
  obtain ⟨F, h, hF⟩ := h; exact pending_any h
theorem DiskIn.isDown (h : DiskIn B w s b) : Calls Try.prog 21 #[.pointer (some ⟨b, 0, none⟩)] w fun e w' => e = .returned (.bool s.down) ∧ w = w' := by
  obtain ⟨F, h, hF⟩ := h; exact down_any h
theorem DiskIn.ok (h : DiskIn B w s b) : s.Ok := by obtain ⟨F, h, hF⟩ := h; exact h.ok
end
theorem BoolsV.empty (w : World) (F : Nat → Prop) : BoolsV w F (.slice none 0 0) [] := ⟨none, 0, rfl, by simp, by unfold maxLen; omega, fun _ => rfl, fun h => absurd h (by simp)⟩
theorem NewV.bv {w w' : World} {v : Value} {l : List UInt8} (h : NewV w w' v l) : BV w' (fun k => w.heap.size ≤ k) v l := by
  rcases h with ⟨rfl, rfl⟩ | ⟨k, rfl, hk, hb, hl⟩
  · exact BV.nil _ _
  · exact (BV.of_blk hb (by rw [List.take_of_length_le (by simp)]) (Nat.le_refl _) (by unfold maxLen; omega)).mono (fun _ e => e ▸ hk)

theorem BV.whole {w : World} {k : Nat} {l : List UInt8} {T : TypeId} (h : Blk w k (By l) T) (hl : l.length ≤ 1000000) : BV w (· = k) (.slice (some ⟨k, 0, none⟩) l.length l.length) l :=
  BV.of_blk h (by rw [List.take_of_length_le (by simp)]) (Nat.le_refl _) (by unfold maxLen; omega)
set_option maxRecDepth 100000 in
set_option maxHeartbeats 2000000 in
theorem awake_any (w : World) : Calls Try.prog 11 #[] w fun e w' => e = .returned (.bool true) ∧ Below w.heap.size w w' := by
  have kc := fun (w : World) (C : Array Value) (n c : Nat) => Lib.run_convert_bytes_const (P := Try.prog) w 22 5 C n c Try.underlying22 Try.underlying5
  have abc : By [97, 98, 99] = [.int .u8 97, .int .u8 98, .int .u8 99] := rfl
  go_enter Try.func11, Try.ntmps11
  go_wp2_with fail
  refine (new_yes 2 3 w (by omega) (by omega) (by omega) (by omega)).mono ?_
  rintro e w1 ⟨b, rfl, hb1, hD1⟩
  have B1 := Lib.hid hb1; clear hb1
  have D1 := Lib.hid (DiskIn.of_new hD1 (Nat.le_refl _)); clear hD1
  go_wp2_with fail
  have Y0 : BV ((w1).alloc (.cells #[.int .u8 97, .int .u8 98, .int .u8 99] 5 (3, 4))) (· = w1.heap.size) (.slice (some ⟨w1.heap.size, 0, none⟩) 3 3) [97, 98, 99] := by
    have := BV.made (w1) [97, 98, 99] 5 (3, 4) (by unfold maxLen; simp)
    (try simp only [World.size_alloc] at this)
    exact this
  refine ((D1.out.below ((Below.refl _ _).alloc (Nat.le_refl _) _)).write (by have := B1.out.size; simp; omega) 0 _ [97, 98, 99] Y0 (by simp [DSt.new])).mono ?_
  clear Y0
  rintro e w2 ⟨rfl, hb2, hD2⟩
  have B2 := Lib.hid ((B1.out.alloc B1.out.size _).trans hb2); clear hb2
  have D2 := Lib.hid hD2; clear hD2
  have e1 : ((DSt.new 2 3).write 0 [97, 98, 99]).1 = 0 := by rfl
  rw [e1]
  obtain ⟨s1, hs1⟩ : ∃ s1, ((DSt.new 2 3).write 0 [97, 98, 99]).2 = s1 := ⟨_, rfl⟩
  rw [hs1] at D2
  have Hs1 := Lib.hid hs1; clear hs1 e1
  go_wp2_with fail
  refine (D2.out.read 0).mono ?_
  rintro e w3 ⟨rv, rfl, hb3, hv3⟩
  have e2 : s1.read 0 = (0, [97, 98, 99]) := by rw [← Hs1.out]; rfl
  rw [e2] at hv3 ⊢
  have B3 := Lib.hid (B2.out.trans (hb3.mono B2.out.size))
  have D3 := Lib.hid (D2.out.below hb3); clear hb3
  have V3 := Lib.hid hv3.bv; clear hv3 e2
  go_wp2_with fail
  refine (D3.out.image).mono ?_
  rintro e w4 ⟨iv, rfl, hb4, hv4⟩
  have e3 : s1.dur = [[0, 0, 0], [0, 0, 0]] := by rw [← Hs1.out]; rfl
  rw [e3] at hv4
  obtain ⟨ik, vs, rfl, hik, hib, _, hall⟩ := hv4
  obtain ⟨x0, hx0, j0, rfl, hj0, hjb0, _⟩ := hall.get (i := 0) (b := [0, 0, 0]) rfl
  have c0 := hib.cell hx0
  have B4 := Lib.hid (B3.out.trans (hb4.mono B3.out.size))
  have D4 := Lib.hid (D3.out.below hb4)
  have V4 := Lib.hid (V3.out.grow hb4)
  have V5 := Lib.hid (BV.whole hjb0 (by simp))
  have l4 := hib.lt
  clear hb4 hall hx0 hib hjb0 e3
  go_wp2_with fail
  have Y1 : BV ((w4).alloc (.cells #[.int .u8 97, .int .u8 98, .int .u8 99] 5 (3, 4))) (· = w4.heap.size) (.slice (some ⟨w4.heap.size, 0, none⟩) 3 3) [97, 98, 99] := by
    have := BV.made (w4) [97, 98, 99] 5 (3, 4) (by unfold maxLen; simp)
    (try simp only [World.size_alloc] at this)
    exact this
  refine (same_any (V4.out.alloc _) Y1).mono ?_
  clear Y1
  rintro e w' ⟨rfl, rfl⟩
  have e4 : ([97, 98, 99] == ([97, 98, 99] : List UInt8)) = true := by rfl
  rw [e4]
  go_wp2_with fail
  have Y2 : BV ((w4.alloc (.cells #[.int .u8 97, .int .u8 98, .int .u8 99] 5 (3, 4))).alloc (.cells #[.int .u8 0, .int .u8 0, .int .u8 0] 5)) (· = w4.heap.size + 1) (.slice (some ⟨w4.heap.size + 1, 0, none⟩) 3 3) [0, 0, 0] := by
    have := BV.made (w4.alloc (.cells #[.int .u8 97, .int .u8 98, .int .u8 99] 5 (3, 4))) [0, 0, 0] 5 (0, 0) (by unfold maxLen; simp)
    (try simp only [World.size_alloc] at this)
    exact this
  refine (same_any ((V5.out.alloc _).alloc _) Y2).mono ?_
  clear Y2
  rintro e w' ⟨rfl, rfl⟩
  have e5 : ([0, 0, 0] == ([0, 0, 0] : List UInt8)) = true := by rfl
  rw [e5]
  have X5 := ((Below.refl w4.heap.size w4).alloc (Nat.le_refl _) (.cells #[.int .u8 97, .int .u8 98, .int .u8 99] 5 (3, 4))).alloc (by simp) (.cells #[.int .u8 0, .int .u8 0, .int .u8 0] 5)
  have B5 := Lib.hid (B4.out.trans (X5.mono B4.out.size))
  have D5 := Lib.hid (D4.out.below X5)
  clear X5 e4 e5 c0
  generalize (w4.alloc (.cells #[.int .u8 97, .int .u8 98, .int .u8 99] 5 (3, 4))).alloc (.cells #[.int .u8 0, .int .u8 0, .int .u8 0] 5) = w5 at *
  go_wp2_with fail
  refine (D5.out.pending).mono ?_
  rintro e w' ⟨rfl, rfl⟩
  have e6 : s1.pend.length = 1 := by rw [← Hs1.out]; rfl
  rw [e6]
  go_wp2_with fail
  refine (D5.out.crash B5.out.size (by omega) _ [] (BoolsV.empty _ _) 2).mono ?_
  clear e6
  rintro e w6 ⟨rfl, hb6, hD6⟩
  have B6 := Lib.hid (B5.out.trans hb6); clear hb6
  have D6 := Lib.hid hD6; clear hD6
  obtain ⟨s2, hs2⟩ : ∃ s2, s1.crash [] 2 = s2 := ⟨_, rfl⟩
  rw [hs2] at D6
  have Hs2 := Lib.hid hs2; clear hs2
  go_wp2_with fail
  refine (D6.out.image).mono ?_
  rintro e w7 ⟨iv, rfl, hb7, hv7⟩
  have e7 : s2.dur = [[97, 98, 0], [0, 0, 0]] := by rw [← Hs2.out, ← Hs1.out]; rfl
  rw [e7] at hv7
  obtain ⟨ik2, vs2, rfl, hik2, hib2, _, hall2⟩ := hv7
  obtain ⟨x2, hx2, j2, rfl, hj2, hjb2, _⟩ := hall2.get (i := 0) (b := [97, 98, 0]) rfl
  have c2 := hib2.cell hx2
  have B7 := Lib.hid (B6.out.trans (hb7.mono B6.out.size))
  have D7 := Lib.hid (D6.out.below hb7)
  have V7 := Lib.hid (BV.whole hjb2 (by simp))
  have l7 := hib2.lt
  clear hb7 hall2 hx2 hib2 hjb2 e7
  go_wp2_with fail
  have Y3 : BV ((w7).alloc (.cells #[.int .u8 97, .int .u8 98, .int .u8 0] 5)) (· = w7.heap.size) (.slice (some ⟨w7.heap.size, 0, none⟩) 3 3) [97, 98, 0] := by
    have := BV.made (w7) [97, 98, 0] 5 (0, 0) (by unfold maxLen; simp)
    (try simp only [World.size_alloc] at this)
    exact this
  refine (same_any (V7.out.alloc _) Y3).mono ?_
  clear Y3
  rintro e w' ⟨rfl, rfl⟩
  have e8 : ([97, 98, 0] == ([97, 98, 0] : List UInt8)) = true := by rfl
  rw [e8]
  have X8 := (Below.refl w7.heap.size w7).alloc (Nat.le_refl _) (.cells #[.int .u8 97, .int .u8 98, .int .u8 0] 5)
  have B8 := Lib.hid (B7.out.trans (X8.mono B7.out.size))
  have D8 := Lib.hid (D7.out.below X8)
  clear X8 e8 c2
  generalize w7.alloc (.cells #[.int .u8 97, .int .u8 98, .int .u8 0] 5) = w8 at *
  go_wp2_with fail
  refine (D8.out.pending).mono ?_
  rintro e w' ⟨rfl, rfl⟩
  have e9 : s2.pend.length = 0 := by rw [← Hs2.out, ← Hs1.out]; rfl
  rw [e9]
  go_wp2_with fail
  refine (D8.out.sync B8.out.size (by omega)).mono ?_
  clear e9
  rintro e w9 ⟨rfl, hb9, _⟩
  have e10 : s2.sync.1 = 0 := by rw [← Hs2.out, ← Hs1.out]; rfl
  rw [e10]
  have B9 := Lib.hid (B8.out.trans hb9); clear hb9
  go_wp2_with fail
  go_ret
  exact ⟨rfl, B9.out⟩
end Go.Proofs.Ytibojbbhffoldaa
