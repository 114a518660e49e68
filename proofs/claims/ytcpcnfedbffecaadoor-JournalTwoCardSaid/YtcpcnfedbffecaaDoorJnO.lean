/- Contract of the journal's Open over a disk whose halves hold batches of epochs 0 and 1. -/
import Derived.Test.YtcpcnfedbffecaaDoorJnK
namespace Go.Proofs.YtcpcnfedbffecaaDoor
open Go.RowKit Go.Maps
set_option linter.unusedSimpArgs false
theorem RecsV.off {w : World} {F : Nat → Prop} {rv : Value} {l : List (List UInt8)} {b : Nat} {L : List Value} {T : TypeId} (h : RecsV w F rv l) (hB : Blk w b L T) (t1 : T ≠ 39) (t2 : T ≠ 5) : RecsV w (fun k => F k ∧ k ≠ b) rv l := by
  obtain ⟨rvs, h1, h2, h3⟩ := h
  refine ⟨rvs, h1, h2.mono (fun v x r => ⟨r.1, fun g hg => ⟨r.2 g hg, fun e => ?_⟩⟩), fun g hg => ⟨h3 g hg, fun e => ?_⟩⟩
  · subst e
    obtain ⟨cur, hb'⟩ := r.blk hg
    exact t2 (hB.inj hb').2
  · subst e
    obtain ⟨cur, hb'⟩ := ownsRow_blk h1 hg
    exact t1 (hB.inj hb').2
theorem JAt.of_even {w : World} {t : JSt} {b bd : Nat} {F : Nat → Prop} {rv : Value} (h : t.epoch % 2 = 0) (hI : Inn F w) (hF : F b) (hB : Blk w b [.pointer (some ⟨bd, 0, none⟩), .int .i64 (t.room : Int), .int .i64 (t.f0 : Int), .int .i64 (t.epoch : Int), .int .i64 (t.used : Int), rv, Str t.last, .int .i64 (t.f1 : Int), .int .i64 0, .int .i64 0, .slice none 0 0, Str z32, .int .i64 (t.epoch : Int), .bool false] 57) (hR : RecsV w F rv t.recs) : JAt w t b bd F :=
  ⟨hI, hF, by decide, by decide, rv, by rw [JSt.even h]; exact hB, hR⟩
theorem JAt.of_odd {w : World} {t : JSt} {b bd : Nat} {F : Nat → Prop} {rv : Value} (h : t.epoch % 2 = 1) (hI : Inn F w) (hF : F b) (hB : Blk w b [.pointer (some ⟨bd, 0, none⟩), .int .i64 (t.room : Int), .int .i64 (t.f0 : Int), .int .i64 0, .int .i64 0, .slice none 0 0, Str z32, .int .i64 (t.f1 : Int), .int .i64 (t.epoch : Int), .int .i64 (t.used : Int), rv, Str t.last, .int .i64 (t.epoch : Int), .bool false] 57) (hR : RecsV w F rv t.recs) : JAt w t b bd F :=
  ⟨hI, hF, by decide, by decide, rv, by rw [JSt.odd h]; exact hB, hR⟩
theorem set5_cell1 (w : World) (b o : Nat) (a0 a1 a2 a3 a4 : Value) (ho : 2 ≤ o) : (((((w.setCell ⟨b, o, none⟩ a0).setCell ⟨b, o + 1, none⟩ a1).setCell ⟨b, o + 2, none⟩ a2).setCell ⟨b, o + 3, none⟩ a3).setCell ⟨b, o + 4, none⟩ a4).cell? ⟨b, 1, none⟩ = w.cell? ⟨b, 1, none⟩ := by
  rw [cell_set_off _ _ _ _ _ (by omega), cell_set_off _ _ _ _ _ (by omega), cell_set_off _ _ _ _ _ (by omega), cell_set_off _ _ _ _ _ (by omega), cell_set_off _ _ _ _ _ (by omega)]
def openSt (first n : Nat) (bs0 bs1 : List (List (List UInt8))) : JSt :=
  if bs1 = [] then { f0 := first, f1 := first + n / 2, room := n / 2, epoch := 0, used := bs0.length, recs := bs0.flatten, last := Jn.lastOf 0 z32 bs0 }
  else { f0 := first, f1 := first + n / 2, room := n / 2, epoch := 1, used := bs1.length, recs := bs1.flatten, last := Jn.lastOf 1 z32 bs1 }
def OpenP (w : World) (t : JSt) (bd : Nat) (e : Ending) (w' : World) : Prop :=
  ∃ b, e = .returned (.tuple #[.pointer (some ⟨b, 0, none⟩), .int .i64 0]) ∧ Below w.heap.size w w' ∧ JAt w' t b bd (fun k => w.heap.size ≤ k ∧ k < w'.heap.size)
set_option maxRecDepth 100000 in
theorem current_at0 {w : World} {b : Nat} (c : w.cell? ⟨b, 12, none⟩ = some (.int .i64 0)) : Calls Tryd.prog 27 #[.pointer (some ⟨b, 0, none⟩)] w fun e w' => e = .returned (.pointer (some ⟨b, 2, none⟩)) ∧ ∃ k, w' = w.drewN k := by
  have ht' : (0 : Int).tmod 2 = 0 := rfl
  go_enter Tryd.func27, Tryd.ntmps27
  go_wp2_with fail
  go_still_tail 9, (by kernel_rfl)
  go_wp2_with fail
  go_ret
  exact ⟨rfl, 1, rfl⟩
set_option maxRecDepth 100000 in
theorem current_at1 {w : World} {b : Nat} (c : w.cell? ⟨b, 12, none⟩ = some (.int .i64 1)) : Calls Tryd.prog 27 #[.pointer (some ⟨b, 0, none⟩)] w fun e w' => e = .returned (.pointer (some ⟨b, 7, none⟩)) ∧ ∃ k, w' = w.drewN k := by
  have ht' : (1 : Int).tmod 2 = 1 := rfl
  go_enter Tryd.func27, Tryd.ntmps27
  go_wp2_with fail
  go_still_tail 9, (by kernel_rfl)
  go_wp2_with fail
  go_ret
  exact ⟨rfl, 1, rfl⟩
section
variable {w w' : World} {F G FJ FD : Nat → Prop} {s : DSt} {b bd first n : Nat} {bs0 bs1 : List (List (List UInt8))}
set_option maxRecDepth 100000 in
set_option maxHeartbeats 8000000 in
theorem open_any (hD : DiskAt w s bd FD) (hc : s.Calm) (hg : ∀ W, Below w.heap.size w W → Glob W) (hsz : 64 ≤ s.size) (hn : 4 ≤ n) (hfr : first + n ≤ s.dur.length) (h0 : Jn.Chain s.look first (n / 2) s.size 0 bs0) (h1 : Jn.Chain s.look (first + n / 2) (n / 2) s.size 1 bs1) :
    Calls Tryd.prog 9 #[.pointer (some ⟨bd, 0, none⟩), .int .i64 (first : Int), .int .i64 (n : Int)] w (OpenP w (openSt first n bs0 bs1) bd) := by
  have hn2 := hD.ok.n2
  have hs2 := hD.ok.size2
  obtain ⟨room, hroom⟩ : ∃ room, n / 2 = room := ⟨_, rfl⟩
  obtain ⟨f1, hf1⟩ : ∃ f1, first + room = f1 := ⟨_, rfl⟩
  obtain ⟨df, hdf⟩ : ∃ df, s.dur.length - first = df := ⟨_, rfl⟩
  have HEP : Hid (openSt first n bs0 bs1 = if bs1 = [] then { f0 := first, f1 := f1, room := room, epoch := 0, used := bs0.length, recs := bs0.flatten, last := Jn.lastOf 0 z32 bs0 } else { f0 := first, f1 := f1, room := room, epoch := 1, used := bs1.length, recs := bs1.flatten, last := Jn.lastOf 1 z32 bs1 }) := Lib.hid (by unfold openSt; rw [hroom, hf1])
  rw [hroom] at h0 h1
  rw [hf1] at h1
  have q1 : (n : Int).tdiv 2 = (room : Int) := by rw [Int.tdiv_eq_ediv_of_nonneg (by omega)]; omega
  have q2 : (s.dur.length : Int) - (first : Int) = (df : Int) := by omega
  have g1 : ¬ (s.size : Int) < 64 := by omega
  have g2 : ¬ (n : Int) < 4 := by omega
  have g3 : ¬ (df : Int) < (n : Int) := by omega
  have g4 : ¬ (first : Int) < 0 := by omega
  have SZ := Lib.hid (size_any hD)
  have SC := Lib.hid (sectors_any hD)
  have SD := Lib.hid (down_any hD)
  have hdn := hc.on
  have hro : room ≤ 65536 ∧ first ≤ 65536 ∧ f1 ≤ 65536 ∧ first + room ≤ s.dur.length ∧ f1 + room ≤ s.dur.length := by omega
  have HRO := Lib.hid hro
  have HD := Lib.hid hD
  have HC := Lib.hid hc
  have HG := Lib.hid hg
  have HSZ := Lib.hid hsz
  have HC0 := Lib.hid h0
  have HC1 := Lib.hid h1
  have hle0 := h0.le
  have hle1 := h1.le
  obtain ⟨zs, eZ⟩ : ∃ zs : ByteArray, Str z32 = .string zs := ⟨_, rfl⟩
  have HZ := Lib.hid eZ
  have m1 : (first : Int) + (room : Int) = (f1 : Int) := by omega
  have HN2 := Lib.hid (And.intro hn2 hn)
  have wz : IntKind.i64.wrap 0 = 0 := rfl
  have wo : IntKind.i64.wrap 1 = 1 := rfl
  have hfi : first ≤ 65536 ∧ room ≤ 65536 ∧ n ≤ 65536 ∧ s.dur.length ≤ 65536 := by omega
  obtain ⟨hfi1, hfi2, hfi3, hfi4⟩ := hfi
  have wf0 : IntKind.i64.wrap (first : Int) = (first : Int) := by rw [IntKind.wrap_i64]; omega
  have wf1 : IntKind.i64.wrap (f1 : Int) = (f1 : Int) := by rw [IntKind.wrap_i64]; omega
  have wfr : IntKind.i64.wrap (room : Int) = (room : Int) := by rw [IntKind.wrap_i64]; omega
  clear hD hc hg hsz h0 h1 hroom hf1 hdf hfr hs2 hn2 hro hn eZ
  go_enter Tryd.func9, Tryd.ntmps9
  go_wp2_with (first | (go_at_call 23; refine (SZ.out).mono ?_; rintro e w' ⟨rfl, rfl⟩) | (go_at_call 20; refine (SC.out).mono ?_; rintro e w' ⟨rfl, rfl⟩) | (go_at_call 24; refine (SD.out).mono ?_; rintro e w' ⟨rfl, rfl⟩; rw [hdn]))
  have hb1 : Below w.heap.size w (w.alloc (.cells #[.pointer (some ⟨bd, 0, none⟩), .int .i64 (room : Int), .int .i64 0, .int .i64 0, .int .i64 0, .slice none 0 0, .string ⟨#[]⟩, .int .i64 0, .int .i64 0, .int .i64 0, .slice none 0 0, .string ⟨#[]⟩, .int .i64 0, .bool false] 57)) := (Below.refl _ _).alloc (Nat.le_refl _) _
  have hB1 := Blk.new w [.pointer (some ⟨bd, 0, none⟩), .int .i64 (room : Int), .int .i64 0, .int .i64 0, .int .i64 0, .slice none 0 0, .string ⟨#[]⟩, .int .i64 0, .int .i64 0, .int .i64 0, .slice none 0 0, .string ⟨#[]⟩, .int .i64 0, .bool false] 57
  obtain ⟨w1, hw1⟩ : ∃ w1, w.alloc (.cells #[.pointer (some ⟨bd, 0, none⟩), .int .i64 (room : Int), .int .i64 0, .int .i64 0, .int .i64 0, .slice none 0 0, .string ⟨#[]⟩, .int .i64 0, .int .i64 0, .int .i64 0, .slice none 0 0, .string ⟨#[]⟩, .int .i64 0, .bool false] 57) = w1 := ⟨_, rfl⟩
  obtain ⟨b, hbe⟩ : ∃ b, w.heap.size = b := ⟨_, rfl⟩
  have HBE := Lib.hid hbe
  rw [hw1] at hb1 hB1 ⊢
  rw [hbe] at hb1 hB1 ⊢
  obtain ⟨n0, hn0⟩ : ∃ n0, bs0.length = n0 := ⟨_, rfl⟩
  obtain ⟨n1, hn1⟩ : ∃ n1, bs1.length = n1 := ⟨_, rfl⟩
  obtain ⟨rec0, hr0⟩ : ∃ rec0, bs0.flatten = rec0 := ⟨_, rfl⟩
  obtain ⟨rec1, hr1⟩ : ∃ rec1, bs1.flatten = rec1 := ⟨_, rfl⟩
  obtain ⟨l0, hl0⟩ : ∃ l0, Jn.lastOf 0 z32 bs0 = l0 := ⟨_, rfl⟩
  obtain ⟨l1, hl1⟩ : ∃ l1, Jn.lastOf 1 z32 bs1 = l1 := ⟨_, rfl⟩
  obtain ⟨ep, hep⟩ : ∃ ep : Int, (if bs1 = [] then (0 : Int) else 1) = ep := ⟨_, rfl⟩
  have HEPI := Lib.hid hep
  have HNM := Lib.hid (And.intro hn0 (And.intro hn1 (And.intro hr0 (And.intro hr1 (And.intro hl0 hl1)))))
  have HB1 := Lib.hid hB1
  have HBB1 := Lib.hid hb1
  rw [hn0] at hle0
  rw [hn1] at hle1
  clear hw1 hbe hb1 hB1 hn0 hn1 hr0 hr1 hl0 hl1 hep SZ SC SD hdn
  go_loopw [40] (fun i wr => (i = .int .i64 0 ∧ Below b w wr ∧ Blk wr b [.pointer (some ⟨bd, 0, none⟩), .int .i64 (room : Int), .int .i64 0, .int .i64 0, .int .i64 0, .slice none 0 0, .string ⟨#[]⟩, .int .i64 0, .int .i64 0, .int .i64 0, .slice none 0 0, .string ⟨#[]⟩, .int .i64 0, .bool false] 57) ∨ (i = .int .i64 1 ∧ Below b w wr ∧ ∃ rv0, Blk wr b [.pointer (some ⟨bd, 0, none⟩), .int .i64 (room : Int), .int .i64 (first : Int), .int .i64 0, .int .i64 (n0 : Int), rv0, (Str l0), .int .i64 0, .int .i64 0, .int .i64 0, .slice none 0 0, .string ⟨#[]⟩, .int .i64 0, .bool false] 57 ∧ RecsV wr (fun k => b < k ∧ k < wr.heap.size) rv0 rec0) ∨ (i = .int .i64 2 ∧ Below b w wr ∧ ∃ rv0 rv1, Blk wr b [.pointer (some ⟨bd, 0, none⟩), .int .i64 (room : Int), .int .i64 (first : Int), .int .i64 0, .int .i64 (n0 : Int), rv0, (Str l0), .int .i64 (f1 : Int), .int .i64 1, .int .i64 (n1 : Int), rv1, (Str l1), .int .i64 ep, .bool false] 57 ∧ RecsV wr (fun k => b < k ∧ k < wr.heap.size) rv0 rec0 ∧ RecsV wr (fun k => b < k ∧ k < wr.heap.size) rv1 rec1)) (fun i _ => 2 - (intOf i).toNat)
  case atStart => exact .inl ⟨rfl, HBB1.out, HB1.out⟩
  case round =>
    clear HB1 HBB1
    rcases hrel with ⟨rfl, hbb, hB⟩ | ⟨rfl, hbb, rv0, hB, hR0⟩ | ⟨rfl, hbb, rv0, rv1, hB, hR0, hR1⟩
    rotate_left
    rotate_left
    · by_cases hE : bs1 = []
      · have HE := Lib.hid hE
        obtain rfl : ep = 0 := by rw [← HEPI.out, if_pos hE]
        clear hE
        have HB := Lib.hid hB
        have HBB := Lib.hid hbb
        have HRV := Lib.hid hR0
        have c12 := hB.cell (i := 12) rfl
        have ce := hB.cell (i := 3) rfl
        have CU := Lib.hid (current_at0 c12)
        clear hB hbb hR0 hR1
        go_wp2_with fail
        refine (CU.out).mono ?_
        rintro e w' ⟨rfl, k2, rfl⟩
        go_wp2_with fail
        go_quiet (fail)
        have b7 : Below wr.heap.size wr ((wr.drewN k2).drewN nq) := (below_drewN wr k2).trans (below_drewN (wr.drewN k2) nq)
        obtain ⟨w7, hw7⟩ : ∃ w7, (wr.drewN k2).drewN nq = w7 := ⟨_, rfl⟩
        rw [hw7] at b7 ⊢
        have hB7 := HB.out.of_same (b7.block b HB.out.lt)
        have y12 := hB7.cell (i := 12) rfl
        have yo := hB7.cell (i := 7) rfl
        have HB7 := Lib.hid hB7
        have HBE7 := Lib.hid b7
        have itm : (0 : Int).tmod 2 = 0 := rfl
        clear hB7 b7 hw7 c12 ce CU
        go_wp2_with fail
        go_still_tail 10, (by kernel_rfl)
        go_wp2_with fail
        refine (newhalf_any f1 0 _).mono ?_
        rintro e w8 ⟨rfl, hb8⟩
        rw [HZ.out]
        have hb8' : Below w7.heap.size w7 w8 := (Below.refl _ _).drew.trans hb8
        have hB8 := HB7.out.of_same (hb8'.block b HB7.out.lt)
        have r0 := hB8.cell (i := 7) rfl
        have r1 := hB8.cell (i := 8) rfl
        have r2 := hB8.cell (i := 9) rfl
        have r3 := hB8.cell (i := 10) rfl
        have r4 := hB8.cell (i := 11) rfl
        have fr := fun i => hB8.free i
        have HB8 := Lib.hid hB8
        have HB78 := Lib.hid hb8'
        clear hB8 hb8 hb8' y12 yo
        go_wp2_with fail
        go_ret2
        have k9 : Blk (((((w8.setCell ⟨b, 7, none⟩ (.int .i64 (f1 : Int))).setCell ⟨b, 8, none⟩ (.int .i64 0)).setCell ⟨b, 9, none⟩ (.int .i64 0)).setCell ⟨b, 10, none⟩ (.slice none 0 0)).setCell ⟨b, 11, none⟩ (.string zs)) b [.pointer (some ⟨bd, 0, none⟩), .int .i64 (room : Int), .int .i64 (first : Int), .int .i64 0, .int .i64 (n0 : Int), rv0, (Str l0), .int .i64 (f1 : Int), .int .i64 0, .int .i64 0, .slice none 0 0, .string zs, .int .i64 0, .bool false] 57 := by
          have hB8 := HB8.out
          have h := (((((hB8.set 7 (.int .i64 (f1 : Int))).set 8 (.int .i64 0)).set 9 (.int .i64 0)).set 10 (.slice none 0 0)).set 11 (.string zs))
          simp only [List.set_cons_succ, List.set_cons_zero] at h
          exact h
        have b8 : Below b w w8 := HBB.out.trans ((HBE7.out.trans (HB78.out.mono HBE7.out.size)).mono (Nat.le_of_lt HB.out.lt))
        have b9 : Below b w (((((w8.setCell ⟨b, 7, none⟩ (.int .i64 (f1 : Int))).setCell ⟨b, 8, none⟩ (.int .i64 0)).setCell ⟨b, 9, none⟩ (.int .i64 0)).setCell ⟨b, 10, none⟩ (.slice none 0 0)).setCell ⟨b, 11, none⟩ (.string zs)) := (((((b8.setCell (p := ⟨b, 7, none⟩) (Nat.le_refl b) _).setCell (p := ⟨b, 8, none⟩) (Nat.le_refl b) _).setCell (p := ⟨b, 9, none⟩) (Nat.le_refl b) _).setCell (p := ⟨b, 10, none⟩) (Nat.le_refl b) _).setCell (p := ⟨b, 11, none⟩) (Nat.le_refl b) _)
        have R8 := (HRV.out.same (w' := w8) (fun k hk => (HBE7.out.trans (HB78.out.mono HBE7.out.size)).block k hk.2)).mono (G := (fun k => b < k ∧ k < w8.heap.size)) (fun k hk => ⟨hk.1, Nat.lt_of_lt_of_le hk.2 (HBE7.out.trans (HB78.out.mono HBE7.out.size)).size⟩)
        have R9 : RecsV (((((w8.setCell ⟨b, 7, none⟩ (.int .i64 (f1 : Int))).setCell ⟨b, 8, none⟩ (.int .i64 0)).setCell ⟨b, 9, none⟩ (.int .i64 0)).setCell ⟨b, 10, none⟩ (.slice none 0 0)).setCell ⟨b, 11, none⟩ (.string zs)) (fun k => w.heap.size ≤ k ∧ k < ((((((w8.setCell ⟨b, 7, none⟩ (.int .i64 (f1 : Int))).setCell ⟨b, 8, none⟩ (.int .i64 0)).setCell ⟨b, 9, none⟩ (.int .i64 0)).setCell ⟨b, 10, none⟩ (.slice none 0 0)).setCell ⟨b, 11, none⟩ (.string zs))).heap.size) rv0 rec0 := (R8.same (w' := (((((w8.setCell ⟨b, 7, none⟩ (.int .i64 (f1 : Int))).setCell ⟨b, 8, none⟩ (.int .i64 0)).setCell ⟨b, 9, none⟩ (.int .i64 0)).setCell ⟨b, 10, none⟩ (.slice none 0 0)).setCell ⟨b, 11, none⟩ (.string zs))) (fun k hk => by
          have hk1 := hk.1
          iterate 5 rw [heap_setCell_other _ _ _ _ (show k ≠ b by omega)])).mono (fun k hk => ⟨by
            have h1 := hk.1
            have h2 := HBE.out
            omega, by simpa using hk.2⟩)
        have hT := HEP.out
        rw [if_pos HE.out, HNM.out.1, HNM.out.2.2.1, HNM.out.2.2.2.2.1] at hT
        rw [hT]
        refine ⟨b, rfl, b9.mono (Nat.le_of_eq HBE.out), JAt.of_even rfl (fun k hk => hk.2) ⟨Nat.le_of_eq HBE.out, k9.lt⟩ (by rw [HZ.out]; exact k9) R9⟩
      · have HE := Lib.hid hE
        obtain rfl : ep = 1 := by rw [← HEPI.out, if_neg hE]
        clear hE
        have HB := Lib.hid hB
        have HBB := Lib.hid hbb
        have HRV := Lib.hid hR1
        have c12 := hB.cell (i := 12) rfl
        have ce := hB.cell (i := 8) rfl
        have CU := Lib.hid (current_at1 c12)
        clear hB hbb hR0 hR1
        go_wp2_with fail
        refine (CU.out).mono ?_
        rintro e w' ⟨rfl, k2, rfl⟩
        go_wp2_with fail
        go_quiet (fail)
        have b7 : Below wr.heap.size wr ((wr.drewN k2).drewN nq) := (below_drewN wr k2).trans (below_drewN (wr.drewN k2) nq)
        obtain ⟨w7, hw7⟩ : ∃ w7, (wr.drewN k2).drewN nq = w7 := ⟨_, rfl⟩
        rw [hw7] at b7 ⊢
        have hB7 := HB.out.of_same (b7.block b HB.out.lt)
        have y12 := hB7.cell (i := 12) rfl
        have yo := hB7.cell (i := 2) rfl
        have HB7 := Lib.hid hB7
        have HBE7 := Lib.hid b7
        have itm : (1 : Int).tmod 2 = 1 := rfl
        clear hB7 b7 hw7 c12 ce CU
        go_wp2_with fail
        go_still_tail 10, (by kernel_rfl)
        go_wp2_with fail
        refine (newhalf_any first 0 _).mono ?_
        rintro e w8 ⟨rfl, hb8⟩
        rw [HZ.out]
        have hb8' : Below w7.heap.size w7 w8 := (Below.refl _ _).drew.trans hb8
        have hB8 := HB7.out.of_same (hb8'.block b HB7.out.lt)
        have r0 := hB8.cell (i := 2) rfl
        have r1 := hB8.cell (i := 3) rfl
        have r2 := hB8.cell (i := 4) rfl
        have r3 := hB8.cell (i := 5) rfl
        have r4 := hB8.cell (i := 6) rfl
        have fr := fun i => hB8.free i
        have HB8 := Lib.hid hB8
        have HB78 := Lib.hid hb8'
        clear hB8 hb8 hb8' y12 yo
        go_wp2_with fail
        go_ret2
        have k9 : Blk (((((w8.setCell ⟨b, 2, none⟩ (.int .i64 (first : Int))).setCell ⟨b, 3, none⟩ (.int .i64 0)).setCell ⟨b, 4, none⟩ (.int .i64 0)).setCell ⟨b, 5, none⟩ (.slice none 0 0)).setCell ⟨b, 6, none⟩ (.string zs)) b [.pointer (some ⟨bd, 0, none⟩), .int .i64 (room : Int), .int .i64 (first : Int), .int .i64 0, .int .i64 0, .slice none 0 0, .string zs, .int .i64 (f1 : Int), .int .i64 1, .int .i64 (n1 : Int), rv1, (Str l1), .int .i64 1, .bool false] 57 := by
          have hB8 := HB8.out
          have h := (((((hB8.set 2 (.int .i64 (first : Int))).set 3 (.int .i64 0)).set 4 (.int .i64 0)).set 5 (.slice none 0 0)).set 6 (.string zs))
          simp only [List.set_cons_succ, List.set_cons_zero] at h
          exact h
        have b8 : Below b w w8 := HBB.out.trans ((HBE7.out.trans (HB78.out.mono HBE7.out.size)).mono (Nat.le_of_lt HB.out.lt))
        have b9 : Below b w (((((w8.setCell ⟨b, 2, none⟩ (.int .i64 (first : Int))).setCell ⟨b, 3, none⟩ (.int .i64 0)).setCell ⟨b, 4, none⟩ (.int .i64 0)).setCell ⟨b, 5, none⟩ (.slice none 0 0)).setCell ⟨b, 6, none⟩ (.string zs)) := (((((b8.setCell (p := ⟨b, 2, none⟩) (Nat.le_refl b) _).setCell (p := ⟨b, 3, none⟩) (Nat.le_refl b) _).setCell (p := ⟨b, 4, none⟩) (Nat.le_refl b) _).setCell (p := ⟨b, 5, none⟩) (Nat.le_refl b) _).setCell (p := ⟨b, 6, none⟩) (Nat.le_refl b) _)
        have R8 := (HRV.out.same (w' := w8) (fun k hk => (HBE7.out.trans (HB78.out.mono HBE7.out.size)).block k hk.2)).mono (G := (fun k => b < k ∧ k < w8.heap.size)) (fun k hk => ⟨hk.1, Nat.lt_of_lt_of_le hk.2 (HBE7.out.trans (HB78.out.mono HBE7.out.size)).size⟩)
        have R9 : RecsV (((((w8.setCell ⟨b, 2, none⟩ (.int .i64 (first : Int))).setCell ⟨b, 3, none⟩ (.int .i64 0)).setCell ⟨b, 4, none⟩ (.int .i64 0)).setCell ⟨b, 5, none⟩ (.slice none 0 0)).setCell ⟨b, 6, none⟩ (.string zs)) (fun k => w.heap.size ≤ k ∧ k < ((((((w8.setCell ⟨b, 2, none⟩ (.int .i64 (first : Int))).setCell ⟨b, 3, none⟩ (.int .i64 0)).setCell ⟨b, 4, none⟩ (.int .i64 0)).setCell ⟨b, 5, none⟩ (.slice none 0 0)).setCell ⟨b, 6, none⟩ (.string zs))).heap.size) rv1 rec1 := (R8.same (w' := (((((w8.setCell ⟨b, 2, none⟩ (.int .i64 (first : Int))).setCell ⟨b, 3, none⟩ (.int .i64 0)).setCell ⟨b, 4, none⟩ (.int .i64 0)).setCell ⟨b, 5, none⟩ (.slice none 0 0)).setCell ⟨b, 6, none⟩ (.string zs))) (fun k hk => by
          have hk1 := hk.1
          iterate 5 rw [heap_setCell_other _ _ _ _ (show k ≠ b by omega)])).mono (fun k hk => ⟨by
            have h1 := hk.1
            have h2 := HBE.out
            omega, by simpa using hk.2⟩)
        have hT := HEP.out
        rw [if_neg HE.out, HNM.out.2.1, HNM.out.2.2.2.1, HNM.out.2.2.2.2.2] at hT
        rw [hT]
        refine ⟨b, rfl, b9.mono (Nat.le_of_eq HBE.out), JAt.of_odd rfl (fun k hk => hk.2) ⟨Nat.le_of_eq HBE.out, k9.lt⟩ (by rw [HZ.out]; exact k9) R9⟩
    · skip
      have HBW := Lib.hid hB
      have HBB := Lib.hid hbb
      have HBL := Lib.hid hB.lt
      have HS9 : Hid (wr.drew.cell? ⟨b, 1, none⟩ = some (.int .i64 (room : Int))) := Lib.hid (hB.cell (i := 1) rfl)
      clear hB hbb
      go_wp2_with fail
      refine wp_region_held_drew (S := (fun w' => w'.cell? ⟨b, 1, none⟩ = some (.int .i64 (room : Int)))) (by kernel_rfl) HS9.out (fun hS => ?_)
      refine wpAnyH_take (i := 0) (oi := ⟨some 43, _, _, _, _, _⟩) (v := .pointer (some ⟨b, 0, none⟩)) rfl (by kernel_rfl) (by kernel_rfl) (by kernel_rfl) (fun _ _ _ h => h) (Or.inl ⟨by rfl, fun w s1 => by go_simp⟩) hS ?_
      try simp only [Act.put, List.setIfInBounds_toArray, List.set_cons_zero, List.set_cons_succ]
      refine wpAnyH_take (i := 1) (oi := ⟨some 44, _, _, _, _, _⟩) (v := .int .i64 0) rfl (by kernel_rfl) (by kernel_rfl) (by kernel_rfl) (fun _ _ _ h => h) (Or.inl ⟨by rfl, fun w s1 => by go_simp⟩) hS ?_
      try simp only [Act.put, List.setIfInBounds_toArray, List.set_cons_zero, List.set_cons_succ]
      refine wpAnyH_take (i := 2) (oi := ⟨some 45, _, _, _, _, _⟩) (v := .int .i64 (first : Int)) rfl (by kernel_rfl) (by kernel_rfl) (by kernel_rfl) (fun _ _ _ h => h) (Or.inl ⟨by rfl, fun w s1 => by go_simp⟩) hS ?_
      try simp only [Act.put, List.setIfInBounds_toArray, List.set_cons_zero, List.set_cons_succ]
      refine wpAnyH_take (i := 3) (oi := ⟨some 46, _, _, _, _, _⟩) (v := .int .i64 0) rfl (by kernel_rfl) (by kernel_rfl) (by kernel_rfl) (fun _ _ _ h => h) (Or.inl ⟨by rfl, fun w s1 => by go_simp⟩) hS ?_
      try simp only [Act.put, List.setIfInBounds_toArray, List.set_cons_zero, List.set_cons_succ]
      refine wpAnyH_take (i := 4) (oi := ⟨some 47, _, _, _, _, _⟩) (v := .pointer (some ⟨b, 0, none⟩)) rfl (by kernel_rfl) (by kernel_rfl) (by kernel_rfl) (fun _ _ _ h => h) (Or.inl ⟨by rfl, fun w s1 => by go_simp⟩) hS ?_
      try simp only [Act.put, List.setIfInBounds_toArray, List.set_cons_zero, List.set_cons_succ]
      refine wpAnyH_take (i := 5) (oi := ⟨some 48, _, _, _, _, _⟩) (v := .pointer (some ⟨b, 0, none⟩)) rfl (by kernel_rfl) (by kernel_rfl) (by kernel_rfl) (fun _ _ _ h => h) (Or.inl ⟨by rfl, fun w s1 => by go_simp⟩) hS ?_
      try simp only [Act.put, List.setIfInBounds_toArray, List.set_cons_zero, List.set_cons_succ]
      refine wpAnyH_take (i := 6) (oi := ⟨some 49, _, _, _, _, _⟩) (v := .pointer (some ⟨b, 1, none⟩)) rfl (by kernel_rfl) (by kernel_rfl) (by kernel_rfl) (fun _ _ _ h => h) (Or.inl ⟨by rfl, fun w s1 => by go_simp⟩) hS ?_
      try simp only [Act.put, List.setIfInBounds_toArray, List.set_cons_zero, List.set_cons_succ]
      refine wpAnyH_take (i := 7) (oi := ⟨some 50, _, _, _, _, _⟩) (v := .int .i64 (room : Int)) rfl (by kernel_rfl) (by kernel_rfl) (by kernel_rfl) (fun _ _ _ h => h) (Or.inl ⟨by rfl, fun w s1 => by go_simp⟩) hS ?_
      try simp only [Act.put, List.setIfInBounds_toArray, List.set_cons_zero, List.set_cons_succ]
      refine wpAnyH_take (i := 8) (oi := ⟨some 51, _, _, _, _, _⟩) (v := .int .i64 0) rfl (by kernel_rfl) (by kernel_rfl) (by kernel_rfl) (fun _ _ _ h => h) (Or.inl ⟨by rfl, fun w s1 => by go_simp⟩) hS ?_
      try simp only [Act.put, List.setIfInBounds_toArray, List.set_cons_zero, List.set_cons_succ]
      refine wpAnyH_take (i := 9) (oi := ⟨some 52, _, _, _, _, _⟩) (v := .int .i64 (first : Int)) rfl (by kernel_rfl) (by kernel_rfl) (by kernel_rfl) (fun _ _ _ h => h) (Or.inl ⟨by rfl, fun w s1 => by go_simp⟩) hS ?_
      try simp only [Act.put, List.setIfInBounds_toArray, List.set_cons_zero, List.set_cons_succ]
      refine wpAnyH_take (i := 10) (oi := ⟨some 53, _, _, _, _, _⟩) (v := .int .i64 0) rfl (by kernel_rfl) (by kernel_rfl) (by kernel_rfl) (fun _ _ _ h => h) (Or.inl ⟨by rfl, fun w s1 => by go_simp⟩) hS ?_
      try simp only [Act.put, List.setIfInBounds_toArray, List.set_cons_zero, List.set_cons_succ]
      refine wpAnyH_take (i := 12) (oi := ⟨some 55, _, _, _, _, _⟩) (v := .pointer (some ⟨b, 0, none⟩)) rfl (by kernel_rfl) (by kernel_rfl) (by kernel_rfl) (fun _ _ _ h => h) (Or.inl ⟨by rfl, fun w s1 => by go_simp⟩) hS ?_
      try simp only [Act.put, List.setIfInBounds_toArray, List.set_cons_zero, List.set_cons_succ]
      refine wpAnyH_take (i := 13) (oi := ⟨some 56, _, _, _, _, _⟩) (v := .pointer (some ⟨b, 2, none⟩)) rfl (by kernel_rfl) (by kernel_rfl) (by kernel_rfl) (fun _ _ _ h => h) (Or.inl ⟨by rfl, fun w s1 => by go_simp⟩) hS ?_
      try simp only [Act.put, List.setIfInBounds_toArray, List.set_cons_zero, List.set_cons_succ]
      refine wpAnyH_ready (rs := [11]) (by kernel_rfl) (by simp) ?_
      refine AllReadyH.cons (o := ⟨some 54, _, _, _, _, _⟩) rfl (fun K hK => ?_) AllReadyH.nil
      go_simp
      refine (newhalf_any first 0 _).mono ?_
      rintro e w3 ⟨rfl, hb3⟩
      rw [HZ.out]
      have hs3 : w3.cell? ⟨b, 1, none⟩ = some (.int .i64 (room : Int)) := ((Below.refl _ _).drew.trans hb3 |>.cell (p := ⟨b, 1, none⟩) HBL.out).trans HS9.out
      refine hK.out _ _ hs3 (fun _ => ?_)
      clear hK K
      try simp only [Act.put, List.setIfInBounds_toArray, List.set_cons_zero, List.set_cons_succ]
      refine wpAnyH_take (i := 14) (oi := ⟨some 57, _, _, _, _, _⟩) (v := .pointer (some ⟨b, 2, none⟩)) rfl (by kernel_rfl) (by kernel_rfl) (by kernel_rfl) (fun _ _ _ h => h) (Or.inl ⟨by rfl, fun w s1 => by go_simp⟩) hs3 ?_
      try simp only [Act.put, List.setIfInBounds_toArray, List.set_cons_zero, List.set_cons_succ]
      have hB3 := HBW.out.of_same (((Below.refl _ _).drew.trans hb3).block b HBL.out)
      have x0 := hB3.cell (i := 2) rfl
      have x1 := hB3.cell (i := 3) rfl
      have x2 := hB3.cell (i := 4) rfl
      have x3 := hB3.cell (i := 5) rfl
      have x4 := hB3.cell (i := 6) rfl
      have fr3 := fun i => hB3.free i
      refine wpAnyH_ready (rs := [15]) (by kernel_rfl) (by simp) ?_
      refine AllReadyH.cons (o := ⟨none, _, _, _, _, _⟩) rfl (fun K hK => ?_) AllReadyH.nil
      go_simp
      refine hK.out _ _ ((set5_cell1 _ b 2 _ _ _ _ _ (by omega)).trans hs3) (fun _ => ?_)
      clear hK K
      try simp only [Act.put, List.setIfInBounds_toArray, List.set_cons_zero, List.set_cons_succ]
      refine wpAnyH_done (by kernel_rfl) ?_ _
      have k4 : Blk (((((w3.setCell ⟨b, 2, none⟩ (.int .i64 (first : Int))).setCell ⟨b, 3, none⟩ (.int .i64 0)).setCell ⟨b, 4, none⟩ (.int .i64 0)).setCell ⟨b, 5, none⟩ (.slice none 0 0)).setCell ⟨b, 6, none⟩ (.string zs)) b [.pointer (some ⟨bd, 0, none⟩), .int .i64 (room : Int), .int .i64 (first : Int), .int .i64 0, .int .i64 0, .slice none 0 0, .string zs, .int .i64 0, .int .i64 0, .int .i64 0, .slice none 0 0, .string ⟨#[]⟩, .int .i64 0, .bool false] 57 := by
        have h := (((((hB3.set 2 (.int .i64 (first : Int))).set 3 (.int .i64 0)).set 4 (.int .i64 0)).set 5 (.slice none 0 0)).set 6 (.string zs))
        simp only [List.set_cons_succ, List.set_cons_zero] at h
        exact h
      have b3 : Below b w w3 := HBB.out.trans (((Below.refl _ _).drew.trans hb3).mono (Nat.le_of_lt HBL.out))
      have b4 : Below b w (((((w3.setCell ⟨b, 2, none⟩ (.int .i64 (first : Int))).setCell ⟨b, 3, none⟩ (.int .i64 0)).setCell ⟨b, 4, none⟩ (.int .i64 0)).setCell ⟨b, 5, none⟩ (.slice none 0 0)).setCell ⟨b, 6, none⟩ (.string zs)) := ((((b3.setCell (p := ⟨b, 2, none⟩) (Nat.le_refl b) _).setCell (p := ⟨b, 3, none⟩) (Nat.le_refl b) _).setCell (p := ⟨b, 4, none⟩) (Nat.le_refl b) _).setCell (p := ⟨b, 5, none⟩) (Nat.le_refl b) _).setCell (p := ⟨b, 6, none⟩) (Nat.le_refl b) _
      obtain ⟨w4, hw4⟩ : ∃ w4, (((((w3.setCell ⟨b, 2, none⟩ (.int .i64 (first : Int))).setCell ⟨b, 3, none⟩ (.int .i64 0)).setCell ⟨b, 4, none⟩ (.int .i64 0)).setCell ⟨b, 5, none⟩ (.slice none 0 0)).setCell ⟨b, 6, none⟩ (.string zs)) = w4 := ⟨_, rfl⟩
      rw [hw4] at k4 b4 ⊢
      clear hS hs3 hB3 hb3 x0 x1 x2 x3 x4 fr3 b3 hw4
      have hH : HalfAt w4 (fun k => k = b) b [.pointer (some ⟨bd, 0, none⟩), .int .i64 (room : Int)] [.int .i64 0, .int .i64 0, .int .i64 0, .slice none 0 0, .string ⟨#[]⟩, .int .i64 0, .bool false] 57 first 0 0 [] z32 := ⟨fun k hk => by rw [hk]; exact k4.lt, rfl, by decide, by decide, .slice none 0 0, by (unfold hcells; rw [HZ.out]; exact k4), RecsV.nil⟩
      have b4' : Below w.heap.size w w4 := b4.mono (Nat.le_of_eq HBE.out)
      have V := Lib.hid (recover_any hH (P' := []) rfl rfl (HD.out.below b4') HC.out (fun k hf hk => by have h1 := HD.out.inn k hf; have h2 : k = b := hk; have h3 := HBE.out; omega) (fun W hst => HG.out W (b4'.trans (hst.below (fun k hk => by rw [show k = b from hk]; exact Nat.le_of_eq HBE.out) b4'.size))) HSZ.out (by omega) (by have h1 := HRO.out; omega) HC0.out)
      have HB4 := Lib.hid (And.intro b4 k4.lt)
      clear hH k4 b4 b4'
      go_wp2_with fail
      refine (V.out).mono ?_
      rintro e w5 ⟨rfl, st5, hH5⟩
      rw [ite_self, HNM.out.1, HNM.out.2.2.1, HNM.out.2.2.2.2.1] at hH5
      obtain ⟨hI5, -, -, -, rv5, hB5, hR5⟩ := hH5
      have hR5' := hR5.off hB5 (by decide) (by decide)
      obtain ⟨s5, eS5⟩ : ∃ s5 : ByteArray, Str l0 = .string s5 := ⟨_, rfl⟩
      unfold hcells at hB5
      rw [eS5] at hB5
      obtain ⟨ra5, rc5, rfl, -⟩ := hR5.form
      have b5 : Below b w w5 := HB4.out.1.trans (st5.below (fun k hk => by rw [show k = b from hk]; exact Nat.le_refl b) (Nat.le_of_lt HB4.out.2))
      have R5 : RecsV w5 (fun k => b < k ∧ k < w5.heap.size) (.slice ra5 rec0.length rc5) rec0 := hR5'.mono (fun k hk => ⟨by
        have h1 := hk.2
        rcases hk.1 with h2 | h2
        · exact absurd h2 h1
        · have := h2.1; have := HB4.out.2; omega, hI5 k hk.1⟩)
      have HR5 := Lib.hid R5
      have HB5 := Lib.hid hB5
      have HBB5 := Lib.hid b5
      have HS5 := Lib.hid eS5
      have y0 := hB5.cell (i := 2) rfl
      have y1 := hB5.cell (i := 3) rfl
      have y2 := hB5.cell (i := 4) rfl
      have y3 := hB5.cell (i := 5) rfl
      have y4 := hB5.cell (i := 6) rfl
      have lb5 := hB5.lt
      clear hI5 hB5 hR5 hR5' V st5 b5 R5 eS5
      have HRG : Hid (w5.rangeAt b 2 [.int .i64 (first : Int), .int .i64 0, .int .i64 (n0 : Int), .slice ra5 rec0.length rc5, .string s5]) := Lib.hid (fun j v hj => by
        rcases j with _ | _ | _ | _ | _ | j
        · exact (HB5.out.cell (i := 2) rfl).trans hj
        · exact (HB5.out.cell (i := 3) rfl).trans hj
        · exact (HB5.out.cell (i := 4) rfl).trans hj
        · exact (HB5.out.cell (i := 5) rfl).trans hj
        · exact (HB5.out.cell (i := 6) rfl).trans hj
        · simp at hj)
      clear HRG
      go_wp2_with fail
      have hb6 : Below w5.heap.size w5 (w5.alloc (.cells #[.int .i64 (first : Int), .int .i64 0, .int .i64 (n0 : Int), .slice ra5 rec0.length rc5, .string s5] 54)) := (Below.refl _ _).alloc (Nat.le_refl _) _
      have hbk := Blk.new w5 [.int .i64 (first : Int), .int .i64 0, .int .i64 (n0 : Int), .slice ra5 rec0.length rc5, .string s5] 54
      obtain ⟨w6, hw6⟩ : ∃ w6, w5.alloc (.cells #[.int .i64 (first : Int), .int .i64 0, .int .i64 (n0 : Int), .slice ra5 rec0.length rc5, .string s5] 54) = w6 := ⟨_, rfl⟩
      obtain ⟨h6, hh6⟩ : ∃ h6, w5.heap.size = h6 := ⟨_, rfl⟩
      rw [hw6] at hb6 hbk ⊢
      rw [hh6] at hbk ⊢
      have z1 := hbk.cell (i := 1) rfl
      have z2 := hbk.cell (i := 2) rfl
      have hB6 := HB5.out.of_same (hb6.block b HB5.out.lt)
      have z12 := hB6.cell (i := 12) rfl
      have pf6 := fun i => hB6.free i
      have HB6 := Lib.hid hB6
      have HR6 := Lib.hid ((HR5.out.below (fun k hk => hk.2) hb6).mono (G := (fun k => b < k ∧ k < w6.heap.size)) (fun k hk => ⟨hk.1, Nat.lt_of_lt_of_le hk.2 hb6.size⟩))
      have HBB6 : Hid (Below b w w6) := Lib.hid (HBB5.out.trans (hb6.mono (Nat.le_of_lt HB5.out.lt)))
      clear hbk hb6 hw6 hB6 y0 y1 y2 y3 y4 lb5 HB5 HR5 HBB5 hh6
      by_cases hnz : 0 < n0
      · have hnz2 : (0 : Int) < (n0 : Int) := by omega
        go_wp2_with fail
        go_quiet (fail)
        go_wp2_with fail
        refine ⟨.inr (.inl ⟨rfl, HBB6.out.trans ((below_drewN w6 nq).mono (Nat.le_of_lt HB6.out.lt)), _, (by have h := HB6.out; rw [← HS5.out] at h; exact h), HR6.out.same (fun k hk => (below_drewN w6 nq).block k hk.2)⟩), by simp [intOf]⟩
      · have hnz2 : ¬ (0 : Int) < (n0 : Int) := by omega
        go_wp2_with fail
        go_quiet (fail)
        go_wp2_with fail
        refine ⟨.inr (.inl ⟨rfl, HBB6.out.trans ((below_drewN w6 nq).mono (Nat.le_of_lt HB6.out.lt)), _, (by have h := HB6.out; rw [← HS5.out] at h; exact h), HR6.out.same (fun k hk => (below_drewN w6 nq).block k hk.2)⟩), by simp [intOf]⟩
    · skip
      have HBW := Lib.hid hB
      have HBB := Lib.hid hbb
      have HBL := Lib.hid hB.lt
      have HS9 : Hid (wr.drew.cell? ⟨b, 1, none⟩ = some (.int .i64 (room : Int))) := Lib.hid (hB.cell (i := 1) rfl)
      have HR0 := Lib.hid hR0
      clear hB hbb hR0
      go_wp2_with fail
      refine wp_region_held_drew (S := (fun w' => w'.cell? ⟨b, 1, none⟩ = some (.int .i64 (room : Int)))) (by kernel_rfl) HS9.out (fun hS => ?_)
      refine wpAnyH_take (i := 0) (oi := ⟨some 43, _, _, _, _, _⟩) (v := .pointer (some ⟨b, 0, none⟩)) rfl (by kernel_rfl) (by kernel_rfl) (by kernel_rfl) (fun _ _ _ h => h) (Or.inl ⟨by rfl, fun w s1 => by go_simp⟩) hS ?_
      try simp only [Act.put, List.setIfInBounds_toArray, List.set_cons_zero, List.set_cons_succ]
      refine wpAnyH_take (i := 1) (oi := ⟨some 44, _, _, _, _, _⟩) (v := .int .i64 1) rfl (by kernel_rfl) (by kernel_rfl) (by kernel_rfl) (fun _ _ _ h => h) (Or.inl ⟨by rfl, fun w s1 => by go_simp⟩) hS ?_
      try simp only [Act.put, List.setIfInBounds_toArray, List.set_cons_zero, List.set_cons_succ]
      refine wpAnyH_take (i := 2) (oi := ⟨some 45, _, _, _, _, _⟩) (v := .int .i64 (first : Int)) rfl (by kernel_rfl) (by kernel_rfl) (by kernel_rfl) (fun _ _ _ h => h) (Or.inl ⟨by rfl, fun w s1 => by go_simp⟩) hS ?_
      try simp only [Act.put, List.setIfInBounds_toArray, List.set_cons_zero, List.set_cons_succ]
      refine wpAnyH_take (i := 3) (oi := ⟨some 46, _, _, _, _, _⟩) (v := .int .i64 1) rfl (by kernel_rfl) (by kernel_rfl) (by kernel_rfl) (fun _ _ _ h => h) (Or.inl ⟨by rfl, fun w s1 => by go_simp⟩) hS ?_
      try simp only [Act.put, List.setIfInBounds_toArray, List.set_cons_zero, List.set_cons_succ]
      refine wpAnyH_take (i := 4) (oi := ⟨some 47, _, _, _, _, _⟩) (v := .pointer (some ⟨b, 0, none⟩)) rfl (by kernel_rfl) (by kernel_rfl) (by kernel_rfl) (fun _ _ _ h => h) (Or.inl ⟨by rfl, fun w s1 => by go_simp⟩) hS ?_
      try simp only [Act.put, List.setIfInBounds_toArray, List.set_cons_zero, List.set_cons_succ]
      refine wpAnyH_take (i := 5) (oi := ⟨some 48, _, _, _, _, _⟩) (v := .pointer (some ⟨b, 0, none⟩)) rfl (by kernel_rfl) (by kernel_rfl) (by kernel_rfl) (fun _ _ _ h => h) (Or.inl ⟨by rfl, fun w s1 => by go_simp⟩) hS ?_
      try simp only [Act.put, List.setIfInBounds_toArray, List.set_cons_zero, List.set_cons_succ]
      refine wpAnyH_take (i := 6) (oi := ⟨some 49, _, _, _, _, _⟩) (v := .pointer (some ⟨b, 1, none⟩)) rfl (by kernel_rfl) (by kernel_rfl) (by kernel_rfl) (fun _ _ _ h => h) (Or.inl ⟨by rfl, fun w s1 => by go_simp⟩) hS ?_
      try simp only [Act.put, List.setIfInBounds_toArray, List.set_cons_zero, List.set_cons_succ]
      refine wpAnyH_take (i := 7) (oi := ⟨some 50, _, _, _, _, _⟩) (v := .int .i64 (room : Int)) rfl (by kernel_rfl) (by kernel_rfl) (by kernel_rfl) (fun _ _ _ h => h) (Or.inl ⟨by rfl, fun w s1 => by go_simp⟩) hS ?_
      try simp only [Act.put, List.setIfInBounds_toArray, List.set_cons_zero, List.set_cons_succ]
      refine wpAnyH_take (i := 8) (oi := ⟨some 51, _, _, _, _, _⟩) (v := .int .i64 (room : Int)) rfl (by kernel_rfl) (by kernel_rfl) (by kernel_rfl) (fun _ _ _ h => h) (Or.inl ⟨by rfl, fun w s1 => by go_simp⟩) hS ?_
      try simp only [Act.put, List.setIfInBounds_toArray, List.set_cons_zero, List.set_cons_succ]
      refine wpAnyH_take (i := 9) (oi := ⟨some 52, _, _, _, _, _⟩) (v := .int .i64 (f1 : Int)) rfl (by kernel_rfl) (by kernel_rfl) (by kernel_rfl) (fun _ _ _ h => h) (Or.inl ⟨by rfl, fun w s1 => by go_simp⟩) hS ?_
      try simp only [Act.put, List.setIfInBounds_toArray, List.set_cons_zero, List.set_cons_succ]
      refine wpAnyH_take (i := 10) (oi := ⟨some 53, _, _, _, _, _⟩) (v := .int .i64 1) rfl (by kernel_rfl) (by kernel_rfl) (by kernel_rfl) (fun _ _ _ h => h) (Or.inl ⟨by rfl, fun w s1 => by go_simp⟩) hS ?_
      try simp only [Act.put, List.setIfInBounds_toArray, List.set_cons_zero, List.set_cons_succ]
      refine wpAnyH_take (i := 12) (oi := ⟨some 55, _, _, _, _, _⟩) (v := .pointer (some ⟨b, 0, none⟩)) rfl (by kernel_rfl) (by kernel_rfl) (by kernel_rfl) (fun _ _ _ h => h) (Or.inl ⟨by rfl, fun w s1 => by go_simp⟩) hS ?_
      try simp only [Act.put, List.setIfInBounds_toArray, List.set_cons_zero, List.set_cons_succ]
      refine wpAnyH_take (i := 13) (oi := ⟨some 56, _, _, _, _, _⟩) (v := .pointer (some ⟨b, 2, none⟩)) rfl (by kernel_rfl) (by kernel_rfl) (by kernel_rfl) (fun _ _ _ h => h) (Or.inl ⟨by rfl, fun w s1 => by go_simp⟩) hS ?_
      try simp only [Act.put, List.setIfInBounds_toArray, List.set_cons_zero, List.set_cons_succ]
      refine wpAnyH_ready (rs := [11]) (by kernel_rfl) (by simp) ?_
      refine AllReadyH.cons (o := ⟨some 54, _, _, _, _, _⟩) rfl (fun K hK => ?_) AllReadyH.nil
      go_simp
      refine (newhalf_any f1 1 _).mono ?_
      rintro e w3 ⟨rfl, hb3⟩
      rw [HZ.out]
      have hs3 : w3.cell? ⟨b, 1, none⟩ = some (.int .i64 (room : Int)) := ((Below.refl _ _).drew.trans hb3 |>.cell (p := ⟨b, 1, none⟩) HBL.out).trans HS9.out
      refine hK.out _ _ hs3 (fun _ => ?_)
      clear hK K
      try simp only [Act.put, List.setIfInBounds_toArray, List.set_cons_zero, List.set_cons_succ]
      refine wpAnyH_take (i := 14) (oi := ⟨some 57, _, _, _, _, _⟩) (v := .pointer (some ⟨b, 7, none⟩)) rfl (by kernel_rfl) (by kernel_rfl) (by kernel_rfl) (fun _ _ _ h => h) (Or.inl ⟨by rfl, fun w s1 => by go_simp⟩) hs3 ?_
      try simp only [Act.put, List.setIfInBounds_toArray, List.set_cons_zero, List.set_cons_succ]
      have hB3 := HBW.out.of_same (((Below.refl _ _).drew.trans hb3).block b HBL.out)
      have x0 := hB3.cell (i := 7) rfl
      have x1 := hB3.cell (i := 8) rfl
      have x2 := hB3.cell (i := 9) rfl
      have x3 := hB3.cell (i := 10) rfl
      have x4 := hB3.cell (i := 11) rfl
      have fr3 := fun i => hB3.free i
      refine wpAnyH_ready (rs := [15]) (by kernel_rfl) (by simp) ?_
      refine AllReadyH.cons (o := ⟨none, _, _, _, _, _⟩) rfl (fun K hK => ?_) AllReadyH.nil
      go_simp
      refine hK.out _ _ ((set5_cell1 _ b 7 _ _ _ _ _ (by omega)).trans hs3) (fun _ => ?_)
      clear hK K
      try simp only [Act.put, List.setIfInBounds_toArray, List.set_cons_zero, List.set_cons_succ]
      refine wpAnyH_done (by kernel_rfl) ?_ _
      have k4 : Blk (((((w3.setCell ⟨b, 7, none⟩ (.int .i64 (f1 : Int))).setCell ⟨b, 8, none⟩ (.int .i64 1)).setCell ⟨b, 9, none⟩ (.int .i64 0)).setCell ⟨b, 10, none⟩ (.slice none 0 0)).setCell ⟨b, 11, none⟩ (.string zs)) b [.pointer (some ⟨bd, 0, none⟩), .int .i64 (room : Int), .int .i64 (first : Int), .int .i64 0, .int .i64 (n0 : Int), rv0, (Str l0), .int .i64 (f1 : Int), .int .i64 1, .int .i64 0, .slice none 0 0, .string zs, .int .i64 0, .bool false] 57 := by
        have h := (((((hB3.set 7 (.int .i64 (f1 : Int))).set 8 (.int .i64 1)).set 9 (.int .i64 0)).set 10 (.slice none 0 0)).set 11 (.string zs))
        simp only [List.set_cons_succ, List.set_cons_zero] at h
        exact h
      have b3 : Below b w w3 := HBB.out.trans (((Below.refl _ _).drew.trans hb3).mono (Nat.le_of_lt HBL.out))
      have b4 : Below b w (((((w3.setCell ⟨b, 7, none⟩ (.int .i64 (f1 : Int))).setCell ⟨b, 8, none⟩ (.int .i64 1)).setCell ⟨b, 9, none⟩ (.int .i64 0)).setCell ⟨b, 10, none⟩ (.slice none 0 0)).setCell ⟨b, 11, none⟩ (.string zs)) := ((((b3.setCell (p := ⟨b, 7, none⟩) (Nat.le_refl b) _).setCell (p := ⟨b, 8, none⟩) (Nat.le_refl b) _).setCell (p := ⟨b, 9, none⟩) (Nat.le_refl b) _).setCell (p := ⟨b, 10, none⟩) (Nat.le_refl b) _).setCell (p := ⟨b, 11, none⟩) (Nat.le_refl b) _
      have r4 : RecsV (((((w3.setCell ⟨b, 7, none⟩ (.int .i64 (f1 : Int))).setCell ⟨b, 8, none⟩ (.int .i64 1)).setCell ⟨b, 9, none⟩ (.int .i64 0)).setCell ⟨b, 10, none⟩ (.slice none 0 0)).setCell ⟨b, 11, none⟩ (.string zs)) (fun k => b < k ∧ k < (((((w3.setCell ⟨b, 7, none⟩ (.int .i64 (f1 : Int))).setCell ⟨b, 8, none⟩ (.int .i64 1)).setCell ⟨b, 9, none⟩ (.int .i64 0)).setCell ⟨b, 10, none⟩ (.slice none 0 0)).setCell ⟨b, 11, none⟩ (.string zs)).heap.size) rv0 rec0 := ((HR0.out.same (w' := w3) (fun k hk => ((Below.refl _ _).drew.trans hb3).block k hk.2)).same (w' := (((((w3.setCell ⟨b, 7, none⟩ (.int .i64 (f1 : Int))).setCell ⟨b, 8, none⟩ (.int .i64 1)).setCell ⟨b, 9, none⟩ (.int .i64 0)).setCell ⟨b, 10, none⟩ (.slice none 0 0)).setCell ⟨b, 11, none⟩ (.string zs))) (fun k hk => by
        have hk1 := hk.1
        iterate 5 rw [heap_setCell_other _ _ _ _ (show k ≠ b by omega)])).mono (fun k hk => ⟨hk.1, by
        have h1 := hb3.size
        have h2 := hk.2
        simp at h1 ⊢
        omega⟩)
      obtain ⟨w4, hw4⟩ : ∃ w4, (((((w3.setCell ⟨b, 7, none⟩ (.int .i64 (f1 : Int))).setCell ⟨b, 8, none⟩ (.int .i64 1)).setCell ⟨b, 9, none⟩ (.int .i64 0)).setCell ⟨b, 10, none⟩ (.slice none 0 0)).setCell ⟨b, 11, none⟩ (.string zs)) = w4 := ⟨_, rfl⟩
      rw [hw4] at k4 b4 r4 ⊢
      clear hS hs3 hB3 hb3 x0 x1 x2 x3 x4 fr3 b3 hw4
      have hH : HalfAt w4 (fun k => k = b) b ([.pointer (some ⟨bd, 0, none⟩), .int .i64 (room : Int), .int .i64 (first : Int), .int .i64 0, .int .i64 (n0 : Int), rv0, (Str l0)]) [.int .i64 0, .bool false] 57 f1 1 0 [] z32 := ⟨fun k hk => by rw [hk]; exact k4.lt, rfl, by decide, by decide, .slice none 0 0, by (unfold hcells; rw [HZ.out]; exact k4), RecsV.nil⟩
      have b4' : Below w.heap.size w w4 := b4.mono (Nat.le_of_eq HBE.out)
      have V := Lib.hid (recover_any hH (P' := [.int .i64 (first : Int), .int .i64 0, .int .i64 (n0 : Int), rv0, (Str l0)]) rfl rfl (HD.out.below b4') HC.out (fun k hf hk => by have h1 := HD.out.inn k hf; have h2 : k = b := hk; have h3 := HBE.out; omega) (fun W hst => HG.out W (b4'.trans (hst.below (fun k hk => by rw [show k = b from hk]; exact Nat.le_of_eq HBE.out) b4'.size))) HSZ.out (by omega) (by have h1 := HRO.out; omega) HC1.out)
      have HB4 := Lib.hid (And.intro b4 k4.lt)
      have HR4 := Lib.hid r4
      clear r4
      clear hH k4 b4 b4'
      go_wp2_with fail
      refine (V.out).mono ?_
      rintro e w5 ⟨rfl, st5, hH5⟩
      rw [ite_self, HNM.out.2.1, HNM.out.2.2.2.1, HNM.out.2.2.2.2.2] at hH5
      obtain ⟨hI5, -, -, -, rv5, hB5, hR5⟩ := hH5
      have hR5' := hR5.off hB5 (by decide) (by decide)
      obtain ⟨s5, eS5⟩ : ∃ s5 : ByteArray, Str l1 = .string s5 := ⟨_, rfl⟩
      unfold hcells at hB5
      rw [eS5] at hB5
      obtain ⟨ra5, rc5, rfl, -⟩ := hR5.form
      have b5 : Below b w w5 := HB4.out.1.trans (st5.below (fun k hk => by rw [show k = b from hk]; exact Nat.le_refl b) (Nat.le_of_lt HB4.out.2))
      have R5 : RecsV w5 (fun k => b < k ∧ k < w5.heap.size) (.slice ra5 rec1.length rc5) rec1 := hR5'.mono (fun k hk => ⟨by
        have h1 := hk.2
        rcases hk.1 with h2 | h2
        · exact absurd h2 h1
        · have := h2.1; have := HB4.out.2; omega, hI5 k hk.1⟩)
      have R50 : RecsV w5 (fun k => b < k ∧ k < w5.heap.size) rv0 rec0 := (HR4.out.same (w' := w5) (fun k hk => st5.keep k hk.2 (fun q => by have h1 := hk.1; have h2 : k = b := q; omega))).mono (fun k hk => ⟨hk.1, Nat.lt_of_lt_of_le hk.2 st5.size⟩)
      have HR50 := Lib.hid R50
      clear R50 HR4
      have HR5 := Lib.hid R5
      have HB5 := Lib.hid hB5
      have HBB5 := Lib.hid b5
      have HS5 := Lib.hid eS5
      have y0 := hB5.cell (i := 7) rfl
      have y1 := hB5.cell (i := 8) rfl
      have y2 := hB5.cell (i := 9) rfl
      have y3 := hB5.cell (i := 10) rfl
      have y4 := hB5.cell (i := 11) rfl
      have lb5 := hB5.lt
      clear hI5 hB5 hR5 hR5' V st5 b5 R5 eS5
      have HRG : Hid (w5.rangeAt b 7 [.int .i64 (f1 : Int), .int .i64 1, .int .i64 (n1 : Int), .slice ra5 rec1.length rc5, .string s5]) := Lib.hid (fun j v hj => by
        rcases j with _ | _ | _ | _ | _ | j
        · exact (HB5.out.cell (i := 7) rfl).trans hj
        · exact (HB5.out.cell (i := 8) rfl).trans hj
        · exact (HB5.out.cell (i := 9) rfl).trans hj
        · exact (HB5.out.cell (i := 10) rfl).trans hj
        · exact (HB5.out.cell (i := 11) rfl).trans hj
        · simp at hj)
      clear HRG
      go_wp2_with fail
      have hb6 : Below w5.heap.size w5 (w5.alloc (.cells #[.int .i64 (f1 : Int), .int .i64 1, .int .i64 (n1 : Int), .slice ra5 rec1.length rc5, .string s5] 54)) := (Below.refl _ _).alloc (Nat.le_refl _) _
      have hbk := Blk.new w5 [.int .i64 (f1 : Int), .int .i64 1, .int .i64 (n1 : Int), .slice ra5 rec1.length rc5, .string s5] 54
      obtain ⟨w6, hw6⟩ : ∃ w6, w5.alloc (.cells #[.int .i64 (f1 : Int), .int .i64 1, .int .i64 (n1 : Int), .slice ra5 rec1.length rc5, .string s5] 54) = w6 := ⟨_, rfl⟩
      obtain ⟨h6, hh6⟩ : ∃ h6, w5.heap.size = h6 := ⟨_, rfl⟩
      rw [hw6] at hb6 hbk ⊢
      rw [hh6] at hbk ⊢
      have z1 := hbk.cell (i := 1) rfl
      have z2 := hbk.cell (i := 2) rfl
      have hB6 := HB5.out.of_same (hb6.block b HB5.out.lt)
      have z12 := hB6.cell (i := 12) rfl
      have pf6 := fun i => hB6.free i
      have HB6 := Lib.hid hB6
      have HR6 := Lib.hid ((HR5.out.below (fun k hk => hk.2) hb6).mono (G := (fun k => b < k ∧ k < w6.heap.size)) (fun k hk => ⟨hk.1, Nat.lt_of_lt_of_le hk.2 hb6.size⟩))
      have HR60 := Lib.hid ((HR50.out.below (fun k hk => hk.2) hb6).mono (G := (fun k => b < k ∧ k < w6.heap.size)) (fun k hk => ⟨hk.1, Nat.lt_of_lt_of_le hk.2 hb6.size⟩))
      have HBB6 : Hid (Below b w w6) := Lib.hid (HBB5.out.trans (hb6.mono (Nat.le_of_lt HB5.out.lt)))
      clear hbk hb6 hw6 hB6 y0 y1 y2 y3 y4 lb5 HB5 HR5 HBB5 hh6
      by_cases hnz : 0 < n1
      · have hnz2 : (0 : Int) < (n1 : Int) := by omega
        go_wp2_with fail
        go_quiet (fail)
        go_wp2_with fail
        have hep : ep = 1 := by
          have h9 := HNM.out.2.1
          rw [← HEPI.out, if_neg (fun q => by rw [q] at h9; simp at h9; omega)]
        rw [hep]
        refine ⟨.inr (.inr ⟨rfl, (HBB6.out.trans ((below_drewN w6 nq).mono (Nat.le_of_lt HB6.out.lt))).setCell (p := ⟨b, 12, none⟩) (Nat.le_refl b) _, _, _, (by
          have h := (show Blk (w6.drewN nq) b _ _ from HB6.out).set 12 (.int .i64 1)
          rw [← HS5.out] at h
          exact h), (HR60.out.same (w' := w6.drewN nq) (fun k hk => (below_drewN w6 nq).block k hk.2)).same (w' := (w6.drewN nq).setCell ⟨b, 12, none⟩ (.int .i64 1)) (fun k hk => heap_setCell_other _ ⟨b, 12, none⟩ k _ (Nat.ne_of_gt hk.1)) |>.mono (fun k hk => ⟨hk.1, by simpa using hk.2⟩), (HR6.out.same (w' := w6.drewN nq) (fun k hk => (below_drewN w6 nq).block k hk.2)).same (w' := (w6.drewN nq).setCell ⟨b, 12, none⟩ (.int .i64 1)) (fun k hk => heap_setCell_other _ ⟨b, 12, none⟩ k _ (Nat.ne_of_gt hk.1)) |>.mono (fun k hk => ⟨hk.1, by simpa using hk.2⟩)⟩), by simp [intOf]⟩
      · have hnz2 : ¬ (0 : Int) < (n1 : Int) := by omega
        go_wp2_with fail
        go_quiet (fail)
        go_wp2_with fail
        have hep : ep = 0 := by
          have h9 := HNM.out.2.1
          rw [← HEPI.out, if_pos (List.eq_nil_of_length_eq_zero (by omega))]
        rw [hep]
        refine ⟨.inr (.inr ⟨rfl, HBB6.out.trans ((below_drewN w6 nq).mono (Nat.le_of_lt HB6.out.lt)), _, _, (by have h := HB6.out; rw [← HS5.out] at h; exact h), HR60.out.same (fun k hk => (below_drewN w6 nq).block k hk.2), HR6.out.same (fun k hk => (below_drewN w6 nq).block k hk.2)⟩), by simp [intOf]⟩
end
end Go.Proofs.YtcpcnfedbffecaaDoor
