/- Contract of (*Disk).Crash. -/
import Derived.Test.YtibojbbhffoldaaDiskS
import Derived.Laws.Slices
namespace Go.Proofs.Ytibojbbhffoldaa
open Go.RowKit Go.Maps
section
variable {w w' : World} {s : DSt} {b : Nat} {F G : Nat → Prop} {bd bm : Nat} {dvs : List Value} {pv : Value} {pvs : List (Nat × Value)} {D : DataW Unit}
/-- Behind k rounds of Crash's loop. -/
def CrashR (w : World) (s : DSt) (b : Nat) (F : Nat → Prop) (bd bm : Nat) (pv : Value) (pvs : List (Nat × Value)) (D : DataW Unit) (keep : List Bool) (t : Nat) (k : Nat) (first : Bool) (wr : World) : Prop :=
  Stp F w wr ∧ ∃ d dvs, DSt.crashGo keep t 0 true s.dur s.pend = DSt.crashGo keep t k first d (s.pend.drop k) ∧ DiskRep wr { s with dur := d } b (Plus F w wr) bd bm dvs pv pvs D
theorem DataV.front {W : World} {n kd m : Nat} {l : List UInt8} (h : DataV W F n (.slice (some ⟨kd, 0, none⟩) n n) l) (hm : m ≤ n) (hn : n ≤ 4096) : BV W F (.slice (some ⟨kd, 0, none⟩) m n) (l.take m) := by
  obtain ⟨k, e, hk, hb, rfl⟩ := h
  obtain rfl : kd = k := by simpa using e
  have hl : (l.take m).length = m := by simp; omega
  have := (BV.of_blk (c := l.length) (l := l.take m) hb (by rw [hl, By_take]) (by omega) (by unfold maxLen; omega)).mono (G := F) (fun _ e => e ▸ hk)
  rwa [hl] at this
/-- What the copy of a torn write leaves. -/
theorem torn_cells {n m : Nat} {l ol : List UInt8} (hl : l.length = n) (ho : ol.length = n) (hm : m ≤ n) :
    (By ol).take 0 ++ (By ((l.take m).take n) ++ (By ol).drop (0 + min (l.take m).length n)) = By (DSt.torn m l ol) := by
  have e1 : (l.take m).take n = l.take m := List.take_of_length_le (by simp; omega)
  have e2 : min (l.take m).length n = m := by simp; omega
  rw [e1, e2]
  simp [DSt.torn, By_append, By_drop]
set_option maxRecDepth 100000 in
set_option maxHeartbeats 4000000 in
theorem crash_loop (h : DiskRep w s b F bd bm dvs pv pvs D) (hp : s.pend.length < 1000000) (kv : Value) (keep : List Bool) (hk : BoolsV w G kv keep) (hkF : Dj G F) (tn : Int) :
    Calls Try.prog 27 #[.pointer (some ⟨b, 0, none⟩), kv, .int .i64 tn] w (DiskP w b F (s.crash keep tn) (.tuple #[])) := by
  obtain ⟨a, c, rfl⟩ := h.pvForm
  have q2 := h.cells.cell (i := 2) rfl
  have hss := h.ok.size2
  have htb : (tn < 0 ∧ s.tornBytes tn = 0) ∨ (0 ≤ tn ∧ tn ≤ (s.size : Int) ∧ s.tornBytes tn = tn.toNat) ∨ ((s.size : Int) < tn ∧ s.tornBytes tn = s.size) := by
    unfold DSt.tornBytes; omega
  have ecr : s.crash keep tn = { s with dur := DSt.crashGo keep (s.tornBytes tn) 0 true s.dur s.pend, pend := [], after := -1, down := false } := rfl
  rw [ecr]
  clear ecr
  generalize s.tornBytes tn = tb at *
  have Hin := Lib.hid h.inn
  obtain ⟨ka, kc, rfl, kl1, kl2, hkc⟩ := hk.get
  have Hk := Lib.hid hkc
  have kin : Hid (∀ i, i < keep.length → ∃ bk o, ka = some ⟨bk, o, none⟩ ∧ ∀ wr, Stp F w wr → wr.cell? ⟨bk, o + i, none⟩ = some (.bool (keep.getD i false))) := fun i hi => by
    obtain ⟨bk, o, e, hg, hc⟩ := hkc i hi
    refine ⟨bk, o, e, fun wr st => ?_⟩
    rw [World.cell?_of_block (w := w) (a := ⟨bk, o + i, none⟩) (st.keep bk (block_lt_of_cell hc) (hkF bk hg)), hc]
    simp [List.getD, hi]
  have H := Lib.hid h
  have Hbd := Lib.hid h.Fbd
  have Hb := Lib.hid h.Fb
  clear h hk hkc Hk
  unfold maxLen at kl2
  go_enter Try.func27, Try.ntmps27
  go_wp2_with fail
  clear q2
  go_loopw [15, 6] (fun i f wr => ∃ (k : Nat) (first : Bool), k ≤ s.pend.length ∧ i = .int .i64 (k : Int) ∧ f = .bool first ∧ CrashR w s b F bd bm (.slice a s.pend.length c) pvs D keep tb k first wr) (fun i _ _ => s.pend.length - (intOf i).toNat)
  case atStart => exact ⟨0, true, Nat.zero_le _, rfl, rfl, Stp.refl _ _, s.dur, dvs, rfl, H.out.mono (fun _ hx => .inl hx) (Plus.inn Hin.out (Nat.le_refl _))⟩
  case round =>
    obtain ⟨k, first, hk, rfl, rfl, hst, d, dvs', hgo, hr⟩ := hrel
    by_cases hlt : k < s.pend.length
    · obtain ⟨g, cap, v, hpv, p1, p2, hdv, hmx⟩ := hr.pendAt k s.pend[k] (by simp [hlt])
      obtain ⟨rfl, rfl⟩ : a = some ⟨g, 0, none⟩ ∧ c = cap := by simpa using hpv
      obtain ⟨kd, rfl⟩ : ∃ kd, v = .slice (some ⟨kd, 0, none⟩) s.size s.size := by obtain ⟨kd, e, _⟩ := hdv; exact ⟨kd, e⟩
      have hq := hr.ok.pend s.pend[k] (List.getElem_mem hlt)
      have c0 := hr.cells.cell (i := 0) rfl
      have q1 := hr.cells.cell (i := 1) rfl
      have lb := hr.cells.lt
      have lg := block_lt_of_cell p1
      have lbd := hr.durs.lt
      have hn2 := hr.ok.n2
      have hs2 := hr.ok.size2
      have hq1 := hq.1
      have hx : (s.pend[k]).1 < dvs'.length := by rw [hr.dur.1]; exact hq.1
      obtain ⟨old, hold⟩ : ∃ v, dvs'[(s.pend[k]).1]? = some v := ⟨_, List.getElem?_eq_getElem hx⟩
      have d1 := hr.durs.cell hold
      have fd := hr.durs.free (s.pend[k]).1
      obtain ⟨ol, hol, hro⟩ := hr.dur.get' hold
      simp only at q1 hq1 hn2 hs2 c0
      have Hdrop : Hid (s.pend.drop k = s.pend[k] :: s.pend.drop (k + 1)) := List.drop_eq_getElem_cons hlt
      have Holl := Lib.hid (hr.ok.dur ol (List.mem_of_getElem? hol))
      have Hr := Lib.hid hr; clear hr
      have Hd := Lib.hid hdv; clear hdv
      have Hq := Lib.hid hq; clear hq
      have Hs := Lib.hid hst
      have Hro := Lib.hid hro; clear hro
      have Hol := Lib.hid hol; clear hol
      have Hgo := Lib.hid hgo; clear hgo
      clear hpv hmx hx hold
      generalize hqq : s.pend[k] = q at *
      have Hqq := Lib.hid hqq; clear hqq
      obtain ⟨q, l⟩ := q
      simp only at *
      have hcase : (k < keep.length ∧ keep.getD k false = true) ∨ (k < keep.length ∧ keep.getD k false = false) ∨ ¬ k < keep.length := by
        by_cases h1 : k < keep.length
        · cases keep.getD k false
          · exact .inr (.inl ⟨h1, rfl⟩)
          · exact .inl ⟨h1, rfl⟩
        · exact .inr (.inr h1)
      rcases hcase with ⟨h1, hkb⟩ | hcase
      · obtain ⟨bk, o, rfl, hkc⟩ := kin.out k h1
        have kc1 := hkc wr hst
        rw [hkb] at kc1
        have lk := block_lt_of_cell kc1
        have Hkb := Lib.hid hkb
        clear hst hkc hkb
        go_wp2
        go_region
        go_wp2
        go_roundw
        case rel =>
          refine ⟨k + 1, first, by omega, by go_num, rfl, ((Hs.out.set (a := ⟨bd, q, none⟩) (.inl Hr.out.Fbd) _).alloc _).drew, d.set q l, dvs'.set q (.slice (some ⟨kd, 0, none⟩) s.size s.size), ?_, ?_⟩
          · rw [Hgo.out, Hdrop.out, DSt.crashGo, if_pos Hkb.out]
          · exact (Hr.out.putLater Hq.out.2 Hd.out).later (((Below.refl _ _).alloc (Nat.le_refl _) _).drew)
        case measure => simp [intOf]; omega
      · have Hkb : Hid (keep.getD k false = false) := by
          rcases hcase with h1 | h1
          · exact h1.2
          · show keep.getD k false = false
            rw [List.getD, List.getElem?_eq_none (by omega)]; rfl
        have Hcase : Hid (k < keep.length → ∃ bk o, ka = some ⟨bk, o, none⟩ ∧ bk < wr.heap.size ∧ wr.cell? ⟨bk, o + k, none⟩ = some (.bool false)) := fun h1 => by
          obtain ⟨bk, o, e, hkc⟩ := kin.out k h1
          have kc1 := hkc wr hst
          rw [Hkb.out] at kc1
          exact ⟨bk, o, e, block_lt_of_cell kc1, kc1⟩
        have hc2 : k < keep.length ∨ ¬ k < keep.length := by omega
        clear hcase hst
        rcases hc2 with h1 | h1
        rotate_left
        have lk : True := trivial
        have kc1 : True := trivial
        rotate_left
        obtain ⟨bk, o, rfl, lk, kc1⟩ := Hcase.out h1
        all_goals
          cases first
          · go_wp2
            go_roundw
            case rel =>
              refine ⟨k + 1, false, by omega, by go_num, rfl, Hs.out.alloc _, d, dvs', ?_, Hr.out.later ((Below.refl _ _).alloc (Nat.le_refl _) _)⟩
              rw [Hgo.out, Hdrop.out, DSt.crashGo, if_neg (by rw [Hkb.out]; simp)]; simp
            case measure => simp [intOf]; omega
          · go_wp2
            have A := (Below.refl wr.heap.size wr).alloc (Nat.le_refl _) (.cells #[.int .i64 (q : Int), .slice (some ⟨kd, 0, none⟩) s.size s.size] 67)
            have x0 := heap_alloc_new wr (.cells #[.int .i64 (q : Int), .slice (some ⟨kd, 0, none⟩) s.size s.size] 67)
            have x1 : Blk (wr.alloc (.cells #[.int .i64 (q : Int), .slice (some ⟨kd, 0, none⟩) s.size s.size] 67)) wr.heap.size [.int .i64 (q : Int), .slice (some ⟨kd, 0, none⟩) s.size s.size] 67 := x0
            have b0 := x1.cell (i := 0) rfl
            have b1 := x1.cell (i := 1) rfl
            have c0w := (A.cell (p := ⟨b, 0, none⟩) lb).trans c0
            have q1w := (A.cell (p := ⟨b, 1, none⟩) lb).trans q1
            have d1w := (A.cell (p := ⟨bd, q, none⟩) lbd).trans d1
            have fdw := (A.frozen (p := ⟨bd, q, none⟩) lbd).trans fd
            have Hs2 := Lib.hid (Hs.out.alloc (.cells #[.int .i64 (q : Int), .slice (some ⟨kd, 0, none⟩) s.size s.size] 67))
            have Hr2 := Lib.hid (Hr.out.later A)
            have hsz : (wr.alloc (.cells #[.int .i64 (q : Int), .slice (some ⟨kd, 0, none⟩) s.size s.size] 67)).heap.size = wr.heap.size + 1 := by simp
            have Hd2 := Lib.hid (Hd.out.same (w' := wr.alloc (.cells #[.int .i64 (q : Int), .slice (some ⟨kd, 0, none⟩) s.size s.size] 67)) (fun x hx => A.block x (Hr.out.inn x hx)))
            have Hro2 := Lib.hid (Hro.out.same (w' := wr.alloc (.cells #[.int .i64 (q : Int), .slice (some ⟨kd, 0, none⟩) s.size s.size] 67)) (fun x hx => A.block x (Hr.out.inn x hx)))
            generalize wr.alloc (.cells #[.int .i64 (q : Int), .slice (some ⟨kd, 0, none⟩) s.size s.size] 67) = W at *
            have AA := Lib.hid A
            have Hr2old := Lib.hid Hr.out.inn
            clear x0 x1 A c0 q1 d1 fd p1 p2 kc1 Hs Hr Hd Hro
            have lbW : b < W.heap.size := by omega
            have lbdW : bd < W.heap.size := by omega
            have lxW : wr.heap.size < W.heap.size := by omega
            obtain ⟨ol', hob, hol', hfo⟩ := Hro2.out.fills hs2
            have C := Lib.hid (filled_any b s.size old ol' _ W.drew c0w hs2 hol' hob)
            clear hob hol'
            have Hfo := Lib.hid hfo; clear hfo
            have Hsz := Lib.hid hsz; clear hsz
            go_still_tail 9, (by kernel_rfl)
            go_wp2_with (go_at_call 32; refine (C.out).mono ?_; rintro e w' ⟨rfl, rfl⟩)
            have A2 := ((Below.refl W.heap.size W).alloc (Nat.le_refl _) (.cells (By (fill s.size ol')).toArray 5)).drew
            have y0 : Blk (W.alloc (.cells (By (fill s.size ol')).toArray 5)).drew W.heap.size (By (fill s.size ol')) 5 := Blk.new W _ _
            have b0' := (A2.cell (p := ⟨wr.heap.size, 0, none⟩) lxW).trans b0
            have b1' := (A2.cell (p := ⟨wr.heap.size, 1, none⟩) lxW).trans b1
            have c0' := (A2.cell (p := ⟨b, 0, none⟩) lbW).trans c0w
            have q1' := (A2.cell (p := ⟨b, 1, none⟩) lbW).trans q1w
            have d1' := (A2.cell (p := ⟨bd, q, none⟩) lbdW).trans d1w
            have fd' := (A2.frozen (p := ⟨bd, q, none⟩) lbdW).trans fdw
            have hsz2 : (W.alloc (.cells (By (fill s.size ol')).toArray 5)).drew.heap.size = W.heap.size + 1 := by simp
            have Hd3 := Lib.hid (Hd2.out.same (w' := (W.alloc (.cells (By (fill s.size ol')).toArray 5)).drew) (fun x hx => A2.block x (Nat.lt_of_lt_of_le (Hr2old.out x hx) (by omega))))
            have Hs3 := Lib.hid (Hs2.out.alloc (.cells (By (fill s.size ol')).toArray 5)).drew
            have Hr3 := Lib.hid (Hr2.out.later A2)
            generalize (W.alloc (.cells (By (fill s.size ol')).toArray 5)).drew = W2 at *
            have AA2 := Lib.hid A2; clear A2
            rw [Hfo.out] at y0
            have Y := Lib.hid y0; clear y0
            have lb2 : b < W2.heap.size := by omega
            have lbd2 : bd < W2.heap.size := by omega
            have lx2 : wr.heap.size < W2.heap.size := by omega
            have ly2 : W.heap.size < W2.heap.size := by omega
            have Hsz2 := Lib.hid hsz2; clear hsz2
            clear b1 c0w C
            go_wp2
            rcases htb with ⟨ht, htb⟩ | ⟨ht1, ht2, htb⟩ | ⟨ht, htb⟩
            have hz : ¬ ((s.size : Int) < 0) := by omega
            go_still_tail 11, (by kernel_rfl)
            refine wpList_copy_bytes rfl (.tmp 52) (.tmp 62) _ _ rfl 5 Try.underlying22 Try.sizeByte W.heap.size 0 s.size s.size (by rfl) (Plus F w wr) (.slice (some ⟨kd, 0, none⟩) 0 s.size) (by rfl) (l.take 0) (Hd3.out.front (by omega) hs2) (By ol) 5 Y.out (by have : ol.length = s.size := Holl.out; rw [By_length]; omega) ?_
            rw [torn_cells Hq.out.2 Holl.out (by omega), show DSt.torn 0 l ol = DSt.torn tb l ol from by rw [htb]]
            change wpList _ _ _ _ _ (W2.drew.setRow W.heap.size (By (DSt.torn tb l ol)).toArray)
            rotate_left
            have Htb := Lib.hid htb; clear htb
            obtain ⟨m, rfl⟩ := Int.eq_ofNat_of_zero_le ht1
            have hm : m ≤ s.size := by omega
            have hm2 : ¬ s.size < m := by omega
            have hm3 : ¬ (s.size : Int) < (m : Int) := by omega
            have hm4 : ¬ (m : Int) < 0 := by omega
            simp only [Int.toNat_natCast] at Htb
            go_still_tail 11, (by kernel_rfl)
            refine wpList_copy_bytes rfl (.tmp 52) (.tmp 62) _ _ rfl 5 Try.underlying22 Try.sizeByte W.heap.size 0 s.size s.size (by rfl) (Plus F w wr) (.slice (some ⟨kd, 0, none⟩) m s.size) (by rfl) (l.take m) (Hd3.out.front (by omega) hs2) (By ol) 5 Y.out (by have : ol.length = s.size := Holl.out; rw [By_length]; omega) ?_
            rw [torn_cells Hq.out.2 Holl.out (by omega), show DSt.torn m l ol = DSt.torn tb l ol from by rw [Htb.out]]
            change wpList _ _ _ _ _ (W2.drew.setRow W.heap.size (By (DSt.torn tb l ol)).toArray)
            rotate_left
            have ht1 : 0 ≤ tn := by omega
            have hm4 : ¬ tn < 0 := by omega
            have hm5 : ¬ (s.size : Int) < 0 := by omega
            have hm6 : (0 : Int) ≤ (s.size : Int) := by omega
            go_still_tail 11, (by kernel_rfl)
            refine wpList_copy_bytes rfl (.tmp 52) (.tmp 62) _ _ rfl 5 Try.underlying22 Try.sizeByte W.heap.size 0 s.size s.size (by rfl) (Plus F w wr) (.slice (some ⟨kd, 0, none⟩) s.size s.size) (by rfl) (l.take s.size) (Hd3.out.front (by omega) hs2) (By ol) 5 Y.out (by have : ol.length = s.size := Holl.out; rw [By_length]; omega) ?_
            rw [torn_cells Hq.out.2 Holl.out (by omega), show DSt.torn s.size l ol = DSt.torn tb l ol from by rw [htb]]
            change wpList _ _ _ _ _ (W2.drew.setRow W.heap.size (By (DSt.torn tb l ol)).toArray)
            rotate_left
            all_goals
              have A3 : Below W.heap.size W (W2.drew.setRow W.heap.size (By (DSt.torn tb l ol)).toArray) := below_setRow AA2.out.drew (Nat.le_refl _) _
              have Y3 : Blk (W2.drew.setRow W.heap.size (By (DSt.torn tb l ol)).toArray) W.heap.size (By (DSt.torn tb l ol)) 5 := Y.out.setRow _
              have hsz3 : W2.heap.size ≤ (W2.drew.setRow W.heap.size (By (DSt.torn tb l ol)).toArray).heap.size := by simp
              generalize W2.drew.setRow W.heap.size (By (DSt.torn tb l ol)).toArray = W3 at *
              have b0' := (A3.cell (p := ⟨wr.heap.size, 0, none⟩) lxW).trans b0
              have q1' := (A3.cell (p := ⟨b, 1, none⟩) lbW).trans q1w
              have d1' := (A3.cell (p := ⟨bd, q, none⟩) lbdW).trans d1w
              have fd' := (A3.frozen (p := ⟨bd, q, none⟩) lbdW).trans fdw
              have AA3 := Lib.hid A3; clear A3
              have YY3 := Lib.hid Y3; clear Y3
              clear b0 q1w d1w fdw
              go_wp2
              go_region
              go_wp2
              go_roundw
              case measure => simp [intOf]; omega
              case rel =>
                have st3 : Stp F w W3 := Hs2.out.trans (Stp.of_below _ AA3.out)
                have hsz4 : w.heap.size ≤ W.heap.size := Hs2.out.size
                refine ⟨k + 1, false, by omega, by go_num, rfl, (st3.set (a := ⟨bd, q, none⟩) (.inl (.inl Hbd.out)) _).drew, d.set q (DSt.torn tb l ol), dvs'.set q (.slice (some ⟨W.heap.size, 0, none⟩) s.size s.size), ?_, ?_⟩
                · rw [Hgo.out, Hdrop.out, DSt.crashGo, if_neg (by rw [Hkb.out]; simp), if_pos rfl]
                  have e : d.getD q [] = ol := by simp [List.getD, Hol.out]
                  rw [e]
                · exact ((Hr2.out.later AA3.out).putLater (DSt.torn_length Hq.out.2 Holl.out) ⟨W.heap.size, rfl, .inr ⟨hsz4, by omega⟩, YY3.out, DSt.torn_length Hq.out.2 Holl.out⟩).later ((Below.refl _ _).drew)
    · obtain rfl : k = s.pend.length := by omega
      rw [List.drop_length, DSt.crashGo] at hgo
      have g2 := hr.cells.cell (i := 2) rfl
      have g3 := hr.cells.cell (i := 3) rfl
      have f2 := hr.cells.free 2
      have f3 := hr.cells.free 3
      have V := Lib.hid (forget_any b _ _ wr g2 g3 f2 f3)
      obtain ⟨R1, R2⟩ := hr.forgot
      simp only at R1 R2
      have lb := hr.cells.lt
      have g4 := hr.cells.cell (i := 4) rfl
      have g5 := hr.cells.cell (i := 5) rfl
      have f4 := hr.cells.free 4
      have f5 := hr.cells.free 5
      have Hs := Lib.hid (hst.trans R1)
      have Hr := Lib.hid R2
      have Hgo := Lib.hid hgo
      have hwr := Lib.hid hst.size
      clear hr hst R1 R2 hgo
      go_wp2_with (go_at_call 34; refine (V.out).mono ?_; rintro e w' ⟨rfl, rfl⟩)
      go_end0
      rw [← World.setCell_alloc_past (w := (((wr.setCell ⟨b, 2, none⟩ (.slice none 0 0)).setCell ⟨b, 3, none⟩ (.map (some wr.heap.size))).setCell ⟨b, 4, none⟩ (.int .i64 (-1)))) _ b 5 _ (by simpa using lb),
        ← World.setCell_alloc_past (w := ((wr.setCell ⟨b, 2, none⟩ (.slice none 0 0)).setCell ⟨b, 3, none⟩ (.map (some wr.heap.size)))) _ b 4 _ (by simpa using lb)]
      have sz := Hr.out.cells.lt
      have T := Hr.out.turn (w' := ((((wr.setCell ⟨b, 2, none⟩ (.slice none 0 0)).setCell ⟨b, 3, none⟩ (.map (some wr.heap.size))).alloc (.map #[] 0)).setCell ⟨b, 4, none⟩ (.int .i64 (-1))).setCell ⟨b, 5, none⟩ (.bool false))
        (fun k hk => by rw [Below.heap_setCell _ _ _ _ hk, Below.heap_setCell _ _ _ _ hk]) (by simp) (-1) false (by omega) (by omega) ((Hr.out.cells.set 4 _).set 5 _)
      have st := (Hs.out.set (a := ⟨b, 4, none⟩) (.inl (.inl Hb.out)) (.int .i64 (-1))).set (a := ⟨b, 5, none⟩) (.inl (.inl Hb.out)) (.bool false)
      rw [Hgo.out]
      refine ⟨rfl, st, DiskAt.mono ⟨_, _, _, _, _, _, T⟩ ?_ (Plus.inn Hin.out st.size)⟩
      have := hwr.out
      intro x hx
      rcases hx with hx | hx
      · rcases hx with hx | hx
        · exact .inl hx
        · exact .inr ⟨hx.1, by simp; omega⟩
      · exact .inr ⟨by omega, by simpa using hx.2⟩
end
end Go.Proofs.Ytibojbbhffoldaa
