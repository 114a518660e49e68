/- How a journal lies in memory; contracts of its small functions. -/
import Derived.Test.YtcpcnfedbffecaaDoorJnA
import Derived.StillTailTactics
import Derived.Deep.QuietTactic
import Derived.BigQuiet
namespace Go.Proofs.YtcpcnfedbffecaaDoor
open Go.RowKit Go.Maps
set_option linter.unusedSimpArgs false
def Str (l : List UInt8) : Value := .string ⟨l.toArray⟩
def z32 : List UInt8 := List.replicate 32 0
def hcells (first epoch used : Nat) (rv : Value) (last : List UInt8) : List Value := [.int .i64 (first : Int), .int .i64 (epoch : Int), .int .i64 (used : Int), rv, Str last]
structure JSt where
  f0 : Nat
  f1 : Nat
  room : Nat
  epoch : Nat
  used : Nat
  recs : List (List UInt8)
  last : List UInt8
def JSt.first (t : JSt) : Nat := if t.epoch % 2 = 0 then t.f0 else t.f1
def JSt.pre (t : JSt) (bd : Nat) : List Value := [.pointer (some ⟨bd, 0, none⟩), .int .i64 (t.room : Int)] ++ if t.epoch % 2 = 0 then [] else hcells t.f0 0 0 (.slice none 0 0) z32
def JSt.post (t : JSt) : List Value := (if t.epoch % 2 = 0 then hcells t.f1 0 0 (.slice none 0 0) z32 else []) ++ [.int .i64 (t.epoch : Int), .bool false]
/-- A half of a journal: five cells of a block. -/
def HalfAt (w : World) (F : Nat → Prop) (hb : Nat) (P Q : List Value) (T : TypeId) (first epoch used : Nat) (recs : List (List UInt8)) (last : List UInt8) : Prop :=
  Inn F w ∧ F hb ∧ T ≠ 39 ∧ T ≠ 5 ∧ ∃ rv, Blk w hb (P ++ hcells first epoch used rv last ++ Q) T ∧ RecsV w F rv recs
/-- At block b lies a journal over the disk at bd. -/
def JAt (w : World) (t : JSt) (b bd : Nat) (F : Nat → Prop) : Prop := HalfAt w F b (t.pre bd) t.post 57 t.first t.epoch t.used t.recs t.last
section
variable {w w' w0 : World} {F G : Nat → Prop} {t : JSt} {s : DSt} {b bd hb : Nat} {P Q : List Value} {T : TypeId} {first epoch used : Nat} {recs : List (List UInt8)} {last : List UInt8} {rv v : Value}
theorem HalfAt.same (h : HalfAt w F hb P Q T first epoch used recs last) (hs : Same F w w') (hw : w.heap.size ≤ w'.heap.size) : HalfAt w' F hb P Q T first epoch used recs last := by
  obtain ⟨hI, hF, t1, t2, rv, hB, hR⟩ := h
  exact ⟨fun k hk => Nat.lt_of_lt_of_le (hI k hk) hw, hF, t1, t2, rv, hs.blk hF hB, hR.same hs⟩
theorem HalfAt.below (h : HalfAt w F hb P Q T first epoch used recs last) (hw : Below w.heap.size w w') : HalfAt w' F hb P Q T first epoch used recs last := h.same (fun k hk => hw.block k (h.1 k hk)) hw.size
theorem HalfAt.mono (h : HalfAt w F hb P Q T first epoch used recs last) (hs : ∀ k, F k → G k) (hG : Inn G w) : HalfAt w G hb P Q T first epoch used recs last := by
  obtain ⟨hI, hF, t1, t2, rv, hB, hR⟩ := h
  exact ⟨hG, hs _ hF, t1, t2, rv, hB, hR.mono hs⟩
theorem Blk.half (h : Blk w hb (P ++ hcells first epoch used rv last ++ Q) T) {o : Nat} (ho : P.length = o) :
    w.cell? ⟨hb, o, none⟩ = some (.int .i64 (first : Int)) ∧ w.cell? ⟨hb, o + 1, none⟩ = some (.int .i64 (epoch : Int)) ∧ w.cell? ⟨hb, o + 2, none⟩ = some (.int .i64 (used : Int)) ∧ w.cell? ⟨hb, o + 3, none⟩ = some rv ∧ w.cell? ⟨hb, o + 4, none⟩ = some (Str last) := by
  subst ho
  refine ⟨h.cell ?_, h.cell ?_, h.cell ?_, h.cell ?_, h.cell ?_⟩ <;> simp [hcells]
theorem JAt.rep (h : JAt w t b bd F) : ∃ rv, Blk w b (t.pre bd ++ hcells t.first t.epoch t.used rv t.last ++ t.post) 57 ∧ RecsV w F rv t.recs := by
  obtain ⟨_, _, _, _, h⟩ := h; exact h
theorem JSt.pre_length (t : JSt) (bd : Nat) : (t.pre bd).length = 2 + 5 * (t.epoch % 2) := by
  unfold JSt.pre
  have := Nat.mod_lt t.epoch (show 0 < 2 by omega)
  by_cases h : t.epoch % 2 = 0
  · simp [h]
  · have h1 : t.epoch % 2 = 1 := by omega
    simp [h1, hcells]
theorem Blk.journal (h : Blk w b (t.pre bd ++ hcells t.first t.epoch t.used rv t.last ++ t.post) T) :
    w.cell? ⟨b, 0, none⟩ = some (.pointer (some ⟨bd, 0, none⟩)) ∧ w.cell? ⟨b, 1, none⟩ = some (.int .i64 (t.room : Int)) ∧ w.cell? ⟨b, 12, none⟩ = some (.int .i64 (t.epoch : Int)) ∧ w.cell? ⟨b, 13, none⟩ = some (.bool false) := by
  unfold JSt.pre JSt.post at h
  by_cases he : t.epoch % 2 = 0
  · rw [if_pos he, if_pos he] at h
    exact ⟨h.cell rfl, h.cell rfl, h.cell rfl, h.cell rfl⟩
  · rw [if_neg he, if_neg he] at h
    exact ⟨h.cell rfl, h.cell rfl, h.cell rfl, h.cell rfl⟩
theorem results_half {P : Program} {fn : Func} {p : Tmp} {ty : TypeId} (h : fn.results = #[.cell p ty]) (tmps : Array Value) (w : World) (g : Nat) (t : TypeId) (cs : Array Value) (fr : Nat × Nat) (d : TypeDesc)
    (hp : tmps.getD p undef = .pointer (some ⟨g, 0, none⟩)) (hg : w.heap[g]? = some (.cells cs t fr))
    (hu : P.underlying ty = some d) (hd : (match d with | .struct _ | .array _ _ => true | _ => false) = true) (hi : (P.info? ty).map (·.size) = some cs.size) :
    (results fn tmps).run P w = .ok (.agg cs) w := by
  have hp' : tmps[p]?.getD undef = .pointer (some ⟨g, 0, none⟩) := by simpa using hp
  simp [results, h, hp', asAddr, run_loadVar_row w g t ty cs fr d hg hu hd hi]
theorem Tryd.sizeHalf : (Tryd.prog.info? 54).map (·.size) = some 5 := by kernel_rfl
theorem ret_half {fn : Func} {p : Tmp} (h : fn.results = #[.cell p 54]) {tmps : Array Value} {w : World} {g : Nat} {c0 c1 c2 c3 c4 : Value} {R : Ending → World → Prop} {ds : List Deferred}
    (hp : tmps.getD p undef = .pointer (some ⟨g, 0, none⟩)) (hb : Blk w g [c0, c1, c2, c3, c4] 54) (hds : ds = []) (hR : R (.returned (.agg #[c0, c1, c2, c3, c4])) w) :
    bodyPost Tryd.prog fn R .ret ⟨tmps, ds⟩ w :=
  bodyPost_ret (results_half h tmps w g _ _ _ _ hp hb Tryd.underlying54 rfl Tryd.sizeHalf) hds hR
set_option maxRecDepth 100000 in
set_option maxHeartbeats 400000 in
theorem newhalf_any (first epoch : Nat) (w : World) :
    Calls Tryd.prog 25 #[.int .i64 (first : Int), .int .i64 (epoch : Int)] w fun e w' => e = .returned (.agg #[.int .i64 (first : Int), .int .i64 (epoch : Int), .int .i64 0, .slice none 0 0, Str z32]) ∧ Below w.heap.size w w' := by
  obtain ⟨Z, hZ⟩ : ∃ Z : Array Value, (List.replicate 32 (Value.int .u8 0)).toArray = Z := ⟨_, rfl⟩
  have hmk : ∀ W : World, (Instr.makeSlice 39 (.int .i64 32) (.int .i64 32)).run Tryd.prog W = .ok (.slice (some ⟨W.heap.size, 0, none⟩) 32 32) (W.alloc (.cells Z 5)) := fun W => by
    rw [← hZ]; exact run_make_n W 39 5 (.int .u8 0) 1 32 32 Tryd.underlying39 Tryd.infoByte rfl (Nat.le_refl _) (by omega) (by unfold maxLen; omega)
  have hz : Blk ((w.alloc (.cells #[.int .i64 0, .int .i64 0, .int .i64 0, .slice none 0 0, .string ⟨#[]⟩] 54)).alloc (.cells Z 5)) (w.heap.size + 1) (List.replicate 32 (.int .u8 0)) 5 := by
    rw [← hZ]; exact Blk.newAt _ _ _ (by simp)
  have hbv : BV ((w.alloc (.cells #[.int .i64 0, .int .i64 0, .int .i64 0, .slice none 0 0, .string ⟨#[]⟩] 54)).alloc (.cells Z 5)) (· = w.heap.size + 1) (.slice (some ⟨w.heap.size + 1, 0, none⟩) 32 32) z32 :=
    BV.of_blk (l := z32) (c := 32) hz (by rw [z32, By_zero]; rfl) (by simp [z32]) (by unfold maxLen; omega)
  have hcv := run_toString (P := Tryd.prog) hbv 39 5 9 Tryd.underlying39 Tryd.underlying5 Tryd.underlying9
  obtain ⟨zs, hzs⟩ : ∃ zs : ByteArray, (⟨z32.toArray⟩ : ByteArray) = zs := ⟨_, rfl⟩
  have eS : Str z32 = .string zs := by rw [← hzs]; rfl
  rw [hzs] at hcv
  rw [eS]
  clear hz hbv hZ hzs eS
  go_enter Tryd.func25, Tryd.ntmps25
  go_wp2_with fail
  refine ret_half rfl (g := w.heap.size) rfl ((Blk.new w [.int .i64 (first : Int), .int .i64 (epoch : Int), .int .i64 0, .slice none 0 0, .string zs] _).alloc _) rfl ?_
  exact ⟨rfl, ((Below.refl _ _).alloc (Nat.le_refl _) _).alloc (by simp) _⟩
set_option maxRecDepth 100000 in
set_option maxHeartbeats 400000 in
theorem epoch_any (h : JAt w t b bd F) : Calls Tryd.prog 14 #[.pointer (some ⟨b, 0, none⟩)] w fun e w' => e = .returned (.int .i64 (t.epoch : Int)) ∧ w = w' := by
  obtain ⟨rv, hB, -⟩ := h.rep
  obtain ⟨c0, c1, c2, c3⟩ := hB.journal
  clear hB h
  go_enter Tryd.func14, Tryd.ntmps14
  go_wp2
  go_ret
  exact ⟨rfl, rfl⟩
set_option maxRecDepth 100000 in
set_option maxHeartbeats 400000 in
theorem current_any (h : JAt w t b bd F) (he : t.epoch < 1000000000) : Calls Tryd.prog 27 #[.pointer (some ⟨b, 0, none⟩)] w fun e w' => e = .returned (.pointer (some ⟨b, (t.pre bd).length, none⟩)) ∧ ∃ k, w' = w.drewN k := by
  obtain ⟨rv, hB, -⟩ := h.rep
  obtain ⟨c0, c1, c2, c3⟩ := hB.journal
  rw [JSt.pre_length]
  clear hB h
  have h2 := Nat.mod_lt t.epoch (show 0 < 2 by omega)
  have ht : ((t.epoch : Int)).tmod 2 = ((t.epoch % 2 : Nat) : Int) := by rw [Int.tmod_eq_emod_of_nonneg (by omega)]; rfl
  rcases (show t.epoch % 2 = 0 ∨ t.epoch % 2 = 1 by omega) with hm | hm <;> rw [hm] at ht ⊢
  · have ht' : ((t.epoch : Int)).tmod 2 = 0 := ht
    clear ht h2 hm
    go_enter Tryd.func27, Tryd.ntmps27
    go_wp2_with fail
    go_still_tail 9, (by kernel_rfl)
    go_wp2_with fail
    go_ret
    exact ⟨rfl, 1, rfl⟩
  · have ht' : ((t.epoch : Int)).tmod 2 = 1 := ht
    clear ht h2 hm
    go_enter Tryd.func27, Tryd.ntmps27
    go_wp2_with fail
    go_still_tail 9, (by kernel_rfl)
    go_wp2_with fail
    go_ret
    exact ⟨rfl, 1, rfl⟩
theorem quiet_same {P : Program} {f : FuncId} {args : Array Value} {w : World} {n : Nat} {v : Value}
    (h : Calls P f args (w.drewN n) fun e w' => e = .returned v ∧ w.drewN n = w') : Calls P f args (w.drewN n) fun e w'' => e = .returned v ∧ ∃ m, w'' = w.drewN m :=
  h.mono fun _ _ ⟨he, hm⟩ => ⟨he, n, hm.symm⟩
theorem quiet_drewn {P : Program} {f : FuncId} {args : Array Value} {w : World} {n : Nat} {v : Value}
    (h : Calls P f args (w.drewN n) fun e w' => e = .returned v ∧ ∃ k, w' = (w.drewN n).drewN k) : Calls P f args (w.drewN n) fun e w'' => e = .returned v ∧ ∃ m, w'' = w.drewN m :=
  h.mono fun _ _ ⟨he, m, hm⟩ => ⟨he, n + m, by rw [hm, World.drewN_drewN]⟩
theorem below_drewN (w : World) (n : Nat) : Below w.heap.size w (w.drewN n) := ⟨rfl, rfl, rfl, Nat.le_refl _, fun _ _ => rfl⟩
set_option maxRecDepth 100000 in
set_option maxHeartbeats 400000 in
/-- How many sectors n bytes need. -/
theorem jsectors_any (hc : w.cell? ⟨b, 0, none⟩ = some (.pointer (some ⟨bd, 0, none⟩))) (hD : DiskAt w s bd G) (n : Nat) (hn : n ≤ 1000000000) :
    Calls Tryd.prog 38 #[.pointer (some ⟨b, 0, none⟩), .int .i64 (n : Int)] w fun e w' => e = .returned (.int .i64 (Jn.need s.size n : Int)) ∧ ∃ k, w' = w.drewN k := by
  have h1 := hD.ok.size1
  have h2 := hD.ok.size2
  have HD : Hid (∀ n, DiskAt (w.drewN n) s bd G) := Lib.hid (fun n => hD.below (below_drewN w n))
  have hq : ((n : Int) + (s.size : Int) - 1).tdiv (s.size : Int) = (Jn.need s.size n : Int) := by
    rw [Int.tdiv_eq_ediv_of_nonneg (by omega)]
    unfold Jn.need
    rw [show (n : Int) + (s.size : Int) - 1 = ((n + s.size - 1 : Nat) : Int) from by omega]
    rfl
  have hnb : Jn.need s.size n ≤ 2000000000 := by
    unfold Jn.need
    have := Nat.div_le_self (n + s.size - 1) s.size
    omega
  clear hD
  go_enter Tryd.func38, Tryd.ntmps38
  go_wp2_with fail
  go_quiet (first | (go_at_call 23; refine quiet_same (size_any (HD.out _))))
  go_wp2_with fail
  go_ret
  exact ⟨rfl, _, rfl⟩
theorem setCell_self {L : List Value} {i : Nat} (h : Blk w b L T) (hi : L[i]? = some v) : w.setCell ⟨b, i, none⟩ v = w := by
  have hL : L.set i v = L := by
    apply List.ext_getElem?
    intro j
    rw [List.getElem?_set]
    by_cases hj : i = j
    · subst hj
      rw [if_pos rfl, hi, if_pos (List.getElem?_eq_some_iff.1 hi).1]
    · rw [if_neg hj]
  have e : (w.setCell ⟨b, i, none⟩ v).heap = w.heap := by
    apply Array.ext_getElem?
    intro k
    by_cases hk : k = b
    · subst hk
      have h1 := h.set i v
      rw [hL] at h1
      exact h1.trans h.symm
    · exact heap_setCell_other w ⟨b, i, none⟩ k v hk
  have ext : ∀ (u u' : World), u'.heap = u.heap → u'.tape = u.tape → u'.drawn = u.drawn → u'.os = u.os → u'.output = u.output → u' = u := by
    rintro ⟨⟩ ⟨⟩ h1 h2 h3 h4 h5
    simp only at h1 h2 h3 h4 h5
    subst h1; subst h2; subst h3; subst h4; subst h5; rfl
  exact ext _ _ e rfl rfl rfl rfl
set_option maxRecDepth 100000 in
set_option maxHeartbeats 400000 in
theorem available_any (h : JAt w t b bd F) (hD : DiskAt w s bd G) (hs : s.down = false) :
    Calls Tryd.prog 33 #[.pointer (some ⟨b, 0, none⟩)] w fun e w' => e = .returned (.bool true) ∧ w = w' := by
  obtain ⟨rv, hB, -⟩ := h.rep
  obtain ⟨c0, c1, c2, c3⟩ := hB.journal
  have f3 := hB.free 13
  have hdown := down_any hD
  rw [hs] at hdown
  have HD := Lib.hid hdown
  have hL : (t.pre bd ++ hcells t.first t.epoch t.used rv t.last ++ t.post)[13]? = some (.bool false) := by
    unfold JSt.pre JSt.post
    by_cases he : t.epoch % 2 = 0
    · rw [if_pos he, if_pos he]; rfl
    · rw [if_neg he, if_neg he]; rfl
  have HS := Lib.hid (setCell_self hB hL)
  clear hB h hD hs hdown hL
  go_enter Tryd.func33, Tryd.ntmps33
  go_wp2_with (go_at_call 24; refine (HD.out).mono ?_; rintro e w' ⟨rfl, rfl⟩)
  go_ret
  exact ⟨rfl, HS.out.symm⟩
set_option maxRecDepth 100000 in
set_option maxHeartbeats 1000000 in
theorem jneed_any (hc : w.cell? ⟨b, 0, none⟩ = some (.pointer (some ⟨bd, 0, none⟩))) (hD : DiskAt w s bd G) {xv : Value} {l : List (List UInt8)} (hx : LV w F xv l) (hl : Jn.flen l ≤ 1000000000) (hl2 : l.length ≤ 1000000) :
    Calls Tryd.prog 34 #[.pointer (some ⟨b, 0, none⟩), xv] w fun e w' => e = .returned (.int .i64 (Jn.need s.size (Jn.flen l) : Int)) ∧ ∃ k, w' = w.drewN k := by
  obtain ⟨xa, xc, rfl, xc1, xc2, hget⟩ := hx.get
  have HG := Lib.hid hget
  have V := Lib.hid (jsectors_any hc hD (Jn.flen l) hl)
  have HST : Hid (∀ k, (h : k < l.length) → Jn.flen (l.take (k + 1)) = Jn.flen (l.take k) + (4 + l[k].length) ∧ Jn.flen (l.take k) + (4 + l[k].length) ≤ 1000000000) := Lib.hid (fun k hk => by
    have e : Jn.flen (l.take (k + 1)) = Jn.flen (l.take k) + (4 + l[k].length) := by
      unfold Jn.flen
      rw [Jn.recs_snoc l k hk]
      simp only [List.length_append, Jn.num_length]; omega
    refine ⟨e, ?_⟩
    rw [← e]
    have : (Jn.recs (l.take (k + 1))).length ≤ (Jn.recs l).length := by
      conv => rhs; rw [← List.take_append_drop (k + 1) l]
      unfold Jn.recs
      rw [List.flatMap_append, List.length_append]
      omega
    unfold Jn.flen at hl ⊢
    omega)
  obtain ⟨fl, hfl⟩ : ∃ fl, Jn.flen l = fl := ⟨_, rfl⟩
  have HFL := Lib.hid hfl
  rw [hfl] at V ⊢
  clear hx hget hc hD hl hfl
  go_enter Tryd.func34, Tryd.ntmps34
  go_wp2_with fail
  go_loopw [5, 10] (fun n i wr => ∃ k : Nat, k ≤ l.length ∧ i = .int .i64 (k : Int) ∧ w = wr ∧ n = .int .i64 (Jn.flen (l.take k) : Int)) (fun _ i _ => l.length - (intOf i).toNat)
  case atStart => exact ⟨0, Nat.zero_le _, rfl, rfl, rfl⟩
  case round =>
    obtain ⟨k, hk, rfl, rfl, rfl⟩ := hrel
    by_cases hlt : k < l.length
    · obtain ⟨bb, bo, x, rfl, _, xcell, xbv⟩ := HG.out k hlt
      obtain ⟨ya, yc, rfl, _, _, -⟩ := xbv.get
      obtain ⟨e1, e2⟩ := HST.out k hlt
      have E1 := Lib.hid e1
      have ik : (k : Int) < (l.length : Int) := by omega
      clear xbv e1
      generalize Jn.flen (l.take k) = fk at *
      generalize l[k].length = lk at *
      go_wp2_with fail
      go_roundw
      case rel => exact ⟨k + 1, by omega, by go_num, trivial, by rw [E1.out]; go_num⟩
      case measure => simp [intOf]; omega
    · obtain rfl : k = l.length := by omega
      rw [List.take_length, HFL.out]
      have ik : ¬ (l.length : Int) < (l.length : Int) := by omega
      go_wp2_with (go_at_call 38; refine (V.out).mono ?_; rintro e w' ⟨rfl, nk, rfl⟩)
      go_ret
      exact ⟨rfl, _, rfl⟩
/-- What Left returns. -/
def JSt.left (t : JSt) (size : Nat) : Int := if t.used = t.room then -1 else ((t.room - t.used : Nat) : Int) * (size : Int) - 44
set_option maxRecDepth 100000 in
set_option maxHeartbeats 1000000 in
theorem left_any (h : JAt w t b bd F) (hD : DiskAt w s bd G) (he : t.epoch < 1000000000) (hu : t.used ≤ t.room) (hr : t.room ≤ 65536) :
    Calls Tryd.prog 11 #[.pointer (some ⟨b, 0, none⟩)] w fun e w' => e = .returned (.int .i64 (t.left s.size)) ∧ ∃ k, w' = w.drewN k := by
  have h2 := hD.ok.size2
  have HC := Lib.hid (fun n => current_any (h.below (below_drewN w n)) he)
  have HD := Lib.hid (fun n => size_any (hD.below (below_drewN w n)))
  obtain ⟨rv, hB, -⟩ := h.rep
  obtain ⟨c0, c1, c2, c3⟩ := hB.journal
  obtain ⟨d0, d1, d2, d3, d4⟩ := hB.half rfl
  generalize (t.pre bd).length = o at *
  obtain ⟨pr, hpr⟩ : ∃ pr : Nat, (t.room - t.used) * s.size = pr := ⟨_, rfl⟩
  have hpb : pr ≤ 65536 * 4096 := by rw [← hpr]; exact Nat.mul_le_mul (by omega) h2
  have hpe : ((t.room : Int) - (t.used : Int)) * (s.size : Int) = (pr : Int) := by
    rw [← hpr, Int.natCast_mul, show ((t.room - t.used : Nat) : Int) = (t.room : Int) - (t.used : Int) from by omega]
  have HL : Hid (t.left s.size = if t.used = t.room then -1 else (pr : Int) - 44) := Lib.hid (by
    unfold JSt.left
    rw [show ((t.room - t.used : Nat) : Int) = (t.room : Int) - (t.used : Int) from by omega, hpe])
  clear hB h hD hpr
  go_enter Tryd.func11, Tryd.ntmps11
  go_wp2_with fail
  go_quiet (first | (go_at_call 27; refine quiet_drewn (HC.out _)))
  by_cases hz : t.used = t.room
  · rw [if_pos hz] at HL
    have hz2 : (t.room : Int) - (t.used : Int) = 0 := by omega
    go_wp2_with fail
    go_ret
    exact ⟨by rw [HL.out]; rfl, _, rfl⟩
  · rw [if_neg hz] at HL
    have hz2 : ¬ (t.room : Int) - (t.used : Int) = 0 := by omega
    go_wp2_with (go_at_call 23; refine (HD.out _).mono ?_; rintro e w' ⟨rfl, rfl⟩)
    go_ret
    exact ⟨ret_int (by rw [HL.out]; omega), _, rfl⟩
end
end Go.Proofs.YtcpcnfedbffecaaDoor
