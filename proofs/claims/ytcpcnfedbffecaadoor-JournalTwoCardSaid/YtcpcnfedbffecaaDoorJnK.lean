/- Contract of the journal's 'recover', over batches that lie within one sector each. -/
import Derived.Test.YtcpcnfedbffecaaDoorJnJ
import Derived.WalkMore
namespace Go.Proofs.YtcpcnfedbffecaaDoor
open Go.RowKit Go.Maps
set_option linter.unusedSimpArgs false
theorem rows_not_nil (w : World) (ad : Addr) (n c : Nat) : (binOp .eql 32 (.slice (some ad) n c) (.slice none 0 0)).run Tryd.prog w = .ok (.bool false) w := by kernel_rfl
theorem rows_nil (w : World) : (binOp .eql 32 (.slice none 0 0) (.slice none 0 0)).run Tryd.prog w = .ok (.bool true) w := by kernel_rfl
theorem cell_set_other (w : World) (a c : Addr) (v : Value) (h : c.block ≠ a.block) : (w.setCell a v).cell? c = w.cell? c := World.cell?_of_block (w := w) (heap_setCell_other w a c.block v h)
theorem cell_set_off (w : World) (g i j : Nat) (v : Value) (h : i ≠ j) : (w.setCell ⟨g, i, none⟩ v).cell? ⟨g, j, none⟩ = w.cell? ⟨g, j, none⟩ := by
  exact World.cell?_setCell_other w _ _ v (fun e => h (by injection e))
theorem RecsR.news {w : World} {F : Nat → Prop} {g c : Nat} {rvs : List Value} {l : List (List UInt8)} (h : RecsR w F (.slice (some ⟨g, 0, none⟩) l.length c) rvs l) : rvs.length = l.length ∧ (∀ j u, rvs[j]? = some u → w.cell? ((⟨g, 0, none⟩ : Addr).add j) = some u) ∧ ∀ u ∈ rvs, u.oneCell' = true := by
  refine ⟨h.2.1.1, fun j u hu => ?_, fun u hu => ?_⟩
  · have hj : j < l.length := by
      have := (List.getElem?_eq_some_iff.1 hu).1
      rw [h.2.1.1] at this; exact this
    rw [← hu, ← h.1.cellAt j (by omega)]
    unfold Addr.add; simp only [Nat.zero_add]
    try (split <;> simp_all)
  · obtain ⟨i, hi⟩ := List.mem_iff_getElem?.1 hu
    have hj : i < l.length := by
      have := (List.getElem?_eq_some_iff.1 hi).1
      rw [h.2.1.1] at this; exact this
    obtain ⟨x, hx, hv⟩ := h.2.1.get (i := i) (b := l[i]) (by simp [hj])
    rw [hi] at hx
    obtain rfl := Option.some.inj hx
    obtain ⟨a, c, rfl, -⟩ := hv.1.form
    rfl
theorem flat_le (N : Nat) : ∀ bs : List (List (List UInt8)), (∀ x ∈ bs, x.length ≤ N) → bs.flatten.length ≤ bs.length * N
  | [], _ => by simp
  | b :: bs, h => by
    have h1 := flat_le N bs (fun x hx => h x (List.mem_cons_of_mem _ hx))
    have h2 := h b List.mem_cons_self
    rw [List.flatten_cons, List.length_append, List.length_cons, Nat.succ_mul]
    omega
namespace Jn
def lastOf (e : Nat) (last : List UInt8) (bs : List (List (List UInt8))) : List UInt8 := bs.foldl (fun last l => Sha.sum (last ++ body e l)) last
theorem lastOf_snoc (e : Nat) (last : List UInt8) (bs : List (List (List UInt8))) (l : List (List UInt8)) : lastOf e last (bs ++ [l]) = Sha.sum (lastOf e last bs ++ body e l) := by simp [lastOf, List.foldl_append]
theorem lastOf_length (e : Nat) (last : List UInt8) (h : last.length = 32) : ∀ bs, (lastOf e last bs).length = 32 := by
  intro bs
  induction bs generalizing last with
  | nil => exact h
  | cons l bs ih => exact ih _ rfl
/-- From sector 'first' on the batches bs of epoch e follow each other; then none. -/
structure Chain (f : Nat → List UInt8) (first room size : Nat) (e : Nat) (bs : List (List (List UInt8))) : Prop where
  le : bs.length ≤ room
  each : ∀ i, (h : i < bs.length) → Holds (f (first + i)) (Sha.sum (lastOf e z32 (bs.take i) ++ body e bs[i])) e bs[i] ∧ bs[i] ≠ []
  stop : bs.length < room → ∃ sm e0, Holds (f (first + bs.length)) sm e0 []
end Jn
abbrev R6S (W : World) (b o br : Nat) (lv dv : Value) (fl : Nat) (sv : Value) (bs : ByteArray) (w' : World) : Prop :=
  Below W.heap.size W w' ∧ w'.cell? ⟨b, o + 4, none⟩ = some lv ∧ w'.cell? ⟨br, 3, none⟩ = some dv ∧ w'.cell? ⟨br, 4, none⟩ = some (.int .i64 (fl : Int)) ∧ (convert 39 9 sv).run Tryd.prog w' = .ok (.string bs) w'
theorem R6S.next {W w' w2 : World} {b o br fl : Nat} {lv dv sv : Value} {B : List UInt8} {bs : ByteArray} {F : Nat → Prop} (hl : b < W.heap.size ∧ br < W.heap.size) (hv : BV W F sv B) (hB : (⟨B.toArray⟩ : ByteArray) = bs) (h : R6S W b o br lv dv fl sv bs w') (h2 : Below W.heap.size W w2) : R6S W b o br lv dv fl sv bs w2 :=
  ⟨h2, ((h2.cell (p := ⟨b, o + 4, none⟩) hl.1).trans (h.1.cell (p := ⟨b, o + 4, none⟩) hl.1).symm).trans h.2.1, ((h2.cell (p := ⟨br, 3, none⟩) hl.2).trans (h.1.cell (p := ⟨br, 3, none⟩) hl.2).symm).trans h.2.2.1, ((h2.cell (p := ⟨br, 4, none⟩) hl.2).trans (h.1.cell (p := ⟨br, 4, none⟩) hl.2).symm).trans h.2.2.2.1, hB ▸ (hv.grow h2).convS⟩
section
variable {w w' : World} {F G FJ FD : Nat → Prop} {s : DSt} {b bd o first room ep0 e : Nat} {P P' Q : List Value} {T : TypeId} {bs : List (List (List UInt8))}
set_option maxRecDepth 100000 in
set_option maxHeartbeats 8000000 in
theorem recover_any (hH : HalfAt w FJ b P Q T first ep0 0 [] z32) (hP : P = [.pointer (some ⟨bd, 0, none⟩), .int .i64 (room : Int)] ++ P') (ho : P.length = o)
    (hD : DiskAt w s bd FD) (hc : s.Calm) (hdj : Dj FD FJ) (hg : ∀ W, Stp FJ w W → Glob W) (hsz : 64 ≤ s.size) (hroom : room ≤ 65536) (hfr : first + room ≤ s.dur.length) (hch : Jn.Chain s.look first room s.size e bs) :
    Calls Tryd.prog 26 #[.pointer (some ⟨b, 0, none⟩), .pointer (some ⟨b, o, none⟩)] w fun en w' =>
      en = .returned (.int .i64 0) ∧ Stp FJ w w' ∧ HalfAt w' (Plus FJ w w') b P Q T first (if bs = [] then ep0 else e) bs.length bs.flatten (Jn.lastOf e z32 bs) := by
  have hn2 := hD.ok.n2
  have hs2 := hD.ok.size2
  have HH := Lib.hid hH
  have HD := Lib.hid hD
  have HC := Lib.hid hc
  have HDJ := Lib.hid hdj
  have HG := Lib.hid hg
  have HO := Lib.hid ho
  have HCH := Lib.hid hch
  have HSZ := Lib.hid (And.intro hsz hs2)
  have HFR := Lib.hid hfr
  have hle := hch.le
  have KD : Hid (∀ wr, Stp FJ w wr → DiskAt wr s bd FD) := Lib.hid (fun wr st => hD.same (st.same hD.inn hdj) st.size)
  have HPP := Lib.hid hP
  have H0 : Hid (HalfAt w (Plus FJ w w) b P Q T first (if (0 : Nat) = 0 then ep0 else e) 0 (bs.take 0).flatten (Jn.lastOf e z32 (bs.take 0))) := Lib.hid (by rw [if_pos rfl]; exact hH.mono (fun _ hk => .inl hk) (Plus.inn hH.1 (Nat.le_refl _)))
  clear hH hD hc hdj hg ho hch hsz hs2 hP hfr
  go_enter Tryd.func26, Tryd.ntmps26
  go_wp2_with fail
  go_step3
  go_wp2_with fail
  go_step3
  go_wp2_with fail
  go_loopw [4] (fun _ wr => ∃ k : Nat, k ≤ bs.length ∧ Stp FJ w wr ∧ HalfAt wr (Plus FJ w wr) b P Q T first (if k = 0 then ep0 else e) k (bs.take k).flatten (Jn.lastOf e z32 (bs.take k))) (fun _ wr => room + 1 - (intOf ((wr.cell? ⟨b, o + 2, none⟩).getD undef)).toNat)
  case atStart => exact ⟨0, Nat.zero_le _, Stp.refl _ _, H0.out⟩
  case round =>
    obtain ⟨k, hk, hst, hh⟩ := hrel
    clear H0
    have HST := Lib.hid hst
    have HHK := Lib.hid hh
    have FIN : Hid (∀ W : World, k = bs.length → Below wr.heap.size wr W → Stp FJ w W ∧ HalfAt W (Plus FJ w W) b P Q T first (if bs = [] then ep0 else e) bs.length bs.flatten (Jn.lastOf e z32 bs)) := Lib.hid (fun W hkl hW => by
      have st : Stp FJ w W := HST.out.trans (Stp.of_below _ hW)
      refine ⟨st, ?_⟩
      have h2 := HHK.out
      rw [hkl, List.take_length] at h2
      have e1 : (if bs.length = 0 then ep0 else e) = if bs = [] then ep0 else e := by
        by_cases hb0 : bs = []
        · rw [if_pos hb0, hb0]; rfl
        · rw [if_neg hb0, if_neg (fun q => hb0 (List.eq_nil_of_length_eq_zero q))]
      rw [e1] at h2
      exact (h2.below hW).mono (fun q hq => hq.imp id (fun y => ⟨y.1, Nat.lt_of_lt_of_le y.2 hW.size⟩)) (Plus.inn (fun q hq => HH.out.1 q hq) st.size))
    obtain ⟨hI, hF, t1, t2, rv0, hB, rvs, hR⟩ := hh
    obtain ⟨d0, d1, d2, d3, d4⟩ := hB.half HO.out
    have hB' := hB
    rw [HPP.out] at hB'
    have c0 := hB'.cell (i := 0) rfl
    have c1 := hB'.cell (i := 1) rfl
    have hbl := hB.lt
    clear hB' hst
    obtain ⟨ek, hek⟩ : ∃ ek, (if k = 0 then ep0 else e) = ek := ⟨_, rfl⟩
    rw [hek] at d1
    have HEK := Lib.hid hek
    clear hek
    by_cases hkr : k < room
    · have ikr : (k : Int) < (room : Int) := by omega
      clear hI hF t1 t2 hB hR
      go_wp2_with fail
      go_quiet (fail)
      obtain ⟨w1, hw1⟩ : ∃ w1, wr.drewN nq = w1 := ⟨_, rfl⟩
      have hb1 : Below wr.heap.size wr w1 := by rw [← hw1]; exact below_drewN wr nq
      rw [hw1]
      have HB1 := Lib.hid hb1
      have y0 := (hb1.cell (p := ⟨b, 0, none⟩) hbl).trans c0
      have y1 := (hb1.cell (p := ⟨b, 1, none⟩) hbl).trans c1
      have z0 := (hb1.cell (p := ⟨b, o, none⟩) hbl).trans d0
      have z2 := (hb1.cell (p := ⟨b, o + 2, none⟩) hbl).trans d2
      have hd2 := Lib.hid d2
      clear hw1 hb1 c0 c1 d0 d1 d2 d3 d4
      have hfb : first + k < s.dur.length ∧ first + room ≤ 65536 := by have := HFR.out; omega
      obtain ⟨nx, hnx⟩ : ∃ nx, first + k = nx := ⟨_, rfl⟩
      obtain ⟨en, hen⟩ : ∃ en, first + room = en := ⟨_, rfl⟩
      have inx : (first : Int) + (k : Int) = (nx : Int) := by omega
      have ien : (first : Int) + (room : Int) = (en : Int) := by omega
      have HNX := Lib.hid (And.intro hnx (And.intro hen hfb))
      have hfi : first ≤ 65536 := by omega
      clear hnx hen hfb
      go_wp2_with fail
      go_still_tail 22, (by kernel_rfl)
      go_wp2_with fail
      have hbk := Blk.new w1 [.pointer (some ⟨bd, 0, none⟩), .int .i64 (nx : Int), .int .i64 (en : Int), .slice none 0 0, .int .i64 0, .int .i64 0] 73
      have hb2 : Below w1.heap.size w1 (w1.alloc (.cells #[.pointer (some ⟨bd, 0, none⟩), .int .i64 (nx : Int), .int .i64 (en : Int), .slice none 0 0, .int .i64 0, .int .i64 0] 73)).drew := ((Below.refl _ _).alloc (Nat.le_refl _) _).drew
      obtain ⟨w2, hw2⟩ : ∃ w2, (w1.alloc (.cells #[.pointer (some ⟨bd, 0, none⟩), .int .i64 (nx : Int), .int .i64 (en : Int), .slice none 0 0, .int .i64 0, .int .i64 0] 73)).drew = w2 := ⟨_, rfl⟩
      have hBr2 : BrAt w2 w1.heap.size bd nx en (.slice none 0 0) [] 0 := by rw [← hw2]; exact ⟨hbk.drew, OwnB.nil _⟩
      rw [hw2] at hb2 ⊢
      obtain ⟨br, hbr⟩ : ∃ br, w1.heap.size = br := ⟨_, rfl⟩
      rw [hbr] at hBr2 ⊢
      have B12 : Hid (Below wr.heap.size wr w2) := Lib.hid (HB1.out.trans (hb2.mono HB1.out.size))
      have hbrg : wr.heap.size ≤ br := by rw [← hbr]; exact HB1.out.size
      have HBRG := Lib.hid (And.intro hbrg hBr2.1.lt)
      have HBr2 := Lib.hid hBr2
      clear hbk hb2 hw2 hBr2 hbr y0 y1 z0 z2
      have hbrF : ¬ FD br := fun hf => by
        have h1 := (KD.out _ HST.out).inn br hf
        have h2 := HBRG.out.1
        omega
      have KD2 := Lib.hid ((KD.out _ HST.out).below B12.out)
      by_cases hkb : k < bs.length
      · obtain ⟨hold, hne⟩ := HCH.out.each k hkb
        rw [HNX.out.1] at hold
        obtain ⟨l, hl⟩ : ∃ l, bs[k] = l := ⟨_, rfl⟩
        rw [hl] at hold hne
        have htk : bs.take (k + 1) = bs.take k ++ [l] := by rw [List.take_succ_eq_append_getElem hkb, hl]
        have hl1 : 0 < l.length := List.length_pos_iff.2 hne
        have hlb := hold.lb
        have hebb := hold.eb
        obtain ⟨lk, hlk⟩ : ∃ lk, Jn.lastOf e z32 (bs.take k) = lk := ⟨_, rfl⟩
        have hlk32 : lk.length = 32 := by rw [← hlk]; exact Jn.lastOf_length e z32 (by simp [z32]) _
        rw [hlk] at hold
        have HTK := Lib.hid (And.intro htk (And.intro hlk hlk32))
        have V := Lib.hid (bread_any HBr2.out KD2.out HC.out hbrF HSZ.out.1 (by have := HNX.out; omega) (by have := HNX.out; omega) (by have := HNX.out; omega) hold)
        obtain ⟨fl, hfl⟩ : ∃ fl, Jn.flen l = fl := ⟨_, rfl⟩
        have hfit := hold.fits
        have hslen := hold.len
        have hbody : ((s.look nx).drop 32).take (fl - 32) = Jn.body e l := by
          obtain ⟨rest, hr⟩ := hold.split
          rw [hr, show (32 : Nat) = (Sha.sum (lk ++ Jn.body e l)).length from rfl, List.drop_left]
          have e2 : Jn.num e ++ (Jn.num l.length ++ (Jn.recs l ++ rest)) = Jn.body e l ++ rest := by simp [Jn.body]
          rw [e2]
          exact List.take_left' (by rw [← hfl]; simp [Jn.body, Jn.flen, Jn.sum_len]; omega)
        have hfl40 : 40 ≤ fl := by rw [← hfl]; unfold Jn.flen; omega
        obtain ⟨SD, hSD⟩ : ∃ SD, s.look nx = SD := ⟨_, rfl⟩
        rw [hSD] at hbody hfit hslen V
        rw [hfl] at hfit V
        have hsds : SD.length = s.size := by rw [← hSD]; exact DSt.look_len HD.out.ok (by have := HNX.out; omega)
        have hN1 : Jn.need s.size fl = 1 := by
          unfold Jn.need
          have h1 := HSZ.out.1
          rw [show fl + s.size - 1 = (fl - 1) + 1 * s.size from by omega, Nat.add_mul_div_right _ _ (by omega), Nat.div_eq_of_lt (by omega)]
        have HN1 := Lib.hid hN1
        clear hold htk hlk hN1 hl
        refine (V.out).mono ?_
        rintro e3 w3 ⟨rv, rvs3, dv3, rfl, hst3, hBr3, hR3, -⟩
        obtain ⟨rva', rvc, rfl, rvc1, rvc2, hsome⟩ := RecsV.form ⟨rvs3, hR3⟩
        obtain ⟨rg, rfl⟩ := hsome hl1
        have B13 : Hid (Below wr.heap.size wr w3) := Lib.hid (B12.out.trans (hst3.below (fun q hq => by rw [show q = br from hq]; exact HBRG.out.1) B12.out.size))
        obtain ⟨dg, dc, rfl, dc1, dc2, _, -, -, -⟩ := hBr3.2.cells (by omega)
        unfold maxLen at dc2
        have hHW : HalfAt w3 (Plus FJ w w3) b P Q T first ek k (bs.take k).flatten lk := by
          have h2 := HHK.out.below B13.out
          rw [HEK.out, HTK.out.2.1] at h2
          exact h2.mono (fun q hq => hq.imp id (fun y => ⟨y.1, Nat.lt_of_lt_of_le y.2 B13.out.size⟩)) (Plus.inn (fun q hq => HH.out.1 q hq) (Nat.le_trans HST.out.size B13.out.size))
        obtain ⟨ls, hls⟩ : ∃ ls : ByteArray, (⟨lk.toArray⟩ : ByteArray) = ls := ⟨_, rfl⟩
        have eLS : Str lk = .string ls := by rw [← hls]; rfl
        have HLS := Lib.hid hls
        obtain ⟨BD, hBD⟩ : ∃ BD, Jn.body e l = BD := ⟨_, rfl⟩
        rw [hBD] at hbody
        have HBDe := Lib.hid hBD
        obtain ⟨bt, hbt⟩ : ∃ bt : ByteArray, (⟨BD.toArray⟩ : ByteArray) = bt := ⟨_, rfl⟩
        have H6B := Lib.hid hbt
        obtain ⟨ss, eSS⟩ : ∃ ss : ByteArray, Str (Sha.sum (lk ++ BD)) = .string ss := ⟨_, rfl⟩
        have HSS := Lib.hid eSS
        have HJ6 : Hid ((⟨(Sha.sum (Cat [ls, bt])).toArray⟩ : ByteArray) = ss) := Lib.hid (by
          have : Cat [ls, bt] = lk ++ BD := by rw [← hls, ← hbt]; simp [Cat]
          rw [this]
          unfold Str at eSS
          injection eSS)
        have hbdl : BD.length = fl - 32 := by rw [← hbody, List.length_take, List.length_drop]; omega
        have HLB : Hid (lk.length + BD.length ≤ 1000000000) := Lib.hid (by have := HTK.out.2.2; omega)
        have H6V : Hid (BV w3 (fun _ => True) (.slice (some ⟨dg, 32, none⟩) (fl - 32) (dc - 32)) BD) := Lib.hid (by
          have h := (hBr3.2.bv.subAt (lo := 32) (k := fl - 32) rfl (by omega)).mono (G := fun _ => True) (fun _ _ => trivial)
          rwa [Nat.zero_add, hbody] at h)
        obtain ⟨rv7', hB3, -⟩ := hHW.2.2.2.2
        obtain ⟨-, -, -, -, f4⟩ := hB3.half HO.out
        rw [eLS] at f4
        have H6L : Hid (b < w3.heap.size ∧ br < w3.heap.size) := Lib.hid ⟨hB3.lt, hBr3.1.lt⟩
        have x5 := hBr3.1.cell (i := 5) rfl
        have hcv := H6V.out.convS
        rw [hbt] at hcv
        have HS6 : Hid (R6S w3 b o br (.string ls) (.slice (some ⟨dg, 0, none⟩) SD.length dc) fl (.slice (some ⟨dg, 32, none⟩) (fl - 32) (dc - 32)) bt w3.drew) := Lib.hid ⟨(Below.refl _ _).drew, f4, hBr3.1.cell (i := 3) rfl, hBr3.1.cell (i := 4) rfl, by
          have h := (show BV w3.drew _ _ _ from H6V.out).convS
          rwa [hbt] at h⟩
        have HGW : Hid (∀ W, Below w3.heap.size w3 W → Glob W) := Lib.hid (fun W hW => HG.out W (HST.out.trans (Stp.of_below _ (B13.out.trans (hW.mono B13.out.size)))))
        have HHW := Lib.hid hHW
        have HR3 := Lib.hid hR3
        have HBr3 := Lib.hid hBr3
        have hrn := fun (w : World) (n c : Nat) => rows_not_nil w ⟨rg, 0, none⟩ n c
        have u1 : ¬ dc < fl := by omega
        have u2 : ¬ fl < 32 := by omega
        have u3 : ¬ dc = 32 := by omega
        have v1 : fl ≤ dc := by omega
        have v2 : (32 : Int) ≤ (fl : Int) := by omega
        rw [hBD, eSS]
        clear hst3 hBr3 hR3 V hHW hB3 f4 hcv hls hbt hBD hbody eSS eLS hSD hfl
        go_wp2_with fail
        refine wp_region_held_drew (S := (R6S w3 b o br (.string ls) (.slice (some ⟨dg, 0, none⟩) SD.length dc) fl (.slice (some ⟨dg, 32, none⟩) (fl - 32) (dc - 32)) bt)) (by kernel_rfl) HS6.out (fun hS => ?_)
        refine wpAnyH_take (i := 0) (oi := ⟨some 59, _, _, _, _, _⟩) (v := .slice (some ⟨rg, 0, none⟩) l.length rvc) rfl (by kernel_rfl) (by kernel_rfl) (by kernel_rfl) (fun _ _ _ h => h) (Or.inl ⟨by rfl, fun w hSw => by obtain ⟨_, s1, s2, s3, s4⟩ := hSw; go_simp⟩) hS ?_
        try simp only [Act.put, List.setIfInBounds_toArray, List.set_cons_zero, List.set_cons_succ]
        refine wpAnyH_take (i := 1) (oi := ⟨some 60, _, _, _, _, _⟩) (v := .bool false) rfl (by kernel_rfl) (by kernel_rfl) (by kernel_rfl) (fun _ _ _ h => h) (Or.inl ⟨by rfl, fun w hSw => by obtain ⟨_, s1, s2, s3, s4⟩ := hSw; go_simp⟩) hS ?_
        try simp only [Act.put, List.setIfInBounds_toArray, List.set_cons_zero, List.set_cons_succ]
        refine wpAnyH_take (i := 2) (oi := ⟨some 61, _, _, _, _, _⟩) (v := .bool false) rfl (by kernel_rfl) (by kernel_rfl) (by kernel_rfl) (fun _ _ _ h => h) (Or.inl ⟨by rfl, fun w hSw => by obtain ⟨_, s1, s2, s3, s4⟩ := hSw; go_simp⟩) hS ?_
        try simp only [Act.put, List.setIfInBounds_toArray, List.set_cons_zero, List.set_cons_succ]
        refine wpAnyH_take (i := 3) (oi := ⟨some 62, _, _, _, _, _⟩) (v := .string ss) rfl (by kernel_rfl) (by kernel_rfl) (by kernel_rfl) (fun _ _ _ h => h) (Or.inl ⟨by rfl, fun w hSw => by obtain ⟨_, s1, s2, s3, s4⟩ := hSw; go_simp⟩) hS ?_
        try simp only [Act.put, List.setIfInBounds_toArray, List.set_cons_zero, List.set_cons_succ]
        refine wpAnyH_take (i := 4) (oi := ⟨some 63, _, _, _, _, _⟩) (v := .pointer (some ⟨b, o, none⟩)) rfl (by kernel_rfl) (by kernel_rfl) (by kernel_rfl) (fun _ _ _ h => h) (Or.inl ⟨by rfl, fun w hSw => by obtain ⟨_, s1, s2, s3, s4⟩ := hSw; go_simp⟩) hS ?_
        try simp only [Act.put, List.setIfInBounds_toArray, List.set_cons_zero, List.set_cons_succ]
        refine wpAnyH_take (i := 5) (oi := ⟨some 64, _, _, _, _, _⟩) (v := .pointer (some ⟨b, o, none⟩)) rfl (by kernel_rfl) (by kernel_rfl) (by kernel_rfl) (fun _ _ _ h => h) (Or.inl ⟨by rfl, fun w hSw => by obtain ⟨_, s1, s2, s3, s4⟩ := hSw; go_simp⟩) hS ?_
        try simp only [Act.put, List.setIfInBounds_toArray, List.set_cons_zero, List.set_cons_succ]
        refine wpAnyH_take (i := 6) (oi := ⟨some 65, _, _, _, _, _⟩) (v := .pointer (some ⟨b, o + 4, none⟩)) rfl (by kernel_rfl) (by kernel_rfl) (by kernel_rfl) (fun _ _ _ h => h) (Or.inl ⟨by rfl, fun w hSw => by obtain ⟨_, s1, s2, s3, s4⟩ := hSw; go_simp⟩) hS ?_
        try simp only [Act.put, List.setIfInBounds_toArray, List.set_cons_zero, List.set_cons_succ]
        refine wpAnyH_take (i := 7) (oi := ⟨some 66, _, _, _, _, _⟩) (v := .string ls) rfl (by kernel_rfl) (by kernel_rfl) (by kernel_rfl) (fun _ _ _ h => h) (Or.inl ⟨by rfl, fun w hSw => by obtain ⟨_, s1, s2, s3, s4⟩ := hSw; go_simp⟩) hS ?_
        try simp only [Act.put, List.setIfInBounds_toArray, List.set_cons_zero, List.set_cons_succ]
        refine wpAnyH_take (i := 8) (oi := ⟨some 67, _, _, _, _, _⟩) (v := .pointer (some ⟨br, 0, none⟩)) rfl (by kernel_rfl) (by kernel_rfl) (by kernel_rfl) (fun _ _ _ h => h) (Or.inl ⟨by rfl, fun w hSw => by obtain ⟨_, s1, s2, s3, s4⟩ := hSw; go_simp⟩) hS ?_
        try simp only [Act.put, List.setIfInBounds_toArray, List.set_cons_zero, List.set_cons_succ]
        refine wpAnyH_take (i := 9) (oi := ⟨some 68, _, _, _, _, _⟩) (v := .pointer (some ⟨br, 0, none⟩)) rfl (by kernel_rfl) (by kernel_rfl) (by kernel_rfl) (fun _ _ _ h => h) (Or.inl ⟨by rfl, fun w hSw => by obtain ⟨_, s1, s2, s3, s4⟩ := hSw; go_simp⟩) hS ?_
        try simp only [Act.put, List.setIfInBounds_toArray, List.set_cons_zero, List.set_cons_succ]
        refine wpAnyH_take (i := 10) (oi := ⟨some 69, _, _, _, _, _⟩) (v := .pointer (some ⟨br, 3, none⟩)) rfl (by kernel_rfl) (by kernel_rfl) (by kernel_rfl) (fun _ _ _ h => h) (Or.inl ⟨by rfl, fun w hSw => by obtain ⟨_, s1, s2, s3, s4⟩ := hSw; go_simp⟩) hS ?_
        try simp only [Act.put, List.setIfInBounds_toArray, List.set_cons_zero, List.set_cons_succ]
        refine wpAnyH_take (i := 11) (oi := ⟨some 70, _, _, _, _, _⟩) (v := .slice (some ⟨dg, 0, none⟩) SD.length dc) rfl (by kernel_rfl) (by kernel_rfl) (by kernel_rfl) (fun _ _ _ h => h) (Or.inl ⟨by rfl, fun w hSw => by obtain ⟨_, s1, s2, s3, s4⟩ := hSw; go_simp⟩) hS ?_
        try simp only [Act.put, List.setIfInBounds_toArray, List.set_cons_zero, List.set_cons_succ]
        refine wpAnyH_take (i := 12) (oi := ⟨some 71, _, _, _, _, _⟩) (v := .pointer (some ⟨br, 0, none⟩)) rfl (by kernel_rfl) (by kernel_rfl) (by kernel_rfl) (fun _ _ _ h => h) (Or.inl ⟨by rfl, fun w hSw => by obtain ⟨_, s1, s2, s3, s4⟩ := hSw; go_simp⟩) hS ?_
        try simp only [Act.put, List.setIfInBounds_toArray, List.set_cons_zero, List.set_cons_succ]
        refine wpAnyH_take (i := 13) (oi := ⟨some 72, _, _, _, _, _⟩) (v := .pointer (some ⟨br, 0, none⟩)) rfl (by kernel_rfl) (by kernel_rfl) (by kernel_rfl) (fun _ _ _ h => h) (Or.inl ⟨by rfl, fun w hSw => by obtain ⟨_, s1, s2, s3, s4⟩ := hSw; go_simp⟩) hS ?_
        try simp only [Act.put, List.setIfInBounds_toArray, List.set_cons_zero, List.set_cons_succ]
        refine wpAnyH_take (i := 14) (oi := ⟨some 73, _, _, _, _, _⟩) (v := .pointer (some ⟨br, 4, none⟩)) rfl (by kernel_rfl) (by kernel_rfl) (by kernel_rfl) (fun _ _ _ h => h) (Or.inl ⟨by rfl, fun w hSw => by obtain ⟨_, s1, s2, s3, s4⟩ := hSw; go_simp⟩) hS ?_
        try simp only [Act.put, List.setIfInBounds_toArray, List.set_cons_zero, List.set_cons_succ]
        refine wpAnyH_take (i := 15) (oi := ⟨some 74, _, _, _, _, _⟩) (v := .int .i64 (fl : Int)) rfl (by kernel_rfl) (by kernel_rfl) (by kernel_rfl) (fun _ _ _ h => h) (Or.inl ⟨by rfl, fun w hSw => by obtain ⟨_, s1, s2, s3, s4⟩ := hSw; go_simp⟩) hS ?_
        try simp only [Act.put, List.setIfInBounds_toArray, List.set_cons_zero, List.set_cons_succ]
        refine wpAnyH_take (i := 16) (oi := ⟨some 75, _, _, _, _, _⟩) (v := .slice (some ⟨dg, 32, none⟩) (fl - 32) (dc - 32)) rfl (by kernel_rfl) (by kernel_rfl) (by kernel_rfl) (fun _ _ _ h => h) (Or.inl ⟨by rfl, fun w hSw => by obtain ⟨_, s1, s2, s3, s4⟩ := hSw; go_simp⟩) hS ?_
        try simp only [Act.put, List.setIfInBounds_toArray, List.set_cons_zero, List.set_cons_succ]
        refine wpAnyH_take (i := 17) (oi := ⟨some 76, _, _, _, _, _⟩) (v := .string bt) rfl (by kernel_rfl) (by kernel_rfl) (by kernel_rfl) (fun _ _ _ h => h) (Or.inl ⟨by rfl, fun w hSw => by obtain ⟨_, s1, s2, s3, s4⟩ := hSw; go_simp⟩) hS ?_
        try simp only [Act.put, List.setIfInBounds_toArray, List.set_cons_zero, List.set_cons_succ]
        refine wpAnyH_ready (rs := [18]) (by kernel_rfl) (by simp) ?_
        refine AllReadyH.cons (o := ⟨some 77, _, _, _, _, _⟩) rfl (fun K hK => ?_) AllReadyH.nil
        go_simp
        have hb6 : Below w3.heap.size w3 (w3.drew.alloc (.cells #[.string ls, .string bt] 9)) := (Below.refl _ _).drew.alloc (Nat.le_refl _) _
        have hS1 := R6S.next H6L.out H6V.out H6B.out HS6.out hb6
        refine hK.out _ _ hS1 (fun _ => ?_)
        clear hK K
        try simp only [Act.put, List.setIfInBounds_toArray, List.set_cons_zero, List.set_cons_succ]
        refine wpAnyH_ready (rs := [19]) (by kernel_rfl) (by simp) ?_
        refine AllReadyH.cons (o := ⟨some 78, _, _, _, _, _⟩) rfl (fun K hK => ?_) AllReadyH.nil
        go_simp
        refine (shajoin_any (StringsV.two w3.drew ls bt) (HGW.out _ hb6) (by have e1 : (Cat [ls, bt]).length = lk.length + BD.length := (by rw [← HLS.out, ← H6B.out]; simp [Cat]); rw [e1]; have := HLB.out; omega)).mono ?_
        rintro e w7 ⟨rfl, hb7⟩
        rw [show (⟨(Sha.sum (Cat [ls, bt])).toArray⟩ : ByteArray) = ss from HJ6.out]
        have hB67 := hb6.trans (hb7.mono hb6.size)
        have hS2 := R6S.next H6L.out H6V.out H6B.out HS6.out hB67
        refine hK.out _ _ hS2 (fun _ => ?_)
        clear hK K
        try simp only [Act.put, List.setIfInBounds_toArray, List.set_cons_zero, List.set_cons_succ]
        refine wpAnyH_take (i := 20) (oi := ⟨some 79, _, _, _, _, _⟩) (v := .bool false) rfl (by kernel_rfl) (by kernel_rfl) (by kernel_rfl) (fun _ _ _ h => h) (Or.inl ⟨by rfl, fun w hSw => by obtain ⟨_, s1, s2, s3, s4⟩ := hSw; go_simp⟩) hS2 ?_
        try simp only [Act.put, List.setIfInBounds_toArray, List.set_cons_zero, List.set_cons_succ]
        refine wpAnyH_take (i := 21) (oi := ⟨some 80, _, _, _, _, _⟩) (v := .bool false) rfl (by kernel_rfl) (by kernel_rfl) (by kernel_rfl) (fun _ _ _ h => h) (Or.inl ⟨by rfl, fun w hSw => by obtain ⟨_, s1, s2, s3, s4⟩ := hSw; go_simp⟩) hS2 ?_
        try simp only [Act.put, List.setIfInBounds_toArray, List.set_cons_zero, List.set_cons_succ]
        refine wpAnyH_take (i := 22) (oi := ⟨some 58, _, _, _, _, _⟩) (v := .bool false) rfl (by kernel_rfl) (by kernel_rfl) (by kernel_rfl) (fun _ _ _ h => h) (Or.inl ⟨by rfl, fun w hSw => by obtain ⟨_, s1, s2, s3, s4⟩ := hSw; go_simp⟩) hS2 ?_
        try simp only [Act.put, List.setIfInBounds_toArray, List.set_cons_zero, List.set_cons_succ]
        refine wpAnyH_done (by kernel_rfl) ?_ _
        have hB37 : Below wr.heap.size wr w7 := B13.out.trans (hB67.mono B13.out.size)
        have hH7 : HalfAt w7 (Plus FJ w w7) b P Q T first ek k (bs.take k).flatten lk := (HHW.out.below hB67).mono (fun q hq => hq.imp id (fun y => ⟨y.1, Nat.lt_of_lt_of_le y.2 hB67.size⟩)) (Plus.inn (fun q hq => HH.out.1 q hq) (Nat.le_trans HST.out.size hB37.size))
        have hR7 : RecsR w7 (Plus FJ w w7) (.slice (some ⟨rg, 0, none⟩) l.length rvc) rvs3 l := (HR3.out.below (fun q hq => hq.2) hB67).mono (fun q hq => .inr ⟨by
          have h1 := hq.1
          have h2 := HST.out.size
          have h3 := HBRG.out.1
          have h4 := HBRG.out.2
          have h5 := B12.out.size
          omega, Nat.lt_of_lt_of_le hq.2 hB67.size⟩)
        have hBr7 := HBr3.out.below hB67
        obtain ⟨rv7, hB7, -⟩ := hH7.2.2.2.2
        obtain ⟨p0, p1, p2, p3, p4⟩ := hB7.half HO.out
        have pf := fun i => hB7.free i
        have T1 := hH7.set (i := o + 1) (y := .int .i64 (e : Int)) (e' := e) (u' := k) (l' := lk) (fun rv => hcells_epoch e HO.out)
        have T2 := T1.2.set (i := o + 4) (y := Str (Sha.sum (lk ++ BD))) (e' := e) (u' := k) (l' := Sha.sum (lk ++ BD)) (fun rv => hcells_last _ HO.out)
        rw [HSS.out] at T2
        have HT := Lib.hid (And.intro T1.1 (And.intro T2.1 T2.2))
        have HR7 := Lib.hid hR7
        have HBr7 := Lib.hid hBr7
        have HB37 := Lib.hid hB37
        have hbrb : br ≠ b := by have := HBRG.out.1; omega
        have hek2 : ek = ep0 ∨ ek = e := by
          rw [← HEK.out]
          by_cases h0 : k = 0
          · rw [if_pos h0]; exact .inl rfl
          · rw [if_neg h0]; exact .inr rfl
        clear hS hS1 hS2 HS6 hb6 hb7 hB67 T1 T2 hH7 hR7 hBr7 hB37
        obtain ⟨hI8, hF8, t18, t28, rv8, hB8, rvs8, hR8⟩ := HT.out.2.2
        have p38 := (hB8.half HO.out).2.2.2.1
        rw [cell_set_off _ _ _ _ _ (by omega), cell_set_off _ _ _ _ _ (by omega)] at p38
        obtain rfl : rv7 = rv8 := Option.some.inj (p3.symm.trans p38)
        obtain ⟨ra8, rc8, rfl, rc81, rc82, -⟩ := RecsV.form ⟨rvs8, hR8⟩
        unfold maxLen at rc82
        obtain ⟨N, hN⟩ : ∃ N, (bs.take k).flatten.length = N := ⟨_, rfl⟩
        have hNb : N ≤ 655360000 := by
          rw [← hN]
          refine Nat.le_trans (flat_le 10000 _ (fun x hx => ?_)) ?_
          · obtain ⟨i, hi, hx2⟩ := List.mem_iff_getElem.1 (List.mem_of_mem_take hx)
            have := (HCH.out.each i hi).1.lb
            rw [hx2] at this; exact this
          · rw [List.length_take]; omega
        rw [hN] at p38 rc81 hR8 hB8
        have HR8 := Lib.hid hR8
        have HB8 := Lib.hid hB8
        have HN := Lib.hid hN
        have HS8 := Lib.hid (And.intro hI8 (And.intro hF8 (And.intro t18 t28)))
        have HR78 : Hid (RecsR ((w7.setCell ⟨b, o + 1, none⟩ (.int .i64 (e : Int))).setCell ⟨b, o + 4, none⟩ (.string ss)) _ (.slice (some ⟨rg, 0, none⟩) l.length rvc) rvs3 l) := Lib.hid ((HR7.out.setb (fun k hk => heap_setCell_other w7 ⟨b, o + 1, none⟩ k _ hk) hB7 t18 t28).setb (fun k hk => heap_setCell_other _ ⟨b, o + 4, none⟩ k _ hk) (hB7.set (o + 1) (.int .i64 (e : Int))) t18 t28)
        have HNW := Lib.hid HR78.out.news
        obtain ⟨i0, hi0, hz0, hz1, hz2⟩ := info_parts Tryd.infoRow
        have hrl := HNW.out.1
        clear hI8 hF8 t18 t28 hR8 hB8 hB7 p3 hN p4
        have hee : (e != e) = false := bne_self_eq_false e
        by_cases h02 : (0 : Int) < (k : Int)
        · have h01 : e = ek := by rw [← HEK.out, if_neg (by omega)]
          subst h01
          clear hek2
          go_wp2_with (at_builtin; refine wpList_append_lies _ (by rfl) _ _ _ (by rfl) 0 39 i0 _ 1 24 Tryd.underlying32 hi0 hz0 hz1 hz2 rfl (by omega) (.slice ra8 N rc8) N rvs8 (by rfl) (by have h := HR8.out.1; rw [HN.out] at h; exact h) ⟨rg, 0, none⟩ l.length rvc rvs3 (by rfl) (by rw [hrl, Nat.mul_one]) HNW.out.2.1 HNW.out.2.2 (by omega) (by unfold maxLen; omega) (by omega) (by omega) _ rfl ?_)
          intro gg cap w9 hown hgrow hat hlt9
          have P := HalfAt.push HS8.out.1 HS8.out.2.1 HS8.out.2.2.1 HS8.out.2.2.2 HB8.out HR8.out HO.out (Below.refl _ _) (xs := rvs3) (m := l) (HR78.out.2.1.mono (fun _ _ r => r.mono (fun _ q => .inl q))) HN.out rfl hown hgrow (hat.imp id (fun q => q.trans (by simp))) hlt9
          have bb9 := HB8.out.of_same (hgrow.block b HB8.out.lt (fun q => by
            obtain ⟨cur, hb'⟩ := ownsRow_blk HR8.out.1 q.symm
            exact absurd (HB8.out.inj hb').2 HS8.out.2.2.1))
          have c93 := (bb9.half HO.out).2.2.2.1
          have pf9 := fun i => bb9.free i
          have bB8 := (HBr7.out.1.of_same (heap_setCell_other w7 ⟨b, o + 1, none⟩ br (.int .i64 (e : Int)) hbrb)).of_same (heap_setCell_other _ ⟨b, o + 4, none⟩ br (.string ss) hbrb)
          have bB9 := bB8.of_same (hgrow.block br bB8.lt (fun q => by
            obtain ⟨cur, hb'⟩ := ownsRow_blk HR8.out.1 q.symm
            exact absurd (hb'.inj bB8).2 (by decide)))
          have bB10 := bB9.of_same (heap_setCell_other w9 ⟨b, o + 3, none⟩ br (.slice (some ⟨gg, 0, none⟩) (N + l.length) cap) hbrb)
          have HS11 := Lib.hid (bB10.cell (i := 4) rfl)
          have st10 := HST.out.trans (Stp.of_below _ HB37.out) |>.trans (HT.out.1.trans' (HT.out.2.1.trans' P.1))
          have hH10 := P.2
          have P78 : Hid (w7.heap.size ≤ (w9.setCell ⟨b, o + 3, none⟩ (.slice (some ⟨gg, 0, none⟩) (N + l.length) cap)).heap.size) := Lib.hid (by have := P.1.size; simpa using this)
          clear hown hgrow hat hlt9 bb9 bB8 bB9 bB10 P hi0 hz0 hz1 hz2
          go_wp2_with fail
          obtain ⟨w10, hw10⟩ : ∃ w10, w9.setCell ⟨b, o + 3, none⟩ (.slice (some ⟨gg, 0, none⟩) (N + l.length) cap) = w10 := ⟨_, rfl⟩
          rw [hw10] at HS11 st10 hH10 P78 ⊢
          have hpl : Hid (w.heap.size ≤ w7.heap.size ∧ w9.heap.size = w10.heap.size) := Lib.hid ⟨Nat.le_trans HST.out.size HB37.out.size, by rw [← hw10]; simp⟩
          have h78 : ((w7.setCell ⟨b, o + 1, none⟩ (.int .i64 (e : Int))).setCell ⟨b, o + 4, none⟩ (.string ss)).heap.size = w7.heap.size := by simp
          have HEND : Hid (∀ W0 : World, Below w10.heap.size w10 W0 → (∃ k' : Nat, k' ≤ bs.length ∧ Stp FJ w (W0.setCell ⟨b, o + 2, none⟩ (.int .i64 ((k : Int) + 1))) ∧ HalfAt (W0.setCell ⟨b, o + 2, none⟩ (.int .i64 ((k : Int) + 1))) (Plus FJ w (W0.setCell ⟨b, o + 2, none⟩ (.int .i64 ((k : Int) + 1)))) b P Q T first (if k' = 0 then ep0 else e) k' (bs.take k').flatten (Jn.lastOf e z32 (bs.take k'))) ∧ room + 1 - (intOf (((W0.setCell ⟨b, o + 2, none⟩ (.int .i64 ((k : Int) + 1))).cell? ⟨b, o + 2, none⟩).getD undef)).toNat < room + 1 - (intOf ((wr.cell? ⟨b, o + 2, none⟩).getD undef)).toNat) := Lib.hid (fun W0 hb0 => by
            have h1 := (hH10.below hb0).set (i := o + 2) (y := .int .i64 ((k : Int) + 1)) (e' := e) (u' := k + 1) (l' := Sha.sum (lk ++ BD)) (fun rv => hcells_used (k + 1) HO.out)
            have stW := (st10.trans (Stp.of_below _ hb0)).set (a := ⟨b, o + 2, none⟩) (.inl (.inl HH.out.2.1)) (.int .i64 ((k : Int) + 1))
            refine ⟨⟨k + 1, hkb, stW, ?_⟩, ?_⟩
            · rw [if_neg (by omega), HTK.out.1, List.flatten_append, Jn.lastOf_snoc, HTK.out.2.1, HBDe.out]
              have e9 : [l].flatten = l := by simp
              rw [e9]
              refine h1.2.mono (fun q hq => ?_) (Plus.inn (fun q hq => HH.out.1 q hq) stW.size)
              have hz1 := hpl.out.1
              have hz2 : w10.heap.size ≤ (W0.setCell ⟨b, o + 2, none⟩ (.int .i64 ((k : Int) + 1))).heap.size := by simpa using hb0.size
              have hz3 := h1.1.size
              rcases hq with (hq | hq) | hq
              · exact .inl hq
              · refine .inr ⟨hq.1, ?_⟩
                have := hq.2
                have h9 := P78.out
                omega
              · have h9 := hq.1
                rw [h78] at h9
                exact .inr ⟨by omega, by have := hq.2; omega⟩
            · obtain ⟨-, -, -, -, rvx, hBx, -⟩ := h1.2
              have hdx := (hBx.half HO.out).2.2.1
              rw [hdx, hd2.out]
              simp [intOf]
              omega)
          obtain ⟨-, -, -, -, rvx, hBx, -⟩ := hH10
          have e2 := (hBx.half HO.out).2.2.1
          have pf10 := fun i => hBx.free i
          have c010 : w10.cell? ⟨b, 0, none⟩ = some (.pointer (some ⟨bd, 0, none⟩)) := by
            have h := hBx
            rw [HPP.out] at h
            exact h.cell (i := 0) rfl
          have V11 := Lib.hid (jsectors_any (w := w10.drew) (b := b) (bd := bd) (s := s) (G := FD) c010 ((KD.out _ st10).below (Below.refl _ _).drew) fl (by omega))
          have hwk : IntKind.i64.wrap ((k : Int) + 1) = (k : Int) + 1 := by rw [IntKind.wrap_i64]; omega
          clear st10 hBx c010 hw10 h78
          refine wp_region_held_drew (S := (fun w' => w'.cell? ⟨br, 4, none⟩ = some (.int .i64 (fl : Int)))) (by kernel_rfl) HS11.out (fun hS => ?_)
          refine wpAnyH_take (i := 0) (oi := ⟨some 112, _, _, _, _, _⟩) (v := .pointer (some ⟨b, o, none⟩)) rfl (by kernel_rfl) (by kernel_rfl) (by kernel_rfl) (fun _ _ _ h => h) (Or.inl ⟨by rfl, fun w s1 => by go_simp⟩) hS ?_
          try simp only [Act.put, List.setIfInBounds_toArray, List.set_cons_zero, List.set_cons_succ]
          refine wpAnyH_take (i := 1) (oi := ⟨some 113, _, _, _, _, _⟩) (v := .pointer (some ⟨b, o, none⟩)) rfl (by kernel_rfl) (by kernel_rfl) (by kernel_rfl) (fun _ _ _ h => h) (Or.inl ⟨by rfl, fun w s1 => by go_simp⟩) hS ?_
          try simp only [Act.put, List.setIfInBounds_toArray, List.set_cons_zero, List.set_cons_succ]
          refine wpAnyH_take (i := 2) (oi := ⟨some 114, _, _, _, _, _⟩) (v := .pointer (some ⟨b, o + 2, none⟩)) rfl (by kernel_rfl) (by kernel_rfl) (by kernel_rfl) (fun _ _ _ h => h) (Or.inl ⟨by rfl, fun w s1 => by go_simp⟩) hS ?_
          try simp only [Act.put, List.setIfInBounds_toArray, List.set_cons_zero, List.set_cons_succ]
          refine wpAnyH_take (i := 4) (oi := ⟨some 116, _, _, _, _, _⟩) (v := .pointer (some ⟨b, 0, none⟩)) rfl (by kernel_rfl) (by kernel_rfl) (by kernel_rfl) (fun _ _ _ h => h) (Or.inl ⟨by rfl, fun w s1 => by go_simp⟩) hS ?_
          try simp only [Act.put, List.setIfInBounds_toArray, List.set_cons_zero, List.set_cons_succ]
          refine wpAnyH_take (i := 5) (oi := ⟨some 117, _, _, _, _, _⟩) (v := .pointer (some ⟨br, 0, none⟩)) rfl (by kernel_rfl) (by kernel_rfl) (by kernel_rfl) (fun _ _ _ h => h) (Or.inl ⟨by rfl, fun w s1 => by go_simp⟩) hS ?_
          try simp only [Act.put, List.setIfInBounds_toArray, List.set_cons_zero, List.set_cons_succ]
          refine wpAnyH_take (i := 6) (oi := ⟨some 118, _, _, _, _, _⟩) (v := .pointer (some ⟨br, 0, none⟩)) rfl (by kernel_rfl) (by kernel_rfl) (by kernel_rfl) (fun _ _ _ h => h) (Or.inl ⟨by rfl, fun w s1 => by go_simp⟩) hS ?_
          try simp only [Act.put, List.setIfInBounds_toArray, List.set_cons_zero, List.set_cons_succ]
          refine wpAnyH_take (i := 7) (oi := ⟨some 119, _, _, _, _, _⟩) (v := .pointer (some ⟨br, 4, none⟩)) rfl (by kernel_rfl) (by kernel_rfl) (by kernel_rfl) (fun _ _ _ h => h) (Or.inl ⟨by rfl, fun w s1 => by go_simp⟩) hS ?_
          try simp only [Act.put, List.setIfInBounds_toArray, List.set_cons_zero, List.set_cons_succ]
          refine wpAnyH_take (i := 8) (oi := ⟨some 120, _, _, _, _, _⟩) (v := .int .i64 (fl : Int)) rfl (by kernel_rfl) (by kernel_rfl) (by kernel_rfl) (fun _ _ _ h => h) (Or.inl ⟨by rfl, fun w s1 => by go_simp⟩) hS ?_
          try simp only [Act.put, List.setIfInBounds_toArray, List.set_cons_zero, List.set_cons_succ]
          refine wpAnyH_ready (rs := [3, 9]) (by kernel_rfl) (by simp) ?_
          refine AllReadyH.cons (o := ⟨some 115, _, _, _, _, _⟩) rfl (fun K hK => ?_) (AllReadyH.cons (o := ⟨some 121, _, _, _, _, _⟩) rfl (fun K hK => ?_) AllReadyH.nil)
          · go_simp
            refine hK.out _ _ HS11.out (fun _ => ?_)
            clear hK K
            try simp only [Act.put, List.setIfInBounds_toArray, List.set_cons_zero, List.set_cons_succ]
            refine wpAnyH_ready (rs := [9]) (by kernel_rfl) (by simp) ?_
            refine AllReadyH.cons (o := ⟨some 121, _, _, _, _, _⟩) rfl (fun K hK => ?_) AllReadyH.nil
            go_simp
            refine (V11.out).mono ?_
            rintro e11 w11 ⟨rfl, kk, rfl⟩
            rw [HN1.out]
            refine hK.out _ _ (show (w10.drew.drewN kk).cell? ⟨br, 4, none⟩ = some (.int .i64 (fl : Int)) from HS11.out) (fun _ => ?_)
            clear hK K
            try simp only [Act.put, List.setIfInBounds_toArray, List.set_cons_zero, List.set_cons_succ]
            refine wpAnyH_take (i := 10) (oi := ⟨some 122, _, _, _, _, _⟩) (v := .int .i64 ((k : Int) + 1)) rfl (by kernel_rfl) (by kernel_rfl) (by kernel_rfl) (fun _ _ _ h => h) (Or.inl ⟨by rfl, fun w s1 => by go_simp⟩) (show (w10.drew.drewN kk).cell? ⟨br, 4, none⟩ = some (.int .i64 (fl : Int)) from HS11.out) ?_
            try simp only [Act.put, List.setIfInBounds_toArray, List.set_cons_zero, List.set_cons_succ]
            refine wpAnyH_take (i := 11) (oi := ⟨some 123, _, _, _, _, _⟩) (v := .pointer (some ⟨b, o, none⟩)) rfl (by kernel_rfl) (by kernel_rfl) (by kernel_rfl) (fun _ _ _ h => h) (Or.inl ⟨by rfl, fun w s1 => by go_simp⟩) (show (w10.drew.drewN kk).cell? ⟨br, 4, none⟩ = some (.int .i64 (fl : Int)) from HS11.out) ?_
            try simp only [Act.put, List.setIfInBounds_toArray, List.set_cons_zero, List.set_cons_succ]
            refine wpAnyH_take (i := 12) (oi := ⟨some 124, _, _, _, _, _⟩) (v := .pointer (some ⟨b, o + 2, none⟩)) rfl (by kernel_rfl) (by kernel_rfl) (by kernel_rfl) (fun _ _ _ h => h) (Or.inl ⟨by rfl, fun w s1 => by go_simp⟩) (show (w10.drew.drewN kk).cell? ⟨br, 4, none⟩ = some (.int .i64 (fl : Int)) from HS11.out) ?_
            try simp only [Act.put, List.setIfInBounds_toArray, List.set_cons_zero, List.set_cons_succ]
            refine wpAnyH_ready (rs := [13]) (by kernel_rfl) (by simp) ?_
            refine AllReadyH.cons (o := ⟨none, _, _, _, _, _⟩) rfl (fun K hK => ?_) AllReadyH.nil
            go_simp
            refine hK.out _ _ ((cell_set_other _ _ _ _ hbrb).trans HS11.out) (fun _ => ?_)
            clear hK K
            try simp only [Act.put, List.setIfInBounds_toArray, List.set_cons_zero, List.set_cons_succ]
            refine wpAnyH_done (by kernel_rfl) ?_ _
            go_wp2_with fail
            exact HEND.out _ (below_drewN _ _)
          · go_simp
            refine (V11.out).mono ?_
            rintro e11 w11 ⟨rfl, kk, rfl⟩
            rw [HN1.out]
            refine hK.out _ _ (show (w10.drew.drewN kk).cell? ⟨br, 4, none⟩ = some (.int .i64 (fl : Int)) from HS11.out) (fun _ => ?_)
            clear hK K
            try simp only [Act.put, List.setIfInBounds_toArray, List.set_cons_zero, List.set_cons_succ]
            refine wpAnyH_ready (rs := [3]) (by kernel_rfl) (by simp) ?_
            refine AllReadyH.cons (o := ⟨some 115, _, _, _, _, _⟩) rfl (fun K hK => ?_) AllReadyH.nil
            go_simp
            refine hK.out _ _ (show (w10.drew.drewN kk).cell? ⟨br, 4, none⟩ = some (.int .i64 (fl : Int)) from HS11.out) (fun _ => ?_)
            clear hK K
            try simp only [Act.put, List.setIfInBounds_toArray, List.set_cons_zero, List.set_cons_succ]
            refine wpAnyH_take (i := 10) (oi := ⟨some 122, _, _, _, _, _⟩) (v := .int .i64 ((k : Int) + 1)) rfl (by kernel_rfl) (by kernel_rfl) (by kernel_rfl) (fun _ _ _ h => h) (Or.inl ⟨by rfl, fun w s1 => by go_simp⟩) (show (w10.drew.drewN kk).cell? ⟨br, 4, none⟩ = some (.int .i64 (fl : Int)) from HS11.out) ?_
            try simp only [Act.put, List.setIfInBounds_toArray, List.set_cons_zero, List.set_cons_succ]
            refine wpAnyH_take (i := 11) (oi := ⟨some 123, _, _, _, _, _⟩) (v := .pointer (some ⟨b, o, none⟩)) rfl (by kernel_rfl) (by kernel_rfl) (by kernel_rfl) (fun _ _ _ h => h) (Or.inl ⟨by rfl, fun w s1 => by go_simp⟩) (show (w10.drew.drewN kk).cell? ⟨br, 4, none⟩ = some (.int .i64 (fl : Int)) from HS11.out) ?_
            try simp only [Act.put, List.setIfInBounds_toArray, List.set_cons_zero, List.set_cons_succ]
            refine wpAnyH_take (i := 12) (oi := ⟨some 124, _, _, _, _, _⟩) (v := .pointer (some ⟨b, o + 2, none⟩)) rfl (by kernel_rfl) (by kernel_rfl) (by kernel_rfl) (fun _ _ _ h => h) (Or.inl ⟨by rfl, fun w s1 => by go_simp⟩) (show (w10.drew.drewN kk).cell? ⟨br, 4, none⟩ = some (.int .i64 (fl : Int)) from HS11.out) ?_
            try simp only [Act.put, List.setIfInBounds_toArray, List.set_cons_zero, List.set_cons_succ]
            refine wpAnyH_ready (rs := [13]) (by kernel_rfl) (by simp) ?_
            refine AllReadyH.cons (o := ⟨none, _, _, _, _, _⟩) rfl (fun K hK => ?_) AllReadyH.nil
            go_simp
            refine hK.out _ _ ((cell_set_other _ _ _ _ hbrb).trans HS11.out) (fun _ => ?_)
            clear hK K
            try simp only [Act.put, List.setIfInBounds_toArray, List.set_cons_zero, List.set_cons_succ]
            refine wpAnyH_done (by kernel_rfl) ?_ _
            go_wp2_with fail
            exact HEND.out _ (below_drewN _ _)
        · clear hek2
          go_wp2_with (at_builtin; refine wpList_append_lies _ (by rfl) _ _ _ (by rfl) 0 39 i0 _ 1 24 Tryd.underlying32 hi0 hz0 hz1 hz2 rfl (by omega) (.slice ra8 N rc8) N rvs8 (by rfl) (by have h := HR8.out.1; rw [HN.out] at h; exact h) ⟨rg, 0, none⟩ l.length rvc rvs3 (by rfl) (by rw [hrl, Nat.mul_one]) HNW.out.2.1 HNW.out.2.2 (by omega) (by unfold maxLen; omega) (by omega) (by omega) _ rfl ?_)
          intro gg cap w9 hown hgrow hat hlt9
          have P := HalfAt.push HS8.out.1 HS8.out.2.1 HS8.out.2.2.1 HS8.out.2.2.2 HB8.out HR8.out HO.out (Below.refl _ _) (xs := rvs3) (m := l) (HR78.out.2.1.mono (fun _ _ r => r.mono (fun _ q => .inl q))) HN.out rfl hown hgrow (hat.imp id (fun q => q.trans (by simp))) hlt9
          have bb9 := HB8.out.of_same (hgrow.block b HB8.out.lt (fun q => by
            obtain ⟨cur, hb'⟩ := ownsRow_blk HR8.out.1 q.symm
            exact absurd (HB8.out.inj hb').2 HS8.out.2.2.1))
          have c93 := (bb9.half HO.out).2.2.2.1
          have pf9 := fun i => bb9.free i
          have bB8 := (HBr7.out.1.of_same (heap_setCell_other w7 ⟨b, o + 1, none⟩ br (.int .i64 (e : Int)) hbrb)).of_same (heap_setCell_other _ ⟨b, o + 4, none⟩ br (.string ss) hbrb)
          have bB9 := bB8.of_same (hgrow.block br bB8.lt (fun q => by
            obtain ⟨cur, hb'⟩ := ownsRow_blk HR8.out.1 q.symm
            exact absurd (hb'.inj bB8).2 (by decide)))
          have bB10 := bB9.of_same (heap_setCell_other w9 ⟨b, o + 3, none⟩ br (.slice (some ⟨gg, 0, none⟩) (N + l.length) cap) hbrb)
          have HS11 := Lib.hid (bB10.cell (i := 4) rfl)
          have st10 := HST.out.trans (Stp.of_below _ HB37.out) |>.trans (HT.out.1.trans' (HT.out.2.1.trans' P.1))
          have hH10 := P.2
          have P78 : Hid (w7.heap.size ≤ (w9.setCell ⟨b, o + 3, none⟩ (.slice (some ⟨gg, 0, none⟩) (N + l.length) cap)).heap.size) := Lib.hid (by have := P.1.size; simpa using this)
          clear hown hgrow hat hlt9 bb9 bB8 bB9 bB10 P hi0 hz0 hz1 hz2
          go_wp2_with fail
          obtain ⟨w10, hw10⟩ : ∃ w10, w9.setCell ⟨b, o + 3, none⟩ (.slice (some ⟨gg, 0, none⟩) (N + l.length) cap) = w10 := ⟨_, rfl⟩
          rw [hw10] at HS11 st10 hH10 P78 ⊢
          have hpl : Hid (w.heap.size ≤ w7.heap.size ∧ w9.heap.size = w10.heap.size) := Lib.hid ⟨Nat.le_trans HST.out.size HB37.out.size, by rw [← hw10]; simp⟩
          have h78 : ((w7.setCell ⟨b, o + 1, none⟩ (.int .i64 (e : Int))).setCell ⟨b, o + 4, none⟩ (.string ss)).heap.size = w7.heap.size := by simp
          have HEND : Hid (∀ W0 : World, Below w10.heap.size w10 W0 → (∃ k' : Nat, k' ≤ bs.length ∧ Stp FJ w (W0.setCell ⟨b, o + 2, none⟩ (.int .i64 ((k : Int) + 1))) ∧ HalfAt (W0.setCell ⟨b, o + 2, none⟩ (.int .i64 ((k : Int) + 1))) (Plus FJ w (W0.setCell ⟨b, o + 2, none⟩ (.int .i64 ((k : Int) + 1)))) b P Q T first (if k' = 0 then ep0 else e) k' (bs.take k').flatten (Jn.lastOf e z32 (bs.take k'))) ∧ room + 1 - (intOf (((W0.setCell ⟨b, o + 2, none⟩ (.int .i64 ((k : Int) + 1))).cell? ⟨b, o + 2, none⟩).getD undef)).toNat < room + 1 - (intOf ((wr.cell? ⟨b, o + 2, none⟩).getD undef)).toNat) := Lib.hid (fun W0 hb0 => by
            have h1 := (hH10.below hb0).set (i := o + 2) (y := .int .i64 ((k : Int) + 1)) (e' := e) (u' := k + 1) (l' := Sha.sum (lk ++ BD)) (fun rv => hcells_used (k + 1) HO.out)
            have stW := (st10.trans (Stp.of_below _ hb0)).set (a := ⟨b, o + 2, none⟩) (.inl (.inl HH.out.2.1)) (.int .i64 ((k : Int) + 1))
            refine ⟨⟨k + 1, hkb, stW, ?_⟩, ?_⟩
            · rw [if_neg (by omega), HTK.out.1, List.flatten_append, Jn.lastOf_snoc, HTK.out.2.1, HBDe.out]
              have e9 : [l].flatten = l := by simp
              rw [e9]
              refine h1.2.mono (fun q hq => ?_) (Plus.inn (fun q hq => HH.out.1 q hq) stW.size)
              have hz1 := hpl.out.1
              have hz2 : w10.heap.size ≤ (W0.setCell ⟨b, o + 2, none⟩ (.int .i64 ((k : Int) + 1))).heap.size := by simpa using hb0.size
              have hz3 := h1.1.size
              rcases hq with (hq | hq) | hq
              · exact .inl hq
              · refine .inr ⟨hq.1, ?_⟩
                have := hq.2
                have h9 := P78.out
                omega
              · have h9 := hq.1
                rw [h78] at h9
                exact .inr ⟨by omega, by have := hq.2; omega⟩
            · obtain ⟨-, -, -, -, rvx, hBx, -⟩ := h1.2
              have hdx := (hBx.half HO.out).2.2.1
              rw [hdx, hd2.out]
              simp [intOf]
              omega)
          obtain ⟨-, -, -, -, rvx, hBx, -⟩ := hH10
          have e2 := (hBx.half HO.out).2.2.1
          have pf10 := fun i => hBx.free i
          have c010 : w10.cell? ⟨b, 0, none⟩ = some (.pointer (some ⟨bd, 0, none⟩)) := by
            have h := hBx
            rw [HPP.out] at h
            exact h.cell (i := 0) rfl
          have V11 := Lib.hid (jsectors_any (w := w10.drew) (b := b) (bd := bd) (s := s) (G := FD) c010 ((KD.out _ st10).below (Below.refl _ _).drew) fl (by omega))
          have hwk : IntKind.i64.wrap ((k : Int) + 1) = (k : Int) + 1 := by rw [IntKind.wrap_i64]; omega
          clear st10 hBx c010 hw10 h78
          refine wp_region_held_drew (S := (fun w' => w'.cell? ⟨br, 4, none⟩ = some (.int .i64 (fl : Int)))) (by kernel_rfl) HS11.out (fun hS => ?_)
          refine wpAnyH_take (i := 0) (oi := ⟨some 112, _, _, _, _, _⟩) (v := .pointer (some ⟨b, o, none⟩)) rfl (by kernel_rfl) (by kernel_rfl) (by kernel_rfl) (fun _ _ _ h => h) (Or.inl ⟨by rfl, fun w s1 => by go_simp⟩) hS ?_
          try simp only [Act.put, List.setIfInBounds_toArray, List.set_cons_zero, List.set_cons_succ]
          refine wpAnyH_take (i := 1) (oi := ⟨some 113, _, _, _, _, _⟩) (v := .pointer (some ⟨b, o, none⟩)) rfl (by kernel_rfl) (by kernel_rfl) (by kernel_rfl) (fun _ _ _ h => h) (Or.inl ⟨by rfl, fun w s1 => by go_simp⟩) hS ?_
          try simp only [Act.put, List.setIfInBounds_toArray, List.set_cons_zero, List.set_cons_succ]
          refine wpAnyH_take (i := 2) (oi := ⟨some 114, _, _, _, _, _⟩) (v := .pointer (some ⟨b, o + 2, none⟩)) rfl (by kernel_rfl) (by kernel_rfl) (by kernel_rfl) (fun _ _ _ h => h) (Or.inl ⟨by rfl, fun w s1 => by go_simp⟩) hS ?_
          try simp only [Act.put, List.setIfInBounds_toArray, List.set_cons_zero, List.set_cons_succ]
          refine wpAnyH_take (i := 4) (oi := ⟨some 116, _, _, _, _, _⟩) (v := .pointer (some ⟨b, 0, none⟩)) rfl (by kernel_rfl) (by kernel_rfl) (by kernel_rfl) (fun _ _ _ h => h) (Or.inl ⟨by rfl, fun w s1 => by go_simp⟩) hS ?_
          try simp only [Act.put, List.setIfInBounds_toArray, List.set_cons_zero, List.set_cons_succ]
          refine wpAnyH_take (i := 5) (oi := ⟨some 117, _, _, _, _, _⟩) (v := .pointer (some ⟨br, 0, none⟩)) rfl (by kernel_rfl) (by kernel_rfl) (by kernel_rfl) (fun _ _ _ h => h) (Or.inl ⟨by rfl, fun w s1 => by go_simp⟩) hS ?_
          try simp only [Act.put, List.setIfInBounds_toArray, List.set_cons_zero, List.set_cons_succ]
          refine wpAnyH_take (i := 6) (oi := ⟨some 118, _, _, _, _, _⟩) (v := .pointer (some ⟨br, 0, none⟩)) rfl (by kernel_rfl) (by kernel_rfl) (by kernel_rfl) (fun _ _ _ h => h) (Or.inl ⟨by rfl, fun w s1 => by go_simp⟩) hS ?_
          try simp only [Act.put, List.setIfInBounds_toArray, List.set_cons_zero, List.set_cons_succ]
          refine wpAnyH_take (i := 7) (oi := ⟨some 119, _, _, _, _, _⟩) (v := .pointer (some ⟨br, 4, none⟩)) rfl (by kernel_rfl) (by kernel_rfl) (by kernel_rfl) (fun _ _ _ h => h) (Or.inl ⟨by rfl, fun w s1 => by go_simp⟩) hS ?_
          try simp only [Act.put, List.setIfInBounds_toArray, List.set_cons_zero, List.set_cons_succ]
          refine wpAnyH_take (i := 8) (oi := ⟨some 120, _, _, _, _, _⟩) (v := .int .i64 (fl : Int)) rfl (by kernel_rfl) (by kernel_rfl) (by kernel_rfl) (fun _ _ _ h => h) (Or.inl ⟨by rfl, fun w s1 => by go_simp⟩) hS ?_
          try simp only [Act.put, List.setIfInBounds_toArray, List.set_cons_zero, List.set_cons_succ]
          refine wpAnyH_ready (rs := [3, 9]) (by kernel_rfl) (by simp) ?_
          refine AllReadyH.cons (o := ⟨some 115, _, _, _, _, _⟩) rfl (fun K hK => ?_) (AllReadyH.cons (o := ⟨some 121, _, _, _, _, _⟩) rfl (fun K hK => ?_) AllReadyH.nil)
          · go_simp
            refine hK.out _ _ HS11.out (fun _ => ?_)
            clear hK K
            try simp only [Act.put, List.setIfInBounds_toArray, List.set_cons_zero, List.set_cons_succ]
            refine wpAnyH_ready (rs := [9]) (by kernel_rfl) (by simp) ?_
            refine AllReadyH.cons (o := ⟨some 121, _, _, _, _, _⟩) rfl (fun K hK => ?_) AllReadyH.nil
            go_simp
            refine (V11.out).mono ?_
            rintro e11 w11 ⟨rfl, kk, rfl⟩
            rw [HN1.out]
            refine hK.out _ _ (show (w10.drew.drewN kk).cell? ⟨br, 4, none⟩ = some (.int .i64 (fl : Int)) from HS11.out) (fun _ => ?_)
            clear hK K
            try simp only [Act.put, List.setIfInBounds_toArray, List.set_cons_zero, List.set_cons_succ]
            refine wpAnyH_take (i := 10) (oi := ⟨some 122, _, _, _, _, _⟩) (v := .int .i64 ((k : Int) + 1)) rfl (by kernel_rfl) (by kernel_rfl) (by kernel_rfl) (fun _ _ _ h => h) (Or.inl ⟨by rfl, fun w s1 => by go_simp⟩) (show (w10.drew.drewN kk).cell? ⟨br, 4, none⟩ = some (.int .i64 (fl : Int)) from HS11.out) ?_
            try simp only [Act.put, List.setIfInBounds_toArray, List.set_cons_zero, List.set_cons_succ]
            refine wpAnyH_take (i := 11) (oi := ⟨some 123, _, _, _, _, _⟩) (v := .pointer (some ⟨b, o, none⟩)) rfl (by kernel_rfl) (by kernel_rfl) (by kernel_rfl) (fun _ _ _ h => h) (Or.inl ⟨by rfl, fun w s1 => by go_simp⟩) (show (w10.drew.drewN kk).cell? ⟨br, 4, none⟩ = some (.int .i64 (fl : Int)) from HS11.out) ?_
            try simp only [Act.put, List.setIfInBounds_toArray, List.set_cons_zero, List.set_cons_succ]
            refine wpAnyH_take (i := 12) (oi := ⟨some 124, _, _, _, _, _⟩) (v := .pointer (some ⟨b, o + 2, none⟩)) rfl (by kernel_rfl) (by kernel_rfl) (by kernel_rfl) (fun _ _ _ h => h) (Or.inl ⟨by rfl, fun w s1 => by go_simp⟩) (show (w10.drew.drewN kk).cell? ⟨br, 4, none⟩ = some (.int .i64 (fl : Int)) from HS11.out) ?_
            try simp only [Act.put, List.setIfInBounds_toArray, List.set_cons_zero, List.set_cons_succ]
            refine wpAnyH_ready (rs := [13]) (by kernel_rfl) (by simp) ?_
            refine AllReadyH.cons (o := ⟨none, _, _, _, _, _⟩) rfl (fun K hK => ?_) AllReadyH.nil
            go_simp
            refine hK.out _ _ ((cell_set_other _ _ _ _ hbrb).trans HS11.out) (fun _ => ?_)
            clear hK K
            try simp only [Act.put, List.setIfInBounds_toArray, List.set_cons_zero, List.set_cons_succ]
            refine wpAnyH_done (by kernel_rfl) ?_ _
            go_wp2_with fail
            exact HEND.out _ (below_drewN _ _)
          · go_simp
            refine (V11.out).mono ?_
            rintro e11 w11 ⟨rfl, kk, rfl⟩
            rw [HN1.out]
            refine hK.out _ _ (show (w10.drew.drewN kk).cell? ⟨br, 4, none⟩ = some (.int .i64 (fl : Int)) from HS11.out) (fun _ => ?_)
            clear hK K
            try simp only [Act.put, List.setIfInBounds_toArray, List.set_cons_zero, List.set_cons_succ]
            refine wpAnyH_ready (rs := [3]) (by kernel_rfl) (by simp) ?_
            refine AllReadyH.cons (o := ⟨some 115, _, _, _, _, _⟩) rfl (fun K hK => ?_) AllReadyH.nil
            go_simp
            refine hK.out _ _ (show (w10.drew.drewN kk).cell? ⟨br, 4, none⟩ = some (.int .i64 (fl : Int)) from HS11.out) (fun _ => ?_)
            clear hK K
            try simp only [Act.put, List.setIfInBounds_toArray, List.set_cons_zero, List.set_cons_succ]
            refine wpAnyH_take (i := 10) (oi := ⟨some 122, _, _, _, _, _⟩) (v := .int .i64 ((k : Int) + 1)) rfl (by kernel_rfl) (by kernel_rfl) (by kernel_rfl) (fun _ _ _ h => h) (Or.inl ⟨by rfl, fun w s1 => by go_simp⟩) (show (w10.drew.drewN kk).cell? ⟨br, 4, none⟩ = some (.int .i64 (fl : Int)) from HS11.out) ?_
            try simp only [Act.put, List.setIfInBounds_toArray, List.set_cons_zero, List.set_cons_succ]
            refine wpAnyH_take (i := 11) (oi := ⟨some 123, _, _, _, _, _⟩) (v := .pointer (some ⟨b, o, none⟩)) rfl (by kernel_rfl) (by kernel_rfl) (by kernel_rfl) (fun _ _ _ h => h) (Or.inl ⟨by rfl, fun w s1 => by go_simp⟩) (show (w10.drew.drewN kk).cell? ⟨br, 4, none⟩ = some (.int .i64 (fl : Int)) from HS11.out) ?_
            try simp only [Act.put, List.setIfInBounds_toArray, List.set_cons_zero, List.set_cons_succ]
            refine wpAnyH_take (i := 12) (oi := ⟨some 124, _, _, _, _, _⟩) (v := .pointer (some ⟨b, o + 2, none⟩)) rfl (by kernel_rfl) (by kernel_rfl) (by kernel_rfl) (fun _ _ _ h => h) (Or.inl ⟨by rfl, fun w s1 => by go_simp⟩) (show (w10.drew.drewN kk).cell? ⟨br, 4, none⟩ = some (.int .i64 (fl : Int)) from HS11.out) ?_
            try simp only [Act.put, List.setIfInBounds_toArray, List.set_cons_zero, List.set_cons_succ]
            refine wpAnyH_ready (rs := [13]) (by kernel_rfl) (by simp) ?_
            refine AllReadyH.cons (o := ⟨none, _, _, _, _, _⟩) rfl (fun K hK => ?_) AllReadyH.nil
            go_simp
            refine hK.out _ _ ((cell_set_other _ _ _ _ hbrb).trans HS11.out) (fun _ => ?_)
            clear hK K
            try simp only [Act.put, List.setIfInBounds_toArray, List.set_cons_zero, List.set_cons_succ]
            refine wpAnyH_done (by kernel_rfl) ?_ _
            go_wp2_with fail
            exact HEND.out _ (below_drewN _ _)
      · obtain rfl : k = bs.length := by omega
        obtain ⟨sm, e0, hold⟩ := HCH.out.stop hkr
        rw [HNX.out.1] at hold
        have V := Lib.hid (bread_any HBr2.out KD2.out HC.out hbrF HSZ.out.1 (by have := HNX.out; omega) (by have := HNX.out; omega) (by have := HNX.out; omega) hold)
        clear hold
        refine (V.out).mono ?_
        rintro e3 w3 ⟨rv, rvs3, dv3, rfl, hst3, hBr3, hR3, hnil⟩
        obtain rfl := hnil rfl
        have B13 : Hid (Below wr.heap.size wr w3) := Lib.hid (B12.out.trans (hst3.below (fun q hq => by rw [show q = br from hq]; exact HBRG.out.1) B12.out.size))
        have x5 := hBr3.1.cell (i := 5) rfl
        have x4 := hBr3.1.cell (i := 4) rfl
        have hrn := fun w => rows_nil w
        obtain ⟨ssm, eSm⟩ : ∃ ssm : ByteArray, Str sm = .string ssm := ⟨_, rfl⟩
        rw [eSm]
        have HS6 : Hid (w3.drew.cell? ⟨br, 4, none⟩ = some (.int .i64 40)) := Lib.hid x4
        clear hst3 hBr3 hR3 V eSm hnil
        go_wp2_with fail
        refine wp_region_held_drew (S := (fun w' => w'.cell? ⟨br, 4, none⟩ = some (.int .i64 40))) (by kernel_rfl) HS6.out (fun hS => ?_)
        refine wpAnyH_take (i := 0) (oi := ⟨some 59, _, _, _, _, _⟩) (v := .slice none 0 0) rfl (by kernel_rfl) (by kernel_rfl) (by kernel_rfl) (fun _ _ _ h => h) (Or.inl ⟨by rfl, fun w s1 => by go_simp⟩) hS ?_
        try simp only [Act.put, List.setIfInBounds_toArray, List.set_cons_zero, List.set_cons_succ]
        refine wpAnyH_take (i := 1) (oi := ⟨some 60, _, _, _, _, _⟩) (v := .bool true) rfl (by kernel_rfl) (by kernel_rfl) (by kernel_rfl) (fun _ _ _ h => h) (Or.inl ⟨by rfl, fun w s1 => by go_simp⟩) hS ?_
        try simp only [Act.put, List.setIfInBounds_toArray, List.set_cons_zero, List.set_cons_succ]
        refine wpAnyH_take (i := 2) (oi := ⟨some 61, _, _, _, _, _⟩) (v := .bool true) rfl (by kernel_rfl) (by kernel_rfl) (by kernel_rfl) (fun _ _ _ h => h) (Or.inl ⟨by rfl, fun w s1 => by go_simp⟩) hS ?_
        try simp only [Act.put, List.setIfInBounds_toArray, List.set_cons_zero, List.set_cons_succ]
        refine wpAnyH_take (i := 3) (oi := ⟨some 62, _, _, _, _, _⟩) (v := undef) rfl (by kernel_rfl) (by kernel_rfl) (by kernel_rfl) (fun _ _ _ h => h) (Or.inr ⟨by rfl, rfl⟩) hS ?_
        try simp only [Act.put, List.setIfInBounds_toArray, List.set_cons_zero, List.set_cons_succ]
        refine wpAnyH_take (i := 4) (oi := ⟨some 63, _, _, _, _, _⟩) (v := undef) rfl (by kernel_rfl) (by kernel_rfl) (by kernel_rfl) (fun _ _ _ h => h) (Or.inr ⟨by rfl, rfl⟩) hS ?_
        try simp only [Act.put, List.setIfInBounds_toArray, List.set_cons_zero, List.set_cons_succ]
        refine wpAnyH_take (i := 5) (oi := ⟨some 64, _, _, _, _, _⟩) (v := undef) rfl (by kernel_rfl) (by kernel_rfl) (by kernel_rfl) (fun _ _ _ h => h) (Or.inr ⟨by rfl, rfl⟩) hS ?_
        try simp only [Act.put, List.setIfInBounds_toArray, List.set_cons_zero, List.set_cons_succ]
        refine wpAnyH_take (i := 6) (oi := ⟨some 65, _, _, _, _, _⟩) (v := undef) rfl (by kernel_rfl) (by kernel_rfl) (by kernel_rfl) (fun _ _ _ h => h) (Or.inr ⟨by rfl, rfl⟩) hS ?_
        try simp only [Act.put, List.setIfInBounds_toArray, List.set_cons_zero, List.set_cons_succ]
        refine wpAnyH_take (i := 7) (oi := ⟨some 66, _, _, _, _, _⟩) (v := undef) rfl (by kernel_rfl) (by kernel_rfl) (by kernel_rfl) (fun _ _ _ h => h) (Or.inr ⟨by rfl, rfl⟩) hS ?_
        try simp only [Act.put, List.setIfInBounds_toArray, List.set_cons_zero, List.set_cons_succ]
        refine wpAnyH_take (i := 8) (oi := ⟨some 67, _, _, _, _, _⟩) (v := undef) rfl (by kernel_rfl) (by kernel_rfl) (by kernel_rfl) (fun _ _ _ h => h) (Or.inr ⟨by rfl, rfl⟩) hS ?_
        try simp only [Act.put, List.setIfInBounds_toArray, List.set_cons_zero, List.set_cons_succ]
        refine wpAnyH_take (i := 9) (oi := ⟨some 68, _, _, _, _, _⟩) (v := undef) rfl (by kernel_rfl) (by kernel_rfl) (by kernel_rfl) (fun _ _ _ h => h) (Or.inr ⟨by rfl, rfl⟩) hS ?_
        try simp only [Act.put, List.setIfInBounds_toArray, List.set_cons_zero, List.set_cons_succ]
        refine wpAnyH_take (i := 10) (oi := ⟨some 69, _, _, _, _, _⟩) (v := undef) rfl (by kernel_rfl) (by kernel_rfl) (by kernel_rfl) (fun _ _ _ h => h) (Or.inr ⟨by rfl, rfl⟩) hS ?_
        try simp only [Act.put, List.setIfInBounds_toArray, List.set_cons_zero, List.set_cons_succ]
        refine wpAnyH_take (i := 11) (oi := ⟨some 70, _, _, _, _, _⟩) (v := undef) rfl (by kernel_rfl) (by kernel_rfl) (by kernel_rfl) (fun _ _ _ h => h) (Or.inr ⟨by rfl, rfl⟩) hS ?_
        try simp only [Act.put, List.setIfInBounds_toArray, List.set_cons_zero, List.set_cons_succ]
        refine wpAnyH_take (i := 12) (oi := ⟨some 71, _, _, _, _, _⟩) (v := undef) rfl (by kernel_rfl) (by kernel_rfl) (by kernel_rfl) (fun _ _ _ h => h) (Or.inr ⟨by rfl, rfl⟩) hS ?_
        try simp only [Act.put, List.setIfInBounds_toArray, List.set_cons_zero, List.set_cons_succ]
        refine wpAnyH_take (i := 13) (oi := ⟨some 72, _, _, _, _, _⟩) (v := undef) rfl (by kernel_rfl) (by kernel_rfl) (by kernel_rfl) (fun _ _ _ h => h) (Or.inr ⟨by rfl, rfl⟩) hS ?_
        try simp only [Act.put, List.setIfInBounds_toArray, List.set_cons_zero, List.set_cons_succ]
        refine wpAnyH_take (i := 14) (oi := ⟨some 73, _, _, _, _, _⟩) (v := undef) rfl (by kernel_rfl) (by kernel_rfl) (by kernel_rfl) (fun _ _ _ h => h) (Or.inr ⟨by rfl, rfl⟩) hS ?_
        try simp only [Act.put, List.setIfInBounds_toArray, List.set_cons_zero, List.set_cons_succ]
        refine wpAnyH_take (i := 15) (oi := ⟨some 74, _, _, _, _, _⟩) (v := undef) rfl (by kernel_rfl) (by kernel_rfl) (by kernel_rfl) (fun _ _ _ h => h) (Or.inr ⟨by rfl, rfl⟩) hS ?_
        try simp only [Act.put, List.setIfInBounds_toArray, List.set_cons_zero, List.set_cons_succ]
        refine wpAnyH_take (i := 16) (oi := ⟨some 75, _, _, _, _, _⟩) (v := undef) rfl (by kernel_rfl) (by kernel_rfl) (by kernel_rfl) (fun _ _ _ h => h) (Or.inr ⟨by rfl, rfl⟩) hS ?_
        try simp only [Act.put, List.setIfInBounds_toArray, List.set_cons_zero, List.set_cons_succ]
        refine wpAnyH_take (i := 17) (oi := ⟨some 76, _, _, _, _, _⟩) (v := undef) rfl (by kernel_rfl) (by kernel_rfl) (by kernel_rfl) (fun _ _ _ h => h) (Or.inr ⟨by rfl, rfl⟩) hS ?_
        try simp only [Act.put, List.setIfInBounds_toArray, List.set_cons_zero, List.set_cons_succ]
        refine wpAnyH_take (i := 18) (oi := ⟨some 77, _, _, _, _, _⟩) (v := undef) rfl (by kernel_rfl) (by kernel_rfl) (by kernel_rfl) (fun _ _ _ h => h) (Or.inr ⟨by rfl, rfl⟩) hS ?_
        try simp only [Act.put, List.setIfInBounds_toArray, List.set_cons_zero, List.set_cons_succ]
        refine wpAnyH_take (i := 19) (oi := ⟨some 78, _, _, _, _, _⟩) (v := undef) rfl (by kernel_rfl) (by kernel_rfl) (by kernel_rfl) (fun _ _ _ h => h) (Or.inr ⟨by rfl, rfl⟩) hS ?_
        try simp only [Act.put, List.setIfInBounds_toArray, List.set_cons_zero, List.set_cons_succ]
        refine wpAnyH_take (i := 20) (oi := ⟨some 79, _, _, _, _, _⟩) (v := undef) rfl (by kernel_rfl) (by kernel_rfl) (by kernel_rfl) (fun _ _ _ h => h) (Or.inr ⟨by rfl, rfl⟩) hS ?_
        try simp only [Act.put, List.setIfInBounds_toArray, List.set_cons_zero, List.set_cons_succ]
        refine wpAnyH_take (i := 21) (oi := ⟨some 80, _, _, _, _, _⟩) (v := .bool true) rfl (by kernel_rfl) (by kernel_rfl) (by kernel_rfl) (fun _ _ _ h => h) (Or.inl ⟨by rfl, fun w s1 => by go_simp⟩) hS ?_
        try simp only [Act.put, List.setIfInBounds_toArray, List.set_cons_zero, List.set_cons_succ]
        refine wpAnyH_take (i := 22) (oi := ⟨some 58, _, _, _, _, _⟩) (v := .bool true) rfl (by kernel_rfl) (by kernel_rfl) (by kernel_rfl) (fun _ _ _ h => h) (Or.inl ⟨by rfl, fun w s1 => by go_simp⟩) hS ?_
        try simp only [Act.put, List.setIfInBounds_toArray, List.set_cons_zero, List.set_cons_succ]
        refine wpAnyH_done (by kernel_rfl) ?_ _
        go_wp2_with fail
        try rw [Exit.noGoto_ret]
        go_ret
        exact ⟨rfl, FIN.out _ (by first | trivial | rfl) B13.out.drew⟩
    · have hkb : k = bs.length := by omega
      have ikr : ¬ (k : Int) < (room : Int) := by omega
      clear hI hF t1 t2 hB hR
      go_wp2_with fail
      go_quiet (fail)
      go_wp2_with fail
      try rw [Exit.noGoto_ret]
      go_ret
      exact ⟨rfl, FIN.out _ hkb (below_drewN wr nq)⟩
end
end Go.Proofs.YtcpcnfedbffecaaDoor
