/- Contract of the batch reader's 'read', of a batch within one sector. -/
import Derived.Test.YtcpcnfedbffecaaDoorJnI
namespace Go.Proofs.YtcpcnfedbffecaaDoor
open Go.RowKit Go.Maps
set_option linter.unusedSimpArgs false
namespace Jn
/-- The sector S holds the batch l of epoch e behind the sum sm. -/
structure Holds (S sm : List UInt8) (e : Nat) (l : List (List UInt8)) : Prop where
  smb : sm.length = 32
  fits : flen l ≤ S.length
  eb : e < 2147483648
  lb : l.length ≤ 10000
  len : S.length ≤ 4096
  pos : ∀ r ∈ l, 0 < r.length
  eq : S.take (flen l) = sm ++ body e l
theorem Holds.split {S sm : List UInt8} {e : Nat} {l : List (List UInt8)} (h : Holds S sm e l) : ∃ rest, S = sm ++ (num e ++ (num l.length ++ (recs l ++ rest))) := by
  obtain ⟨rest, hr⟩ : ∃ rest, S.drop (flen l) = rest := ⟨_, rfl⟩
  have h2 := List.take_append_drop (flen l) S
  rw [h.eq, hr] at h2
  refine ⟨rest, ?_⟩
  rw [← h2]
  simp only [body, List.append_assoc]
theorem Holds.rcd {S sm : List UInt8} {e : Nat} {l : List (List UInt8)} (h : Holds S sm e l) (k : Nat) (hk : k < l.length) :
    ((S.drop (40 + (recs (l.take k)).length)).take 4) = num l[k].length ∧ ((S.drop (40 + (recs (l.take k)).length + 4)).take l[k].length) = l[k] ∧ 40 + (recs (l.take k)).length + 4 + l[k].length = 40 + (recs (l.take (k + 1))).length ∧ 40 + (recs (l.take (k + 1))).length ≤ S.length := by
  obtain ⟨rest, hS⟩ := h.split
  have h1 : recs l = recs (l.take k) ++ (num l[k].length ++ (l[k] ++ recs (l.drop (k + 1)))) := by
    unfold recs
    conv => lhs; rw [← List.take_append_drop k l, List.flatMap_append, List.drop_eq_getElem_cons hk, List.flatMap_cons, List.append_assoc]
  have h2 : S.drop (40 + (recs (l.take k)).length) = num l[k].length ++ (l[k] ++ (recs (l.drop (k + 1)) ++ rest)) := by
    rw [hS, h1]
    have : 40 + (recs (l.take k)).length = (sm ++ (num e ++ (num l.length ++ recs (l.take k)))).length := by simp [h.smb]; omega
    rw [this]
    have e2 : sm ++ (num e ++ (num l.length ++ (recs (l.take k) ++ (num l[k].length ++ (l[k] ++ recs (l.drop (k + 1)))) ++ rest))) = (sm ++ (num e ++ (num l.length ++ recs (l.take k)))) ++ (num l[k].length ++ (l[k] ++ (recs (l.drop (k + 1)) ++ rest))) := by simp only [List.append_assoc]
    rw [e2, List.drop_left]
  refine ⟨by rw [h2]; rfl, ?_, ?_, ?_⟩
  · rw [← List.drop_drop, h2]
    show ((l[k] ++ _).take _) = _
    exact List.take_left' rfl
  · rw [recs_snoc l k hk]; simp only [List.length_append, num_length]; omega
  · have h3 : (recs (l.take (k + 1))).length ≤ (recs l).length := by
      conv => rhs; rw [← List.take_append_drop (k + 1) l]
      unfold recs
      rw [List.flatMap_append, List.length_append]; omega
    have := h.fits
    unfold flen at this; omega
theorem Holds.head {S sm : List UInt8} {e : Nat} {l : List (List UInt8)} (h : Holds S sm e l) : (S.drop 0).take 32 = sm ∧ (S.drop 32).take 4 = num e ∧ (S.drop 36).take 4 = num l.length := by
  obtain ⟨rest, hS⟩ := h.split
  have h32 := h.smb
  refine ⟨?_, ?_, ?_⟩
  · rw [hS, List.drop_zero]; exact List.take_left' h32
  · rw [hS, show (32 : Nat) = sm.length from h32.symm, List.drop_left]; rfl
  · rw [hS, show (36 : Nat) = (sm ++ num e).length from by simp [h32], show sm ++ (num e ++ (num l.length ++ (recs l ++ rest))) = (sm ++ num e) ++ (num l.length ++ (recs l ++ rest)) from by simp, List.drop_left]; rfl
end Jn
theorem Stp.then_below {F : Nat → Prop} {w w1 w2 : World} (h : Stp F w w1) (hb : Below w.heap.size w1 w2) : Stp F w w2 :=
  ⟨hb.os.trans h.os, hb.tape.trans h.tape, hb.output.trans h.output, Nat.le_trans h.size hb.size, fun k hk hn => (hb.block k hk).trans (h.keep k hk hn)⟩
section
variable {w w' : World} {F G FD : Nat → Prop} {s : DSt} {br bd nx nx' en off n e : Nat} {dv : Value} {sm : List UInt8} {l : List (List UInt8)}
set_option maxRecDepth 100000 in
set_option maxHeartbeats 4000000 in
theorem bread_any (h : BrAt w br bd nx en (.slice none 0 0) [] 0) (hD : DiskAt w s bd FD) (hc : s.Calm) (hbr : ¬ FD br) (hsz : 64 ≤ s.size) (hnx : nx < en) (hen2 : en ≤ 65536) (hnd : nx < s.dur.length) (hS : Jn.Holds (s.look nx) sm e l) :
    Calls Tryd.prog 36 #[.pointer (some ⟨br, 0, none⟩)] w fun en' w' =>
      ∃ rv rvs dv', en' = .returned (.tuple #[Str sm, .int .i64 (e : Int), rv]) ∧ Stp (fun k => k = br) w w' ∧ BrAt w' br bd (nx + 1) en dv' (s.look nx) (Jn.flen l) ∧ RecsR w' (fun k => w.heap.size ≤ k ∧ k < w'.heap.size) rv rvs l ∧ (l = [] → rv = .slice none 0 0) := by
  obtain ⟨S, hSe⟩ : ∃ S, s.look nx = S := ⟨_, rfl⟩
  have hSl : S.length = s.size := by rw [← hSe]; exact DSt.look_len hD.ok hnd
  rw [hSe] at hS ⊢
  have hs2 := hD.ok.size2
  have V1 := take_any (n := 32) (D' := S) (nx' := nx + 1) h hD hc hbr (by omega) (by omega) (by omega) hen2 (by simp) (by simp) (.inr ⟨rfl, rfl, hSe.symm, by omega, rfl, hnx, hnd, rfl⟩)
  obtain ⟨hh1, hh2, hh3⟩ := hS.head
  rw [hh1] at V1
  have HV1 := Lib.hid V1
  have HD := Lib.hid hD
  have HC := Lib.hid hc
  have HBR := Lib.hid hbr
  have HS := Lib.hid hS
  have HH2 := Lib.hid hh2
  have HH3 := Lib.hid hh3
  have hbrl := h.1.lt
  have HFI : Hid (Inn FD w) := Lib.hid hD.inn
  have HSL := Lib.hid hSl
  have HSZ := Lib.hid (And.intro hsz hs2)
  have HB := Lib.hid (And.intro hnx hen2)
  have hll := hS.lb
  have KD : Hid (∀ wr, Stp (fun k => k = br) w wr → DiskAt wr s bd FD) := Lib.hid (fun wr st => hD.same (st.same hD.inn (fun k hk hb => hbr (hb ▸ hk))) st.size)
  have eSm : Str sm = .string ⟨sm.toArray⟩ := rfl
  obtain ⟨ss, hss⟩ : ∃ ss : ByteArray, (⟨sm.toArray⟩ : ByteArray) = ss := ⟨_, rfl⟩
  rw [eSm, hss]
  have HSS := Lib.hid hss
  clear h hD hc hbr hS hh1 hh2 hh3 V1 hSe hnx hnd hsz hs2 hSl eSm hss
  go_enter Tryd.func36, Tryd.ntmps36
  go_wp2_with (go_at_call 43; refine (HV1.out).mono ?_; rintro e1 w1 ⟨sv, dv1, rfl, hst1, hBr1, hbv1⟩; have hcv := hbv1.convS; rw [HSS.out] at hcv; have X1 := Lib.hid (And.intro hst1 hBr1); clear hst1 hBr1 hbv1 HV1)
  have V2 := number_any X1.out.2 (KD.out _ X1.out.1) HC.out HBR.out (by have := HB.out; omega) HB.out.2 (by have := HSL.out; have := HSZ.out; omega) (by have := HSL.out; have := HSZ.out; omega)
  rw [HH2.out, Jn.val_num e HS.out.eb] at V2
  have HV2 := Lib.hid V2
  clear V2 hcv
  refine (HV2.out).mono ?_
  rintro e2 w2 ⟨dv2, rfl, hst2, hBr2⟩
  have X2 := Lib.hid (And.intro (X1.out.1.trans' hst2) hBr2)
  clear hst2 hBr2 HV2 X1
  go_wp2_with fail
  have V3 := number_any X2.out.2 (KD.out _ X2.out.1) HC.out HBR.out (by have := HB.out; omega) HB.out.2 (by have := HSL.out; have := HSZ.out; omega) (by have := HSL.out; have := HSZ.out; omega)
  rw [show 0 + 32 + 4 = 36 from rfl, HH3.out, Jn.val_num l.length (by omega)] at V3
  have HV3 := Lib.hid V3
  clear V3
  refine (HV3.out).mono ?_
  rintro e3 w3 ⟨dv3, rfl, hst3, hBr3⟩
  have X3 : Hid (Stp (fun k => k = br) w w3 ∧ BrAt w3 br bd (nx + 1) en dv3 S 40) := Lib.hid (And.intro (X2.out.1.trans' hst3) hBr3)
  clear hst3 hBr3 HV3 X2
  go_wp2_with fail
  obtain ⟨i0, hi0, hz0, hz1, hz2⟩ := info_parts Tryd.infoRow
  go_loopw [12, 36] (fun v i wr => ∃ k : Nat, k ≤ l.length ∧ i = .int .i64 (k : Int) ∧ Stp (fun k => k = br) w wr ∧ (∃ dv, BrAt wr br bd (nx + 1) en dv S (40 + (Jn.recs (l.take k)).length)) ∧ (∃ rvs, RecsR wr (fun k => w.heap.size ≤ k ∧ k < wr.heap.size) v rvs (l.take k)) ∧ (k = 0 → v = .slice none 0 0)) (fun _ i _ => l.length - (intOf i).toNat)
  case atStart => exact ⟨0, Nat.zero_le _, rfl, X3.out.1, ⟨dv3, by rw [List.take_zero]; exact X3.out.2⟩, ⟨[], by rw [List.take_zero]; exact RecsR.nil⟩, fun _ => rfl⟩
  case round =>
    obtain ⟨k, hk, rfl, hst, ⟨dvk, hBr⟩, ⟨rvs, hR⟩, hnil⟩ := hrel
    clear X3
    obtain ⟨va, vc, rfl, -, -, -⟩ := RecsV.form ⟨rvs, hR⟩
    have hnk : (l.take k).length = k := by rw [List.length_take]; omega
    rw [hnk] at hR ⊢
    by_cases hlt : k < l.length
    · have ik : (k : Int) < (l.length : Int) := by omega
      obtain ⟨r1, r2, r3, r4⟩ := HS.out.rcd k hlt
      have htk : l.take (k + 1) = l.take k ++ [l[k]] := List.take_succ_eq_append_getElem hlt
      have hpos := HS.out.pos l[k] (List.getElem_mem _)
      obtain ⟨r, hr⟩ : ∃ r, l[k] = r := ⟨_, rfl⟩
      rw [hr] at r1 r2 r3 htk hpos
      obtain ⟨ok1, hok1⟩ : ∃ o, 40 + (Jn.recs (l.take k)).length = o := ⟨_, rfl⟩
      obtain ⟨ok2, hok2⟩ : ∃ o, 40 + (Jn.recs (l.take (k + 1))).length = o := ⟨_, rfl⟩
      rw [hok1] at r1 r2 r3 hBr
      rw [hok2] at r3 r4
      have hSb : S.length ≤ 4096 := HS.out.len
      have V := number_any hBr (KD.out _ hst) HC.out HBR.out (by have := HB.out; omega) HB.out.2 (by omega) (by omega)
      rw [r1, Jn.val_num r.length (by omega)] at V
      have HV := Lib.hid V
      have HST := Lib.hid hst
      have HR := Lib.hid hR
      have HTK := Lib.hid htk
      have HOK := Lib.hid (And.intro hok1 hok2)
      have H2 := Lib.hid r2
      have H3 := Lib.hid (And.intro r3 (And.intro r4 hpos))
      have HNK := Lib.hid hnk
      have hrb : r.length ≤ 4096 := by omega
      clear hst hBr hR hnil r1 r2 r3 r4 htk hr hok1 hok2 hnk V hpos hSb
      go_wp2_with fail
      refine (HV.out).mono ?_
      rintro e5 w5 ⟨dv5, rfl, hst5, hBr5⟩
      have HST5 := Lib.hid (HST.out.trans' hst5)
      have V2 := take_any (n := r.length) (D' := S) (nx' := nx + 1) hBr5 (KD.out _ HST5.out) HC.out HBR.out H3.out.2.2 (by omega) (by have := HB.out; omega) HB.out.2 (by have := H3.out; omega) (by have := HS.out.len; omega) (.inl ⟨rfl, by have := H3.out; omega, rfl⟩)
      rw [H2.out] at V2
      have HV2 := Lib.hid V2
      have S5 := Lib.hid hst5
      clear V2 hst5 hBr5 HV
      go_wp2_with fail
      refine (HV2.out).mono ?_
      rintro e6 w6 ⟨sv, dv6, rfl, hst6, hBr6, hbv6⟩
      have X6 := Lib.hid (And.intro (HST5.out.trans' hst6) hBr6)
      have S6 := Lib.hid (S5.out.trans' hst6)
      obtain ⟨ya, yc, rfl, _, _, -⟩ := hbv6.get
      have VC := Lib.hid (clone_any hbv6 (by omega))
      clear hst6 hBr6 hbv6 HV2
      have hRN : Hid (RecsR w6 (fun k => w.heap.size ≤ k ∧ k < w6.heap.size) (.slice va k vc) rvs (l.take k)) := Lib.hid ((HR.out.same (S6.out.same (fun q hq => hq.2) (fun q hq hb => by have : q = br := hb; omega))).mono (fun q hq => ⟨hq.1, Nat.lt_of_lt_of_le hq.2 S6.out.size⟩))
      go_wp2_with (first | (go_at_call 29; refine (VC.out).mono ?_; rintro e7 w7 ⟨cv, rfl, hN7⟩; obtain ⟨ca, cc, rfl, -⟩ := hN7.2.1.form; have N7 := Lib.hid hN7; clear hN7) | (at_builtin; refine wpList_append_lies _ (by rfl) _ _ _ (by rfl) 0 39 i0 _ 1 24 Tryd.underlying32 hi0 hz0 hz1 hz2 rfl (by omega) (.slice va k vc) k rvs (by rfl) (by have h := hRN.out.1; rw [HNK.out] at h; exact Same.row (G := fun x => x < w6.heap.size) (fun x hx => (N7.out.alloc (.cells #[.slice ca r.length cc] 39)).1.block x hx) h (fun g hg => (hRN.out.2.2 g hg).2)) ⟨w7.heap.size, 0, none⟩ 1 1 [.slice ca r.length cc] (by rfl) (by rfl) (World.news_of_block (cs := #[.slice ca r.length cc]) (t := 39) (fr := (0, 0)) (heap_alloc_new w7 _)) (by simp [Value.oneCell']) (by omega) (by unfold maxLen; omega) (by omega) (by omega) _ rfl ?_))
      intro gg cap w8 hown hgrow hat hlt8
      have P := Lib.hid (RecsV.push1 X6.out.1.size hRN.out (N7.out.alloc (.cells #[.slice ca r.length cc] 39)).1 (N7.out.alloc (.cells #[.slice ca r.length cc] 39)).2.1 N7.out.2.2.2 HNK.out hown hgrow (hat.imp id (fun e => e.trans (by simp))) hlt8)
      have hB8 : Hid (Below w.heap.size w6 w8) := Lib.hid P.out.1
      have hgr := Lib.hid (And.intro hgrow hat)
      clear hown hgrow hat hlt8
      go_wp2_with fail
      have hBr8 : BrAt w8 br bd (nx + 1) en dv6 S (ok1 + 4 + r.length) := by
        refine ⟨X6.out.2.1.of_same (hB8.out.block br hbrl), X6.out.2.2.same (F := fun g => dv6.ownBlock = some g) (fun g hg => ?_) (fun g hg => hg)⟩
        obtain ⟨cur, hb'⟩ := ownsRow_blk X6.out.2.2 hg
        have hgl := hb'.lt
        refine (hgr.out.1.block g (Nat.lt_of_lt_of_le hgl (N7.out.alloc (.cells #[.slice ca r.length cc] 39)).1.size) (fun e9 => ?_)).trans ((N7.out.alloc (.cells #[.slice ca r.length cc] 39)).1.block g hgl)
        obtain ⟨cur2, hb2⟩ := ownsRow_blk hRN.out.1 e9.symm
        exact absurd (hb'.inj hb2).2 (by decide)
      refine ⟨⟨k + 1, by omega, by go_num, X6.out.1.then_below hB8.out, ⟨dv6, ?_⟩, ⟨_, by rw [HTK.out]; exact P.out.2⟩, fun h => by omega⟩, by simp [intOf]; omega⟩
      rw [HOK.out.2, ← H3.out.1]
      exact hBr8
    · obtain rfl : k = l.length := by omega
      rw [List.take_length] at hR hBr hnil
      have ik : ¬ (l.length : Int) < (l.length : Int) := by omega
      have HR := Lib.hid hR
      have HST := Lib.hid hst
      have HBR2 := Lib.hid hBr
      have HN := Lib.hid hnil
      clear hR hst hBr hnil
      go_wp2_with fail
      go_ret3
      exact ⟨_, rfl, HST.out, ⟨_, HBR2.out⟩, ⟨_, HR.out⟩, fun h => HN.out (by rw [h]; rfl)⟩
end
end Go.Proofs.YtcpcnfedbffecaaDoor
