/- Contract of drained. -/
import Derived.Test.YtggiinfeiilogaaDoorFrS
namespace Go.Proofs.YtggiinfeiilogaaDoor
open Go.RowKit
theorem Tryd.infoM : (Tryd.prog.info? 32).map (fun i => (i.zero, i.size, i.bytes)) = some (some (.agg #[.int .i64 0, .slice none 0 0]), 2, 32) := by kernel_rfl
def slen : Value → Nat
  | .slice _ n _ => n
  | _ => 0
section
variable {w w' : World} {F G : Nat → Prop} {v : Value} {l : List UInt8} {B : Nat}
/-- What 'drained' has done. -/
def DrnPost (w : World) (b : Nat) (F : Nat → Prop) (l : List UInt8) (e : Ending) (w' : World) : Prop :=
  ∃ ms d sv er, e = .returned (.tuple #[sv, .int .i64 er]) ∧ Fr.Drains l ms d ∧ Stp F w w' ∧ DecAt w' b F d ∧ MsO w.heap.size w' sv ms ∧ ms.length ≤ l.length ∧ ((er = 0 ∧ ∃ r, d = .live r) ∨ (er = 9 ∧ ∃ n, d = .dead n))
theorem MsO.stp {L : List Fr.Msg} (h : MsO B w v L) (hF : ∀ k, F k → k < B) (hs : Stp F w w') : MsO B w' v L := h.same (fun k hk => hs.keep k hk.2 (fun e => by have := hF k e; omega)) hs.size
set_option maxRecDepth 100000 in
set_option maxHeartbeats 4000000 in
theorem drained_any {b : Nat} (h : DecAt w b F (.live l)) (hg : Glob w) (hgF : From (1 + 1) F) (hn : l.length ≤ 1000000000) :
    Calls Tryd.prog 36 #[.pointer (some ⟨b, 0, none⟩)] w (DrnPost w b F l) := by
  obtain ⟨i0, hi0, hz0, hz1, hz2⟩ := info_parts Tryd.infoM
  have H := Lib.hid h
  have HG := Lib.hid hg
  have HGF := Lib.hid hgF
  have HFB : Hid (∀ k, F k → k < w.heap.size) := Lib.hid h.2.1
  have M0 := Lib.hid (MsO.empty (w := w) (Nat.le_refl w.heap.size))
  have S0 : Hid (Stp F w (w.alloc (.cells #[] 32))) := Lib.hid ((Stp.refl _ _).alloc _)
  have D0 : Hid (DecAt (w.alloc (.cells #[] 32)) b F (.live l)) := Lib.hid (h.grow ((Below.refl _ _).alloc (Nat.le_refl _) _))
  clear h hg hgF
  go_enter Tryd.func36, Tryd.ntmps36
  go_wp2_with fail
  go_loopw [4] (fun sv wr => ∃ (acc : List Fr.Msg) (cur : List UInt8), (∀ ms d, Fr.Drains cur ms d → Fr.Drains l (acc ++ ms) d) ∧ acc.length + cur.length ≤ l.length ∧ Stp F w wr ∧ DecAt wr b F (.live cur) ∧ MsO w.heap.size wr sv acc) (fun sv _ => l.length - slen sv)
  case atStart => exact ⟨[], l, (fun ms d hd => hd), by simp, S0.out, D0.out, M0.out⟩
  case round =>
    clear S0 D0 M0
    obtain ⟨acc, cur, hdr, hle, hst, hD, hM⟩ := hrel
    obtain ⟨sa, sc, rfl, hac, hcm⟩ := hM.shape
    have HDR := Lib.hid hdr
    have HLE := Lib.hid hle
    have HST := Lib.hid hst
    have HD := Lib.hid hD
    have HM := Lib.hid hM
    have hG1 : Glob wr := HG.out.keep (fun k hk => hst.keep k (by have := HG.out.lt; omega) (fun e => by have := HGF.out k e; omega)) hst.size
    have HG1 := Lib.hid hG1
    clear hdr hle hst hD hM hG1
    go_wp2_with fail
    refine (next_live HD.out HG1.out HGF.out (by have := HLE.out; omega)).mono ?_
    rintro e w2 ⟨hst2, hN2⟩
    have hst02 := HST.out.trans' hst2
    have hM2 := HM.out.stp HFB.out hst2
    unfold NextPost at hN2
    cases hstep : Fr.step cur with
    | need =>
      rw [hstep] at hN2
      obtain ⟨rfl, hD2⟩ := hN2
      have HX : Hid (Fr.Drains l (acc ++ []) (.live cur)) := Lib.hid (HDR.out [] (.live cur) (.need hstep))
      have ST := Lib.hid hst02
      have D2 := Lib.hid hD2
      have M2 := Lib.hid hM2
      clear hst2 hst02 hM2 hD2 hstep
      rw [List.append_nil] at HX
      go_wp2_with fail
      go_ret2
      have hbz : Below w2.heap.size w2 (w2.alloc (.cells #[.int .i64 0, .slice none 0 0] 32)) := (Below.refl _ _).alloc (Nat.le_refl _) _
      exact ⟨acc, _, _, _, rfl, HX.out, ST.out.alloc _, D2.out.grow hbz, M2.out.grow hbz, by have := HLE.out; omega, .inl ⟨rfl, _, rfl⟩⟩
    | bad =>
      rw [hstep] at hN2
      obtain ⟨rfl, hD2⟩ := hN2
      have HX : Hid (Fr.Drains l (acc ++ []) (.dead cur.length)) := Lib.hid (HDR.out [] (.dead cur.length) (.bad hstep))
      have ST := Lib.hid hst02
      have D2 := Lib.hid hD2
      have M2 := Lib.hid hM2
      clear hst2 hst02 hM2 hD2 hstep
      rw [List.append_nil] at HX
      go_wp2_with fail
      go_ret2
      have hbz : Below w2.heap.size w2 (w2.alloc (.cells #[.int .i64 0, .slice none 0 0] 32)) := (Below.refl _ _).alloc (Nat.le_refl _) _
      exact ⟨acc, _, _, _, rfl, HX.out, ST.out.alloc _, D2.out.grow hbz, M2.out.grow hbz, by have := HLE.out; omega, .inr ⟨rfl, _, rfl⟩⟩
    | msg k body rest =>
      rw [hstep] at hN2
      obtain ⟨bv, rfl, hbv, hD2⟩ := hN2
      have hsh := Fr.step_shrinks hstep
      have HX : Hid (∀ ms d, Fr.Drains rest ms d → Fr.Drains l ((acc ++ [((k.toNat : Int), body)]) ++ ms) d) := Lib.hid (fun ms d hd => by rw [List.append_assoc]; exact HDR.out _ _ (.msg hstep hd))
      obtain ⟨xa, xc, rfl, _⟩ := hbv.get
      have hwr : w.heap.size ≤ wr.heap.size := HST.out.size
      have hown2 : ∀ y, (Value.slice sa acc.length sc).ownBlock = some y → y < wr.heap.size := HM.out.lt
      obtain ⟨w3, hw3⟩ : ∃ w3, (w2.alloc (.cells #[.int .i64 (k.toNat : Int), .slice xa body.length xc] 32)).alloc (.cells #[.int .i64 (k.toNat : Int), .slice xa body.length xc] 32) = w3 := ⟨_, rfl⟩
      have hb3 : Below w2.heap.size w2 w3 := by rw [← hw3]; exact ((Below.refl _ _).alloc (Nat.le_refl _) _).alloc (by simp) _
      have hs3 : w3.heap.size = w2.heap.size + 2 := by rw [← hw3]; simp
      have hbl3 : w3.heap[w2.heap.size + 1]? = some (.cells #[.int .i64 (k.toNat : Int), .slice xa body.length xc] 32) := by
        rw [← hw3]
        have := heap_alloc_new (w2.alloc (.cells #[.int .i64 (k.toNat : Int), .slice xa body.length xc] 32)) (.cells #[.int .i64 (k.toNat : Int), .slice xa body.length xc] 32)
        simpa using this
      have M3 := Lib.hid (hM2.grow hb3)
      have D3 := Lib.hid (hD2.grow hb3)
      have ST3 := Lib.hid (hst02.trans (Stp.of_below _ hb3))
      have X3 : Hid (BV w3 (fun y => w.heap.size ≤ y ∧ y < w3.heap.size ∧ (Value.slice sa acc.length sc).ownBlock ≠ some y) (.slice xa body.length xc) body) := Lib.hid ((hbv.grow hb3).mono (fun y hy => ⟨by omega, by omega, fun e => by have := hown2 y e; omega⟩))
      have HB3 := Lib.hid hbl3
      have HS3 := Lib.hid hs3
      have HSH := Lib.hid hsh
      obtain ⟨vs, hr, _, _, hel⟩ := id M3.out
      have HR := Lib.hid hr
      have HEL := Lib.hid hel
      have hal : acc.length ≤ 1000000000 := by have := HLE.out; omega
      clear hst2 hst02 hM2 hD2 hstep hbv hsh hwr hown2 hb3 hs3 hbl3 hr hel
      unfold msgV
      go_wp2_with (at_builtin; refine wpList_append_lies _ rfl (.tmp 19) (.tmp 21) 22 rfl 0 32 i0 _ 2 32 Tryd.underlying22 hi0 hz0 hz1 hz2 rfl (by omega) (.slice sa acc.length sc) acc.length vs (by rfl) HR.out ⟨w2.heap.size + 1, 0, none⟩ 1 1 [.int .i64 (k.toNat : Int), .slice xa body.length xc] (by rfl) (by rfl) (World.news_of_block (cs := #[.int .i64 (k.toNat : Int), .slice xa body.length xc]) (t := 32) (fr := (0, 0)) HB3.out) (by simp [Value.oneCell']) (by omega) (by unfold maxLen; omega) (by omega) (by omega) w3.heap.size rfl ?_; intro gg cap w5 hown5 hg5 hat5 hlt5; have M5 := Lib.hid (MsO.push M3.out (m := ((k.toNat : Int), body)) X3.out rfl (fun _ => HEL.out) HR.out hown5 hg5 hat5); have HG5 := Lib.hid hg5; clear hown5 hg5 hat5 hlt5)
      have hfo : ∀ y, F y → y < w3.heap.size ∧ (Value.slice sa acc.length sc).ownBlock ≠ some y := fun y hy => ⟨D3.out.2.1 y hy, fun e => by have := M3.out; obtain ⟨_, _, q, _⟩ := this; have := q y e; have := HFB.out y hy; omega⟩
      have ST5 : Stp F w w5 := ST3.out.grown HG5.out (fun y hy => .inr (by have := M3.out; obtain ⟨_, _, q, _⟩ := this; exact q y hy))
      have D5 : DecAt w5 b F (.live rest) := D3.out.same (fun y hy => HG5.out.block y (hfo y hy).1 (fun e => (hfo y hy).2 e.symm)) HG5.out.size
      refine ⟨⟨acc ++ [((k.toNat : Int), body)], rest, HX.out, ?_, ST5, D5, M5.out⟩, ?_⟩
      · have := HLE.out; have := HSH.out; rw [List.length_append, List.length_cons, List.length_nil]; omega
      · have := HLE.out; have := HSH.out; simp only [slen]; omega
end
end Go.Proofs.YtggiinfeiilogaaDoor
