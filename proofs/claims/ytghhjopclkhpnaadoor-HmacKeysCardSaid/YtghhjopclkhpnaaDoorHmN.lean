/- Contract of New. -/
import Derived.Test.YtghhjopclkhpnaaDoorHmS
import Derived.Test.YtghhjopclkhpnaaDoorBuild
import Derived.StillTailTactics
import Derived.Lib.BufferWrite
namespace Go.Proofs.YtghhjopclkhpnaaDoor
open Go.RowKit
theorem exec_build {P : Program} {S : World → Prop} {o : Oper} {a : Act} {v : Value} (t : TypeId) (parts : Array (Nat × Operand)) (ho : o.op = .build t parts) (ev : Array (Nat × Value)) (he : (parts.map fun (i, x) => (i, a.eval x)) = ev) (hrun : ∀ w, (Instr.build t ev).run P w = .ok v w) :
    ∀ w, S w → (execOp a.eval o).run P w = .ok (.value v) w := fun w _ => by
  simp only [execOp, ho, he, Sem.run_bind, Sem.run_pure, Result.andThen_ok, hrun]
/-- 'copy(dst, s)', s a string that fits, dst in a block that is known whole. -/
theorem wpList_copy_str {P : Program} {w : World} {ops : Array Oper} {rest : List Oper} {o : Oper} {a : Act} {Q : Exit → Act → World → Prop} (hgd : o.guard = none) (d s : Operand) (dT sT : TypeId)
    (ho : o.op = .call { callee := .builtin .copy, args := #[d, s], argTypes := #[dT, sT] }) (elem : TypeId) (hu : P.underlying dT = some (.slice elem)) (hsz : (P.info? elem).map (·.size) = some 1)
    (g off n cap : Nat) (hd : a.eval d = .slice (some ⟨g, off, none⟩) n cap) (v : ByteArray) (hs : a.eval s = .string v)
    (cur : List Value) (T : TypeId) (hb : Blk w g cur T) (hle : v.size ≤ n) (hfit : off + v.size ≤ cur.length)
    (h : wpList P ops Q rest (a.put o.dst (goInt v.size)) (w.setRow g (cur.take off ++ By v.data.toList ++ cur.drop (off + v.size)).toArray)) : wpList P ops Q (o :: rest) a w := by
  refine wpList_plain hgd fun K hK' => ?_
  have hrun := Lib.run_copy_row_string (P := P) w dT sT o.type elem g off n cap v cur.toArray T hu hsz hb hle (by simpa using hfit)
  unfold Oper.wp
  simp only [execOp, ho, resolve, invoke, builtin, Sem.run_bind, Sem.run_pure, Result.andThen_ok, List.map_toArray, List.map_cons, List.map_nil, hd, hs, hrun]
  exact hK' _ _ h
theorem fill_row (k : List UInt8) (h : k.length ≤ 64) : zb64.toList.take 0 ++ By k ++ zb64.toList.drop (0 + k.length) = By (Hm.fill k) := by
  have e : Hm.fill k = k ++ List.replicate (64 - k.length) 0 := by
    apply List.ext_getElem
    · rw [Hm.fill_length]; simp; omega
    · intro i h1 h2
      simp only [Hm.fill, List.getElem_map, List.getElem_range]
      by_cases hi : i < k.length
      · rw [List.getElem_append_left hi]; simp [List.getD, hi]
      · rw [List.getElem_append_right (by omega)]; simp [List.getD, List.getElem?_eq_none (show k.length ≤ i by omega)]
  rw [e, By_append, By_zero, List.take_zero, List.nil_append, Nat.zero_add]
  unfold zb64
  rw [List.drop_replicate]
section
variable {w w' : World}
theorem combined92 {w : World} {f : Nat} {k : List UInt8} (hf : Blk w f (By (Hm.fill k)) 45) : Calls Tryd.prog 32 #[.int .u8 92, .pointer (some ⟨f, 0, none⟩)] w fun e w' => e = .returned (.agg (By (Hm.pad k 92)).toArray) ∧ Below w.heap.size w w' := combined_any 92 hf
theorem combined54 {w : World} {f : Nat} {k : List UInt8} (hf : Blk w f (By (Hm.fill k)) 45) : Calls Tryd.prog 32 #[.int .u8 54, .pointer (some ⟨f, 0, none⟩)] w fun e w' => e = .returned (.agg (By (Hm.pad k 54)).toArray) ∧ Below w.heap.size w w' := combined_any 54 hf
set_option maxRecDepth 100000 in
set_option maxHeartbeats 2000000 in
theorem macnew_any (w : World) (s : ByteArray) (hg : Glob w) (hlen : s.size ≤ 1000000000) :
    Calls Tryd.prog 16 #[.string s] w fun e w' => ∃ b, e = .returned (.pointer (some ⟨b, 0, none⟩)) ∧ w.heap.size ≤ b ∧ Below w.heap.size w w' ∧ MacIs w' b s.data.toList [] := by
  have HG := Lib.hid hg; clear hg
  have hz := Tryd.zeroB64
  have hsl : s.data.toList.length = s.size := rfl
  obtain ⟨k, hk⟩ : ∃ k, s.data.toList = k := ⟨_, rfl⟩
  rw [hk] at hsl ⊢
  have HK := Lib.hid hk
  have HSL := Lib.hid hsl
  clear hsl hk
  by_cases h64 : 64 < s.size
  · have i64 : (64 : Int) < (s.size : Int) := by omega
    go_enter Tryd.func16, Tryd.ntmps16
    go_wp2_with fail
    have hb0 := (Below.refl w.heap.size w).alloc (Nat.le_refl _) (.cells #[.string s] 9)
    have hc : Cat [s] = k := by have := HK.out; simpa [Cat] using this
    refine (shajoin_any (StringsV.one w s) (HG.out.below hb0 HG.out.lt) (by rw [hc, HSL.out]; exact hlen)).mono ?_
    rintro e w1 ⟨rfl, hb1⟩
    have B1 := Lib.hid (hb0.trans (hb1.mono hb0.size))
    rw [hc]
    obtain ⟨S, hS⟩ : ∃ S : ByteArray, (⟨(Sha.sum k).toArray⟩ : ByteArray) = S := ⟨_, rfl⟩
    rw [hS]
    have HS : Hid (S.data.toList = Hm.key k) := by
      have := HSL.out
      show S.data.toList = Hm.key k
      unfold Hm.key; rw [if_pos (by omega), ← hS]
    have HSZ : Hid (S.size ≤ 64) := by
      have := Hm.key_length k
      rw [← HS.out] at this
      exact this
    have HG1 := Lib.hid (HG.out.below B1.out HG.out.lt)
    have B0 := Lib.hid B1.out.size
    clear hb0 hb1 hc hS
    have F0 : Hid (Blk (w1.alloc (.cells zb64 45)) w1.heap.size zb64.toList 45) := Blk.new w1 zb64.toList _
    have W0 := Lib.hid ((Below.refl w1.heap.size w1).alloc (Nat.le_refl _) (.cells zb64 45))
    go_wp2_with (refine wpList_copy_str rfl (.tmp 13) (.tmp 14) _ _ rfl 5 Tryd.underlying22 Tryd.sizeB w1.heap.size 0 64 64 (by rfl) S (by rfl) zb64.toList _ F0.out HSZ.out (by rw [zb64_len]; have := HSZ.out; omega) ?_; rw [show S.size = S.data.toList.length from rfl, HS.out, fill_row _ (Hm.key_length _)])
    have F1 := Lib.hid (F0.out.setRow (By (Hm.fill (Hm.key k))))
    have W1 := Lib.hid (below_setRow W0.out (Nat.le_refl _) (By (Hm.fill (Hm.key k))).toArray)
    have Z1 : Hid (((w1.alloc (.cells zb64 45)).setRow w1.heap.size (By (Hm.fill (Hm.key k))).toArray).heap.size = w1.heap.size + 1) := by show Array.size _ = _; simp [World.setRow]
    generalize (w1.alloc (.cells zb64 45)).setRow w1.heap.size (By (Hm.fill (Hm.key k))).toArray = w2 at *
    have HF : Hid (1 < 2 ∧ 2 + 1 ≤ w1.heap.size) := HG1.out.lt
    generalize hf : w1.heap.size = f at *
    have Hf := Lib.hid hf
    clear F0 W0 hf
    go_wp2_with fail
    have G2 := Lib.hid (HG1.out.below W1.out HF.out)
    refine wp_region_noPanic ?_
    refine wp_region_any (by kernel_rfl) ?_
    change wpAny _ _ _ _ _ _ _ (World.drew _)
    have F2 : Hid (Blk w2.drew f (By (Hm.fill (Hm.key k))) 45) := F1.out
    have W2 := Lib.hid W1.out.drew
    have G3 : Hid (Glob w2.drew) := Lib.hid (G2.out.below (Below.refl _ _).drew G2.out.lt)
    have Z2 : Hid (w2.drew.heap.size = f + 1) := Z1.out
    clear F1 W1 Z1 G2
    generalize w2.drew = w3 at *
    refine wpAny_take (i := 3) (v := .func (Fn.func 32) #[] #[.pointer (some ⟨f, 0, none⟩)]) rfl (by kernel_rfl) (by kernel_rfl) (by kernel_rfl) (fun _ _ _ h => h) (Or.inl ⟨by rfl, fun w => by go_simp⟩) ?_
    refine wpAny_take (i := 4) (v := .pointer (some ⟨0, 1, none⟩)) rfl (by kernel_rfl) (by kernel_rfl) (by kernel_rfl) (fun _ _ _ h => h) (Or.inl ⟨by rfl, fun w => by go_simp⟩) ?_
    refine wpAny_ready (rs := [0, 5]) (by kernel_rfl) (by simp) ?_
    refine AllReady.cons rfl (fun K hK => ?_) ?_
    · go_simp
      refine (shanew_any G3.out).mono ?_
      rintro e w4 ⟨b1, rfl, hb1, hbe, hS⟩
      refine hK _ _ ?_
      clear hK K
      obtain ⟨v, buf, h64b, hv, hbt, hB4⟩ := hS
      obtain ⟨L, hL⟩ : ∃ L, shaCells v buf 0 = L := ⟨_, rfl⟩
      have hLl : L.length = 73 := by rw [← hL]; exact shaCells_length h64b
      have hB4' : Blk w4 b1 L 50 := by rw [← hL]; rw [List.append_nil] at hB4; exact hB4
      have HL := Lib.hid hL
      have HLl := Lib.hid hLl
      have HB4 := Lib.hid hB4'
      have HV := Lib.hid (show v = Sha.iv from hv)
      have H64B := Lib.hid h64b
      have F4 := Lib.hid (F2.out.of_same (hbe.block _ (by have := Z2.out; omega)))
      have W4 := Lib.hid (W2.out.trans (hbe.mono (by have := Z2.out; omega)))
      have G4 := Lib.hid (G3.out.below hbe G3.out.lt)
      have Z4 : Hid (f + 1 ≤ w4.heap.size) := by have := Z2.out; have := hbe.size; show f + 1 ≤ w4.heap.size; omega
      have hb1' : b1 < w4.heap.size := hB4'.lt
      have Hb1 := Lib.hid hb1'
      clear hb1 hbe hv hbt hB4 hB4' hL hLl h64b hb1'
      refine wpAny_of_held (S := fun w' => w'.rangeAt b1 0 L ∧ w'.cell? ⟨0, 1, none⟩ = some (.int .u8 92)) _ _ _ _ ?_
      have hS1 : w4.rangeAt b1 0 L ∧ w4.cell? ⟨0, 1, none⟩ = some (.int .u8 92) := ⟨by have := HB4.out; rw [← List.append_nil L] at this; exact this.rangeAt, G4.out.pads.2⟩
      refine wpAnyH_take (i := 1) (v := .pointer (some ⟨b1, 0, none⟩)) rfl (by kernel_rfl) (by kernel_rfl) (by kernel_rfl) (fun _ _ _ h => h) (Or.inl ⟨by rfl, fun w _ => by go_simp⟩) hS1 ?_
      refine wpAnyH_take (i := 2) (v := .agg L.toArray) rfl (by kernel_rfl) (by kernel_rfl) (by kernel_rfl) (fun _ _ _ h => h) (yieldsIf_load_mid (by rfl) 50 (.tmp 18) rfl b1 0 (by rfl) L _ (fun w h => h.1) Tryd.underlying50 rfl (by rw [HLl.out]; exact Tryd.sizeState)) hS1 ?_
      refine wpAnyH_take (i := 5) (v := .int .u8 92) rfl (by kernel_rfl) (by kernel_rfl) (by kernel_rfl) (fun _ _ _ h => h) (Or.inl ⟨by rfl, fun w hSw => by have := hSw.2; go_simp⟩) hS1 ?_
      refine wpAnyH_ready (rs := [6]) (by kernel_rfl) (by simp) ?_
      refine AllReadyH.cons rfl (fun K hK => ?_) AllReadyH.nil
      go_simp
      refine (combined92 F4.out).mono ?_
      rintro e w5 ⟨rfl, hb5⟩
      have hS5 : w5.rangeAt b1 0 L ∧ w5.cell? ⟨0, 1, none⟩ = some (.int .u8 92) := ⟨by have := HB4.out.of_same (hb5.block _ Hb1.out); rw [← List.append_nil L] at this; exact this.rangeAt, (G4.out.below hb5 G4.out.lt).pads.2⟩
      refine hK.out _ _ hS5 (fun _ => ?_)
      clear hK K
      have F5 := Lib.hid (F4.out.of_same (hb5.block _ (by have := Z4.out; omega)))
      have W5 := Lib.hid (W4.out.trans (hb5.mono (by have := Z4.out; omega)))
      have G5 := Lib.hid (G4.out.below hb5 G4.out.lt)
      have Z5 : Hid (f + 1 ≤ w5.heap.size) := by have := Z4.out; have := hb5.size; show f + 1 ≤ w5.heap.size; omega
      obtain ⟨O, hO⟩ : ∃ O, By (Hm.pad (Hm.key k) 92) = O := ⟨_, rfl⟩
      rw [hO]
      have hOl : O.length = 64 := by rw [← hO, By_length, Hm.pad_length]
      have HO := Lib.hid hO
      have HOl := Lib.hid hOl
      have M0 : Hid (ShaIs (w5.alloc (.cells (L ++ O).toArray 57)) w5.heap.size [] O 57) :=
        ⟨v, buf, H64B.out, HV.out, by simp, by rw [show shaCells v buf ([] : List UInt8).length = L from HL.out]; exact Blk.new w5 (L ++ O) _⟩
      have bm := fun w => build_mac (L ++ O) (by rw [List.length_append, HLl.out, HOl.out]) w
      have bs := fun w => build_state L O HLl.out HOl.out w
      clear hO hOl hb5 F4 W4 G4 Z4 hS1 HB4 HV H64B HL Hb1
      refine wpAnyH_take (i := 7) (v := .agg (L ++ O).toArray) rfl (by kernel_rfl) (by kernel_rfl) (by kernel_rfl) (fun _ _ _ h => h) (Or.inl ⟨by rfl, exec_build 55 _ rfl #[(0, .agg L.toArray), (1, .agg O.toArray)] (by kernel_rfl) (fun w => bs w)⟩) hS5 ?_
      refine wpAnyH_take (i := 8) (v := .agg (L ++ O).toArray) rfl (by kernel_rfl) (by kernel_rfl) (by kernel_rfl) (fun _ _ _ h => h) (Or.inl ⟨by rfl, exec_build 57 _ rfl #[(0, .agg (L ++ O).toArray)] (by kernel_rfl) (fun w => bm w)⟩) hS5 ?_
      clear bm bs
      refine wpAnyH_ready (rs := [9]) (by kernel_rfl) (by simp) ?_
      refine AllReadyH.cons rfl (fun K hK => ?_) AllReadyH.nil
      go_simp
      refine hK.out _ _ ⟨World.rangeAt_alloc hS5.1 _, ((G5.out.below ((Below.refl _ _).alloc (Nat.le_refl _) _) G5.out.lt).pads.2)⟩ (fun hS6 => ?_)
      clear hK K hS5
      have W6 := Lib.hid (W5.out.alloc (by have := Z5.out; omega) (.cells (L ++ O).toArray 57))
      have G6 := Lib.hid (G5.out.below ((Below.refl _ _).alloc (Nat.le_refl _) (.cells (L ++ O).toArray 57)) G5.out.lt)
      have F6 := Lib.hid (F5.out.alloc (.cells (L ++ O).toArray 57))
      generalize w5.alloc (.cells (L ++ O).toArray 57) = w6 at *
      have HM5 : Hid (f ≤ w5.heap.size) := by have := Z5.out; show f ≤ w5.heap.size; omega
      have Hlt : Hid (w5.heap.size < w6.heap.size) := ShaIs.lt M0.out
      have Zm : Hid (f + 1 ≤ w5.heap.size) := Z5.out
      have Gm : Hid (1 < 2 ∧ 2 + 1 ≤ w5.heap.size) := G5.out.lt
      obtain ⟨m, hm⟩ : ∃ m, w5.heap.size = m := ⟨_, rfl⟩
      rw [hm] at M0 HM5 Hlt Zm Gm ⊢
      clear F5 W5 G5 Z5 hm
      refine wpAnyH_take (i := 10) (v := .pointer (some ⟨m, 0, none⟩)) rfl (by kernel_rfl) (by kernel_rfl) (by kernel_rfl) (fun _ _ _ h => h) (Or.inl ⟨by rfl, fun w _ => by go_simp⟩) hS6 ?_
      refine wpAnyH_done (by kernel_rfl) ?_ _
      refine NoPanic.normal ?_
      have p0 := G6.out.pads.1
      clear hS6
      go_wp2_with fail
      refine (combined54 F6.out).mono ?_
      rintro e w7 ⟨rfl, hb7⟩
      obtain ⟨I, hI⟩ : ∃ I, By (Hm.pad (Hm.key k) 54) = I := ⟨_, rfl⟩
      rw [hI]
      have hIl : I.length = 64 := by rw [← hI, By_length, Hm.pad_length]
      have hI1 : ∀ u ∈ I, u.oneCell' = true := by rw [← hI]; exact By_oneCell _
      have HI := Lib.hid hI
      have HIl := Lib.hid hIl
      have HI1 := Lib.hid hI1
      have M7 := Lib.hid (ShaIs.of_same M0.out (hb7.block _ Hlt.out))
      have W7 := Lib.hid (W6.out.trans (hb7.mono (by have := W6.out.size; have := Hf.out; omega)))
      have G7 := Lib.hid (G6.out.below hb7 G6.out.lt)
      have L7 : Hid (m < w7.heap.size) := Nat.lt_of_lt_of_le Hlt.out hb7.size
      have N7 : Hid (Blk (w7.alloc (.cells zb64 45)) w7.heap.size zb64.toList 45) := Blk.new w7 zb64.toList _
      clear hI hIl hI1 hb7 M0 W6 G6 F6 p0
      go_wp2_with (refine wpList_store_mid rfl 45 (.tmp 6) (.tmp 30) rfl w7.heap.size 0 I.toArray (by rfl) (by rfl) (N7.out.there (by rw [List.size_toArray, HIl.out, zb64_len]; exact Nat.le_refl _)) (by rw [List.size_toArray, HIl.out]; exact Tryd.sizeB64) (all_oneCell_toArray HI1.out) ?_; change wpList _ _ _ _ _ ((w7.alloc (.cells zb64 45)).setCells w7.heap.size 0 I))
      have hb8 : Below w7.heap.size w7 ((w7.alloc (.cells zb64 45)).setCells w7.heap.size 0 I) := below_setCells ((Below.refl _ _).alloc (Nat.le_refl _) _) (Nat.le_refl _) _ _
      have N8 := Lib.hid (N7.out.fresh (cs := I) (by rw [HIl.out, zb64_len]))
      have M8 := Lib.hid (ShaIs.of_same M7.out (hb8.block _ L7.out))
      have W8 := Lib.hid (W7.out.trans (hb8.mono (by have := W7.out.size; have := Hf.out; omega)))
      have G8 := Lib.hid (G7.out.below hb8 G7.out.lt)
      have L8 : Hid (m < w7.heap.size) := L7.out
      generalize (w7.alloc (.cells zb64 45)).setCells w7.heap.size 0 I = w8 at *
      have J8 : Hid (w7.heap.size < w8.heap.size) := N8.out.lt
      generalize w7.heap.size = ib at *
      clear hb8 M7 W7 G7 N7 L7
      go_still_tail 5, (by kernel_rfl)
      change wpList _ _ _ _ _ w8.drew
      have X9 : Hid (BV w8.drew (fun x => x = ib) (.slice (some ⟨ib, 0, none⟩) 64 64) (Hm.pad (Hm.key k) 54)) := by
        have hl := Hm.pad_length (Hm.key k) 54
        refine ⟨_, 64, by rw [hl], by omega, by unfold maxLen; omega, (fun e => by cases e), fun _ => ⟨ib, 0, rfl, rfl, fun i hi => ?_⟩⟩
        rw [Nat.zero_add]
        refine Blk.cell (show Blk w8.drew ib I _ from N8.out) ?_
        rw [← HI.out]; exact By_get _ i hi
      have M9 : Hid (ShaIs w8.drew m [] O 57) := M8.out
      have W9 := Lib.hid W8.out.drew
      have G9 : Hid (Glob w8.drew) := Lib.hid (G8.out.below (Below.refl _ _).drew G8.out.lt)
      have J9 : Hid (ib < w8.drew.heap.size) := J8.out
      clear N8 M8 W8 G8 J8
      generalize w8.drew = w9 at *
      go_wp2_with fail
      refine (shawrite_any M9.out X9.out (fun x hx => ⟨by have := L8.out; omega, by have := J9.out; omega⟩) G9.out Gm.out (by rw [Hm.pad_length]; simp)).mono ?_
      rintro e w10 ⟨rfl, hst, hS10⟩
      rw [List.nil_append] at hS10
      have M10 : Hid (MacIs w10 m k []) := by
        show ShaIs w10 m (Hm.pad (Hm.key k) 54 ++ []) (By (Hm.pad (Hm.key k) 92)) _
        rw [List.append_nil, HO.out]; exact hS10
      have W10 := Lib.hid (W9.out.trans (hst.below (B := f) (fun x hx => by have := HM5.out; omega) (by have := W9.out.size; have := Hf.out; omega)))
      clear hst hS10 M9 X9 W9 G9
      go_wp2_with fail
      go_ret
      exact ⟨m, rfl, by have := HM5.out; have := Hf.out; have := B0.out; omega, B1.out.trans (W10.out.mono (by have := Hf.out; have := B0.out; omega)), M10.out⟩
    · refine AllReady.cons rfl (fun K hK => ?_) AllReady.nil
      have p1 := G3.out.pads.2
      go_simp
      refine hK _ _ ?_
      clear hK K p1
      refine wpAny_ready (rs := [0]) (by kernel_rfl) (by simp) ?_
      refine AllReady.cons rfl (fun K hK => ?_) AllReady.nil
      go_simp
      refine (shanew_any G3.out).mono ?_
      rintro e w4 ⟨b1, rfl, hb1, hbe, hS⟩
      refine hK _ _ ?_
      clear hK K
      obtain ⟨v, buf, h64b, hv, hbt, hB4⟩ := hS
      obtain ⟨L, hL⟩ : ∃ L, shaCells v buf 0 = L := ⟨_, rfl⟩
      have hLl : L.length = 73 := by rw [← hL]; exact shaCells_length h64b
      have hB4' : Blk w4 b1 L 50 := by rw [← hL]; rw [List.append_nil] at hB4; exact hB4
      have HL := Lib.hid hL
      have HLl := Lib.hid hLl
      have HB4 := Lib.hid hB4'
      have HV := Lib.hid (show v = Sha.iv from hv)
      have H64B := Lib.hid h64b
      have F4 := Lib.hid (F2.out.of_same (hbe.block _ (by have := Z2.out; omega)))
      have W4 := Lib.hid (W2.out.trans (hbe.mono (by have := Z2.out; omega)))
      have G4 := Lib.hid (G3.out.below hbe G3.out.lt)
      have Z4 : Hid (f + 1 ≤ w4.heap.size) := by have := Z2.out; have := hbe.size; show f + 1 ≤ w4.heap.size; omega
      have hb1' : b1 < w4.heap.size := hB4'.lt
      have Hb1 := Lib.hid hb1'
      clear hb1 hbe hv hbt hB4 hB4' hL hLl h64b hb1'
      refine wpAny_of_held (S := fun w' => w'.rangeAt b1 0 L ∧ w'.cell? ⟨0, 1, none⟩ = some (.int .u8 92)) _ _ _ _ ?_
      have hS1 : w4.rangeAt b1 0 L ∧ w4.cell? ⟨0, 1, none⟩ = some (.int .u8 92) := ⟨by have := HB4.out; rw [← List.append_nil L] at this; exact this.rangeAt, G4.out.pads.2⟩
      refine wpAnyH_take (i := 1) (v := .pointer (some ⟨b1, 0, none⟩)) rfl (by kernel_rfl) (by kernel_rfl) (by kernel_rfl) (fun _ _ _ h => h) (Or.inl ⟨by rfl, fun w _ => by go_simp⟩) hS1 ?_
      refine wpAnyH_take (i := 2) (v := .agg L.toArray) rfl (by kernel_rfl) (by kernel_rfl) (by kernel_rfl) (fun _ _ _ h => h) (yieldsIf_load_mid (by rfl) 50 (.tmp 18) rfl b1 0 (by rfl) L _ (fun w h => h.1) Tryd.underlying50 rfl (by rw [HLl.out]; exact Tryd.sizeState)) hS1 ?_
      refine wpAnyH_ready (rs := [6]) (by kernel_rfl) (by simp) ?_
      refine AllReadyH.cons rfl (fun K hK => ?_) AllReadyH.nil
      go_simp
      refine (combined92 F4.out).mono ?_
      rintro e w5 ⟨rfl, hb5⟩
      have hS5 : w5.rangeAt b1 0 L ∧ w5.cell? ⟨0, 1, none⟩ = some (.int .u8 92) := ⟨by have := HB4.out.of_same (hb5.block _ Hb1.out); rw [← List.append_nil L] at this; exact this.rangeAt, (G4.out.below hb5 G4.out.lt).pads.2⟩
      refine hK.out _ _ hS5 (fun _ => ?_)
      clear hK K
      have F5 := Lib.hid (F4.out.of_same (hb5.block _ (by have := Z4.out; omega)))
      have W5 := Lib.hid (W4.out.trans (hb5.mono (by have := Z4.out; omega)))
      have G5 := Lib.hid (G4.out.below hb5 G4.out.lt)
      have Z5 : Hid (f + 1 ≤ w5.heap.size) := by have := Z4.out; have := hb5.size; show f + 1 ≤ w5.heap.size; omega
      obtain ⟨O, hO⟩ : ∃ O, By (Hm.pad (Hm.key k) 92) = O := ⟨_, rfl⟩
      rw [hO]
      have hOl : O.length = 64 := by rw [← hO, By_length, Hm.pad_length]
      have HO := Lib.hid hO
      have HOl := Lib.hid hOl
      have M0 : Hid (ShaIs (w5.alloc (.cells (L ++ O).toArray 57)) w5.heap.size [] O 57) :=
        ⟨v, buf, H64B.out, HV.out, by simp, by rw [show shaCells v buf ([] : List UInt8).length = L from HL.out]; exact Blk.new w5 (L ++ O) _⟩
      have bm := fun w => build_mac (L ++ O) (by rw [List.length_append, HLl.out, HOl.out]) w
      have bs := fun w => build_state L O HLl.out HOl.out w
      clear hO hOl hb5 F4 W4 G4 Z4 hS1 HB4 HV H64B HL Hb1
      refine wpAnyH_take (i := 7) (v := .agg (L ++ O).toArray) rfl (by kernel_rfl) (by kernel_rfl) (by kernel_rfl) (fun _ _ _ h => h) (Or.inl ⟨by rfl, exec_build 55 _ rfl #[(0, .agg L.toArray), (1, .agg O.toArray)] (by kernel_rfl) (fun w => bs w)⟩) hS5 ?_
      refine wpAnyH_take (i := 8) (v := .agg (L ++ O).toArray) rfl (by kernel_rfl) (by kernel_rfl) (by kernel_rfl) (fun _ _ _ h => h) (Or.inl ⟨by rfl, exec_build 57 _ rfl #[(0, .agg (L ++ O).toArray)] (by kernel_rfl) (fun w => bm w)⟩) hS5 ?_
      clear bm bs
      refine wpAnyH_ready (rs := [9]) (by kernel_rfl) (by simp) ?_
      refine AllReadyH.cons rfl (fun K hK => ?_) AllReadyH.nil
      go_simp
      refine hK.out _ _ ⟨World.rangeAt_alloc hS5.1 _, ((G5.out.below ((Below.refl _ _).alloc (Nat.le_refl _) _) G5.out.lt).pads.2)⟩ (fun hS6 => ?_)
      clear hK K hS5
      have W6 := Lib.hid (W5.out.alloc (by have := Z5.out; omega) (.cells (L ++ O).toArray 57))
      have G6 := Lib.hid (G5.out.below ((Below.refl _ _).alloc (Nat.le_refl _) (.cells (L ++ O).toArray 57)) G5.out.lt)
      have F6 := Lib.hid (F5.out.alloc (.cells (L ++ O).toArray 57))
      generalize w5.alloc (.cells (L ++ O).toArray 57) = w6 at *
      have HM5 : Hid (f ≤ w5.heap.size) := by have := Z5.out; show f ≤ w5.heap.size; omega
      have Hlt : Hid (w5.heap.size < w6.heap.size) := ShaIs.lt M0.out
      have Zm : Hid (f + 1 ≤ w5.heap.size) := Z5.out
      have Gm : Hid (1 < 2 ∧ 2 + 1 ≤ w5.heap.size) := G5.out.lt
      obtain ⟨m, hm⟩ : ∃ m, w5.heap.size = m := ⟨_, rfl⟩
      rw [hm] at M0 HM5 Hlt Zm Gm ⊢
      clear F5 W5 G5 Z5 hm
      refine wpAnyH_take (i := 10) (v := .pointer (some ⟨m, 0, none⟩)) rfl (by kernel_rfl) (by kernel_rfl) (by kernel_rfl) (fun _ _ _ h => h) (Or.inl ⟨by rfl, fun w _ => by go_simp⟩) hS6 ?_
      refine wpAnyH_done (by kernel_rfl) ?_ _
      refine NoPanic.normal ?_
      have p0 := G6.out.pads.1
      clear hS6
      go_wp2_with fail
      refine (combined54 F6.out).mono ?_
      rintro e w7 ⟨rfl, hb7⟩
      obtain ⟨I, hI⟩ : ∃ I, By (Hm.pad (Hm.key k) 54) = I := ⟨_, rfl⟩
      rw [hI]
      have hIl : I.length = 64 := by rw [← hI, By_length, Hm.pad_length]
      have hI1 : ∀ u ∈ I, u.oneCell' = true := by rw [← hI]; exact By_oneCell _
      have HI := Lib.hid hI
      have HIl := Lib.hid hIl
      have HI1 := Lib.hid hI1
      have M7 := Lib.hid (ShaIs.of_same M0.out (hb7.block _ Hlt.out))
      have W7 := Lib.hid (W6.out.trans (hb7.mono (by have := W6.out.size; have := Hf.out; omega)))
      have G7 := Lib.hid (G6.out.below hb7 G6.out.lt)
      have L7 : Hid (m < w7.heap.size) := Nat.lt_of_lt_of_le Hlt.out hb7.size
      have N7 : Hid (Blk (w7.alloc (.cells zb64 45)) w7.heap.size zb64.toList 45) := Blk.new w7 zb64.toList _
      clear hI hIl hI1 hb7 M0 W6 G6 F6 p0
      go_wp2_with (refine wpList_store_mid rfl 45 (.tmp 6) (.tmp 30) rfl w7.heap.size 0 I.toArray (by rfl) (by rfl) (N7.out.there (by rw [List.size_toArray, HIl.out, zb64_len]; exact Nat.le_refl _)) (by rw [List.size_toArray, HIl.out]; exact Tryd.sizeB64) (all_oneCell_toArray HI1.out) ?_; change wpList _ _ _ _ _ ((w7.alloc (.cells zb64 45)).setCells w7.heap.size 0 I))
      have hb8 : Below w7.heap.size w7 ((w7.alloc (.cells zb64 45)).setCells w7.heap.size 0 I) := below_setCells ((Below.refl _ _).alloc (Nat.le_refl _) _) (Nat.le_refl _) _ _
      have N8 := Lib.hid (N7.out.fresh (cs := I) (by rw [HIl.out, zb64_len]))
      have M8 := Lib.hid (ShaIs.of_same M7.out (hb8.block _ L7.out))
      have W8 := Lib.hid (W7.out.trans (hb8.mono (by have := W7.out.size; have := Hf.out; omega)))
      have G8 := Lib.hid (G7.out.below hb8 G7.out.lt)
      have L8 : Hid (m < w7.heap.size) := L7.out
      generalize (w7.alloc (.cells zb64 45)).setCells w7.heap.size 0 I = w8 at *
      have J8 : Hid (w7.heap.size < w8.heap.size) := N8.out.lt
      generalize w7.heap.size = ib at *
      clear hb8 M7 W7 G7 N7 L7
      go_still_tail 5, (by kernel_rfl)
      change wpList _ _ _ _ _ w8.drew
      have X9 : Hid (BV w8.drew (fun x => x = ib) (.slice (some ⟨ib, 0, none⟩) 64 64) (Hm.pad (Hm.key k) 54)) := by
        have hl := Hm.pad_length (Hm.key k) 54
        refine ⟨_, 64, by rw [hl], by omega, by unfold maxLen; omega, (fun e => by cases e), fun _ => ⟨ib, 0, rfl, rfl, fun i hi => ?_⟩⟩
        rw [Nat.zero_add]
        refine Blk.cell (show Blk w8.drew ib I _ from N8.out) ?_
        rw [← HI.out]; exact By_get _ i hi
      have M9 : Hid (ShaIs w8.drew m [] O 57) := M8.out
      have W9 := Lib.hid W8.out.drew
      have G9 : Hid (Glob w8.drew) := Lib.hid (G8.out.below (Below.refl _ _).drew G8.out.lt)
      have J9 : Hid (ib < w8.drew.heap.size) := J8.out
      clear N8 M8 W8 G8 J8
      generalize w8.drew = w9 at *
      go_wp2_with fail
      refine (shawrite_any M9.out X9.out (fun x hx => ⟨by have := L8.out; omega, by have := J9.out; omega⟩) G9.out Gm.out (by rw [Hm.pad_length]; simp)).mono ?_
      rintro e w10 ⟨rfl, hst, hS10⟩
      rw [List.nil_append] at hS10
      have M10 : Hid (MacIs w10 m k []) := by
        show ShaIs w10 m (Hm.pad (Hm.key k) 54 ++ []) (By (Hm.pad (Hm.key k) 92)) _
        rw [List.append_nil, HO.out]; exact hS10
      have W10 := Lib.hid (W9.out.trans (hst.below (B := f) (fun x hx => by have := HM5.out; omega) (by have := W9.out.size; have := Hf.out; omega)))
      clear hst hS10 M9 X9 W9 G9
      go_wp2_with fail
      go_ret
      exact ⟨m, rfl, by have := HM5.out; have := Hf.out; have := B0.out; omega, B1.out.trans (W10.out.mono (by have := Hf.out; have := B0.out; omega)), M10.out⟩
  · have i64 : (s.size : Int) ≤ 64 := by omega
    have hs : s.data.toList = Hm.key k := by
      have := HSL.out
      unfold Hm.key; rw [HK.out, if_neg (by omega)]
    have HS := Lib.hid hs
    have hsz : s.size ≤ 64 := by omega
    have HSZ := Lib.hid hsz
    clear hs hsz
    go_enter Tryd.func16, Tryd.ntmps16
    have F0 : Hid (Blk (w.alloc (.cells zb64 45)) w.heap.size zb64.toList 45) := Blk.new w zb64.toList _
    have W0 := Lib.hid ((Below.refl w.heap.size w).alloc (Nat.le_refl _) (.cells zb64 45))
    go_wp2_with (refine wpList_copy_str rfl (.tmp 13) (.tmp 14) _ _ rfl 5 Tryd.underlying22 Tryd.sizeB w.heap.size 0 64 64 (by rfl) s (by rfl) zb64.toList _ F0.out HSZ.out (by rw [zb64_len]; have := HSZ.out; omega) ?_; rw [show s.size = s.data.toList.length from rfl, HS.out, fill_row _ (Hm.key_length _)])
    have F1 := Lib.hid (F0.out.setRow (By (Hm.fill (Hm.key k))))
    have W1 := Lib.hid (below_setRow W0.out (Nat.le_refl _) (By (Hm.fill (Hm.key k))).toArray)
    have Z1 : Hid (((w.alloc (.cells zb64 45)).setRow w.heap.size (By (Hm.fill (Hm.key k))).toArray).heap.size = w.heap.size + 1) := by show Array.size _ = _; simp [World.setRow]
    generalize (w.alloc (.cells zb64 45)).setRow w.heap.size (By (Hm.fill (Hm.key k))).toArray = w2 at *
    have HF : Hid (1 < 2 ∧ 2 + 1 ≤ w.heap.size) := HG.out.lt
    generalize hf : w.heap.size = f at *
    have Hf := Lib.hid hf
    clear F0 W0 hf
    go_wp2_with fail
    have G2 := Lib.hid (HG.out.below W1.out HF.out)
    refine wp_region_noPanic ?_
    refine wp_region_any (by kernel_rfl) ?_
    change wpAny _ _ _ _ _ _ _ (World.drew _)
    have F2 : Hid (Blk w2.drew f (By (Hm.fill (Hm.key k))) 45) := F1.out
    have W2 := Lib.hid W1.out.drew
    have G3 : Hid (Glob w2.drew) := Lib.hid (G2.out.below (Below.refl _ _).drew G2.out.lt)
    have Z2 : Hid (w2.drew.heap.size = f + 1) := Z1.out
    clear F1 W1 Z1 G2
    generalize w2.drew = w3 at *
    refine wpAny_take (i := 3) (v := .func (Fn.func 32) #[] #[.pointer (some ⟨f, 0, none⟩)]) rfl (by kernel_rfl) (by kernel_rfl) (by kernel_rfl) (fun _ _ _ h => h) (Or.inl ⟨by rfl, fun w => by go_simp⟩) ?_
    refine wpAny_take (i := 4) (v := .pointer (some ⟨0, 1, none⟩)) rfl (by kernel_rfl) (by kernel_rfl) (by kernel_rfl) (fun _ _ _ h => h) (Or.inl ⟨by rfl, fun w => by go_simp⟩) ?_
    refine wpAny_ready (rs := [0, 5]) (by kernel_rfl) (by simp) ?_
    refine AllReady.cons rfl (fun K hK => ?_) ?_
    · go_simp
      refine (shanew_any G3.out).mono ?_
      rintro e w4 ⟨b1, rfl, hb1, hbe, hS⟩
      refine hK _ _ ?_
      clear hK K
      obtain ⟨v, buf, h64b, hv, hbt, hB4⟩ := hS
      obtain ⟨L, hL⟩ : ∃ L, shaCells v buf 0 = L := ⟨_, rfl⟩
      have hLl : L.length = 73 := by rw [← hL]; exact shaCells_length h64b
      have hB4' : Blk w4 b1 L 50 := by rw [← hL]; rw [List.append_nil] at hB4; exact hB4
      have HL := Lib.hid hL
      have HLl := Lib.hid hLl
      have HB4 := Lib.hid hB4'
      have HV := Lib.hid (show v = Sha.iv from hv)
      have H64B := Lib.hid h64b
      have F4 := Lib.hid (F2.out.of_same (hbe.block _ (by have := Z2.out; omega)))
      have W4 := Lib.hid (W2.out.trans (hbe.mono (by have := Z2.out; omega)))
      have G4 := Lib.hid (G3.out.below hbe G3.out.lt)
      have Z4 : Hid (f + 1 ≤ w4.heap.size) := by have := Z2.out; have := hbe.size; show f + 1 ≤ w4.heap.size; omega
      have hb1' : b1 < w4.heap.size := hB4'.lt
      have Hb1 := Lib.hid hb1'
      clear hb1 hbe hv hbt hB4 hB4' hL hLl h64b hb1'
      refine wpAny_of_held (S := fun w' => w'.rangeAt b1 0 L ∧ w'.cell? ⟨0, 1, none⟩ = some (.int .u8 92)) _ _ _ _ ?_
      have hS1 : w4.rangeAt b1 0 L ∧ w4.cell? ⟨0, 1, none⟩ = some (.int .u8 92) := ⟨by have := HB4.out; rw [← List.append_nil L] at this; exact this.rangeAt, G4.out.pads.2⟩
      refine wpAnyH_take (i := 1) (v := .pointer (some ⟨b1, 0, none⟩)) rfl (by kernel_rfl) (by kernel_rfl) (by kernel_rfl) (fun _ _ _ h => h) (Or.inl ⟨by rfl, fun w _ => by go_simp⟩) hS1 ?_
      refine wpAnyH_take (i := 2) (v := .agg L.toArray) rfl (by kernel_rfl) (by kernel_rfl) (by kernel_rfl) (fun _ _ _ h => h) (yieldsIf_load_mid (by rfl) 50 (.tmp 18) rfl b1 0 (by rfl) L _ (fun w h => h.1) Tryd.underlying50 rfl (by rw [HLl.out]; exact Tryd.sizeState)) hS1 ?_
      refine wpAnyH_take (i := 5) (v := .int .u8 92) rfl (by kernel_rfl) (by kernel_rfl) (by kernel_rfl) (fun _ _ _ h => h) (Or.inl ⟨by rfl, fun w hSw => by have := hSw.2; go_simp⟩) hS1 ?_
      refine wpAnyH_ready (rs := [6]) (by kernel_rfl) (by simp) ?_
      refine AllReadyH.cons rfl (fun K hK => ?_) AllReadyH.nil
      go_simp
      refine (combined92 F4.out).mono ?_
      rintro e w5 ⟨rfl, hb5⟩
      have hS5 : w5.rangeAt b1 0 L ∧ w5.cell? ⟨0, 1, none⟩ = some (.int .u8 92) := ⟨by have := HB4.out.of_same (hb5.block _ Hb1.out); rw [← List.append_nil L] at this; exact this.rangeAt, (G4.out.below hb5 G4.out.lt).pads.2⟩
      refine hK.out _ _ hS5 (fun _ => ?_)
      clear hK K
      have F5 := Lib.hid (F4.out.of_same (hb5.block _ (by have := Z4.out; omega)))
      have W5 := Lib.hid (W4.out.trans (hb5.mono (by have := Z4.out; omega)))
      have G5 := Lib.hid (G4.out.below hb5 G4.out.lt)
      have Z5 : Hid (f + 1 ≤ w5.heap.size) := by have := Z4.out; have := hb5.size; show f + 1 ≤ w5.heap.size; omega
      obtain ⟨O, hO⟩ : ∃ O, By (Hm.pad (Hm.key k) 92) = O := ⟨_, rfl⟩
      rw [hO]
      have hOl : O.length = 64 := by rw [← hO, By_length, Hm.pad_length]
      have HO := Lib.hid hO
      have HOl := Lib.hid hOl
      have M0 : Hid (ShaIs (w5.alloc (.cells (L ++ O).toArray 57)) w5.heap.size [] O 57) :=
        ⟨v, buf, H64B.out, HV.out, by simp, by rw [show shaCells v buf ([] : List UInt8).length = L from HL.out]; exact Blk.new w5 (L ++ O) _⟩
      have bm := fun w => build_mac (L ++ O) (by rw [List.length_append, HLl.out, HOl.out]) w
      have bs := fun w => build_state L O HLl.out HOl.out w
      clear hO hOl hb5 F4 W4 G4 Z4 hS1 HB4 HV H64B HL Hb1
      refine wpAnyH_take (i := 7) (v := .agg (L ++ O).toArray) rfl (by kernel_rfl) (by kernel_rfl) (by kernel_rfl) (fun _ _ _ h => h) (Or.inl ⟨by rfl, exec_build 55 _ rfl #[(0, .agg L.toArray), (1, .agg O.toArray)] (by kernel_rfl) (fun w => bs w)⟩) hS5 ?_
      refine wpAnyH_take (i := 8) (v := .agg (L ++ O).toArray) rfl (by kernel_rfl) (by kernel_rfl) (by kernel_rfl) (fun _ _ _ h => h) (Or.inl ⟨by rfl, exec_build 57 _ rfl #[(0, .agg (L ++ O).toArray)] (by kernel_rfl) (fun w => bm w)⟩) hS5 ?_
      clear bm bs
      refine wpAnyH_ready (rs := [9]) (by kernel_rfl) (by simp) ?_
      refine AllReadyH.cons rfl (fun K hK => ?_) AllReadyH.nil
      go_simp
      refine hK.out _ _ ⟨World.rangeAt_alloc hS5.1 _, ((G5.out.below ((Below.refl _ _).alloc (Nat.le_refl _) _) G5.out.lt).pads.2)⟩ (fun hS6 => ?_)
      clear hK K hS5
      have W6 := Lib.hid (W5.out.alloc (by have := Z5.out; omega) (.cells (L ++ O).toArray 57))
      have G6 := Lib.hid (G5.out.below ((Below.refl _ _).alloc (Nat.le_refl _) (.cells (L ++ O).toArray 57)) G5.out.lt)
      have F6 := Lib.hid (F5.out.alloc (.cells (L ++ O).toArray 57))
      generalize w5.alloc (.cells (L ++ O).toArray 57) = w6 at *
      have HM5 : Hid (f ≤ w5.heap.size) := by have := Z5.out; show f ≤ w5.heap.size; omega
      have Hlt : Hid (w5.heap.size < w6.heap.size) := ShaIs.lt M0.out
      have Zm : Hid (f + 1 ≤ w5.heap.size) := Z5.out
      have Gm : Hid (1 < 2 ∧ 2 + 1 ≤ w5.heap.size) := G5.out.lt
      obtain ⟨m, hm⟩ : ∃ m, w5.heap.size = m := ⟨_, rfl⟩
      rw [hm] at M0 HM5 Hlt Zm Gm ⊢
      clear F5 W5 G5 Z5 hm
      refine wpAnyH_take (i := 10) (v := .pointer (some ⟨m, 0, none⟩)) rfl (by kernel_rfl) (by kernel_rfl) (by kernel_rfl) (fun _ _ _ h => h) (Or.inl ⟨by rfl, fun w _ => by go_simp⟩) hS6 ?_
      refine wpAnyH_done (by kernel_rfl) ?_ _
      refine NoPanic.normal ?_
      have p0 := G6.out.pads.1
      clear hS6
      go_wp2_with fail
      refine (combined54 F6.out).mono ?_
      rintro e w7 ⟨rfl, hb7⟩
      obtain ⟨I, hI⟩ : ∃ I, By (Hm.pad (Hm.key k) 54) = I := ⟨_, rfl⟩
      rw [hI]
      have hIl : I.length = 64 := by rw [← hI, By_length, Hm.pad_length]
      have hI1 : ∀ u ∈ I, u.oneCell' = true := by rw [← hI]; exact By_oneCell _
      have HI := Lib.hid hI
      have HIl := Lib.hid hIl
      have HI1 := Lib.hid hI1
      have M7 := Lib.hid (ShaIs.of_same M0.out (hb7.block _ Hlt.out))
      have W7 := Lib.hid (W6.out.trans (hb7.mono (by have := W6.out.size; have := Hf.out; omega)))
      have G7 := Lib.hid (G6.out.below hb7 G6.out.lt)
      have L7 : Hid (m < w7.heap.size) := Nat.lt_of_lt_of_le Hlt.out hb7.size
      have N7 : Hid (Blk (w7.alloc (.cells zb64 45)) w7.heap.size zb64.toList 45) := Blk.new w7 zb64.toList _
      clear hI hIl hI1 hb7 M0 W6 G6 F6 p0
      go_wp2_with (refine wpList_store_mid rfl 45 (.tmp 6) (.tmp 30) rfl w7.heap.size 0 I.toArray (by rfl) (by rfl) (N7.out.there (by rw [List.size_toArray, HIl.out, zb64_len]; exact Nat.le_refl _)) (by rw [List.size_toArray, HIl.out]; exact Tryd.sizeB64) (all_oneCell_toArray HI1.out) ?_; change wpList _ _ _ _ _ ((w7.alloc (.cells zb64 45)).setCells w7.heap.size 0 I))
      have hb8 : Below w7.heap.size w7 ((w7.alloc (.cells zb64 45)).setCells w7.heap.size 0 I) := below_setCells ((Below.refl _ _).alloc (Nat.le_refl _) _) (Nat.le_refl _) _ _
      have N8 := Lib.hid (N7.out.fresh (cs := I) (by rw [HIl.out, zb64_len]))
      have M8 := Lib.hid (ShaIs.of_same M7.out (hb8.block _ L7.out))
      have W8 := Lib.hid (W7.out.trans (hb8.mono (by have := W7.out.size; have := Hf.out; omega)))
      have G8 := Lib.hid (G7.out.below hb8 G7.out.lt)
      have L8 : Hid (m < w7.heap.size) := L7.out
      generalize (w7.alloc (.cells zb64 45)).setCells w7.heap.size 0 I = w8 at *
      have J8 : Hid (w7.heap.size < w8.heap.size) := N8.out.lt
      generalize w7.heap.size = ib at *
      clear hb8 M7 W7 G7 N7 L7
      go_still_tail 5, (by kernel_rfl)
      change wpList _ _ _ _ _ w8.drew
      have X9 : Hid (BV w8.drew (fun x => x = ib) (.slice (some ⟨ib, 0, none⟩) 64 64) (Hm.pad (Hm.key k) 54)) := by
        have hl := Hm.pad_length (Hm.key k) 54
        refine ⟨_, 64, by rw [hl], by omega, by unfold maxLen; omega, (fun e => by cases e), fun _ => ⟨ib, 0, rfl, rfl, fun i hi => ?_⟩⟩
        rw [Nat.zero_add]
        refine Blk.cell (show Blk w8.drew ib I _ from N8.out) ?_
        rw [← HI.out]; exact By_get _ i hi
      have M9 : Hid (ShaIs w8.drew m [] O 57) := M8.out
      have W9 := Lib.hid W8.out.drew
      have G9 : Hid (Glob w8.drew) := Lib.hid (G8.out.below (Below.refl _ _).drew G8.out.lt)
      have J9 : Hid (ib < w8.drew.heap.size) := J8.out
      clear N8 M8 W8 G8 J8
      generalize w8.drew = w9 at *
      go_wp2_with fail
      refine (shawrite_any M9.out X9.out (fun x hx => ⟨by have := L8.out; omega, by have := J9.out; omega⟩) G9.out Gm.out (by rw [Hm.pad_length]; simp)).mono ?_
      rintro e w10 ⟨rfl, hst, hS10⟩
      rw [List.nil_append] at hS10
      have M10 : Hid (MacIs w10 m k []) := by
        show ShaIs w10 m (Hm.pad (Hm.key k) 54 ++ []) (By (Hm.pad (Hm.key k) 92)) _
        rw [List.append_nil, HO.out]; exact hS10
      have W10 := Lib.hid (W9.out.trans (hst.below (B := f) (fun x hx => by have := HM5.out; omega) (by have := W9.out.size; have := Hf.out; omega)))
      clear hst hS10 M9 X9 W9 G9
      go_wp2_with fail
      go_ret
      exact ⟨m, rfl, by have := HM5.out; have := Hf.out; omega, by rw [Hf.out]; exact W10.out, M10.out⟩
    · refine AllReady.cons rfl (fun K hK => ?_) AllReady.nil
      have p1 := G3.out.pads.2
      go_simp
      refine hK _ _ ?_
      clear hK K p1
      refine wpAny_ready (rs := [0]) (by kernel_rfl) (by simp) ?_
      refine AllReady.cons rfl (fun K hK => ?_) AllReady.nil
      go_simp
      refine (shanew_any G3.out).mono ?_
      rintro e w4 ⟨b1, rfl, hb1, hbe, hS⟩
      refine hK _ _ ?_
      clear hK K
      obtain ⟨v, buf, h64b, hv, hbt, hB4⟩ := hS
      obtain ⟨L, hL⟩ : ∃ L, shaCells v buf 0 = L := ⟨_, rfl⟩
      have hLl : L.length = 73 := by rw [← hL]; exact shaCells_length h64b
      have hB4' : Blk w4 b1 L 50 := by rw [← hL]; rw [List.append_nil] at hB4; exact hB4
      have HL := Lib.hid hL
      have HLl := Lib.hid hLl
      have HB4 := Lib.hid hB4'
      have HV := Lib.hid (show v = Sha.iv from hv)
      have H64B := Lib.hid h64b
      have F4 := Lib.hid (F2.out.of_same (hbe.block _ (by have := Z2.out; omega)))
      have W4 := Lib.hid (W2.out.trans (hbe.mono (by have := Z2.out; omega)))
      have G4 := Lib.hid (G3.out.below hbe G3.out.lt)
      have Z4 : Hid (f + 1 ≤ w4.heap.size) := by have := Z2.out; have := hbe.size; show f + 1 ≤ w4.heap.size; omega
      have hb1' : b1 < w4.heap.size := hB4'.lt
      have Hb1 := Lib.hid hb1'
      clear hb1 hbe hv hbt hB4 hB4' hL hLl h64b hb1'
      refine wpAny_of_held (S := fun w' => w'.rangeAt b1 0 L ∧ w'.cell? ⟨0, 1, none⟩ = some (.int .u8 92)) _ _ _ _ ?_
      have hS1 : w4.rangeAt b1 0 L ∧ w4.cell? ⟨0, 1, none⟩ = some (.int .u8 92) := ⟨by have := HB4.out; rw [← List.append_nil L] at this; exact this.rangeAt, G4.out.pads.2⟩
      refine wpAnyH_take (i := 1) (v := .pointer (some ⟨b1, 0, none⟩)) rfl (by kernel_rfl) (by kernel_rfl) (by kernel_rfl) (fun _ _ _ h => h) (Or.inl ⟨by rfl, fun w _ => by go_simp⟩) hS1 ?_
      refine wpAnyH_take (i := 2) (v := .agg L.toArray) rfl (by kernel_rfl) (by kernel_rfl) (by kernel_rfl) (fun _ _ _ h => h) (yieldsIf_load_mid (by rfl) 50 (.tmp 18) rfl b1 0 (by rfl) L _ (fun w h => h.1) Tryd.underlying50 rfl (by rw [HLl.out]; exact Tryd.sizeState)) hS1 ?_
      refine wpAnyH_ready (rs := [6]) (by kernel_rfl) (by simp) ?_
      refine AllReadyH.cons rfl (fun K hK => ?_) AllReadyH.nil
      go_simp
      refine (combined92 F4.out).mono ?_
      rintro e w5 ⟨rfl, hb5⟩
      have hS5 : w5.rangeAt b1 0 L ∧ w5.cell? ⟨0, 1, none⟩ = some (.int .u8 92) := ⟨by have := HB4.out.of_same (hb5.block _ Hb1.out); rw [← List.append_nil L] at this; exact this.rangeAt, (G4.out.below hb5 G4.out.lt).pads.2⟩
      refine hK.out _ _ hS5 (fun _ => ?_)
      clear hK K
      have F5 := Lib.hid (F4.out.of_same (hb5.block _ (by have := Z4.out; omega)))
      have W5 := Lib.hid (W4.out.trans (hb5.mono (by have := Z4.out; omega)))
      have G5 := Lib.hid (G4.out.below hb5 G4.out.lt)
      have Z5 : Hid (f + 1 ≤ w5.heap.size) := by have := Z4.out; have := hb5.size; show f + 1 ≤ w5.heap.size; omega
      obtain ⟨O, hO⟩ : ∃ O, By (Hm.pad (Hm.key k) 92) = O := ⟨_, rfl⟩
      rw [hO]
      have hOl : O.length = 64 := by rw [← hO, By_length, Hm.pad_length]
      have HO := Lib.hid hO
      have HOl := Lib.hid hOl
      have M0 : Hid (ShaIs (w5.alloc (.cells (L ++ O).toArray 57)) w5.heap.size [] O 57) :=
        ⟨v, buf, H64B.out, HV.out, by simp, by rw [show shaCells v buf ([] : List UInt8).length = L from HL.out]; exact Blk.new w5 (L ++ O) _⟩
      have bm := fun w => build_mac (L ++ O) (by rw [List.length_append, HLl.out, HOl.out]) w
      have bs := fun w => build_state L O HLl.out HOl.out w
      clear hO hOl hb5 F4 W4 G4 Z4 hS1 HB4 HV H64B HL Hb1
      refine wpAnyH_take (i := 7) (v := .agg (L ++ O).toArray) rfl (by kernel_rfl) (by kernel_rfl) (by kernel_rfl) (fun _ _ _ h => h) (Or.inl ⟨by rfl, exec_build 55 _ rfl #[(0, .agg L.toArray), (1, .agg O.toArray)] (by kernel_rfl) (fun w => bs w)⟩) hS5 ?_
      refine wpAnyH_take (i := 8) (v := .agg (L ++ O).toArray) rfl (by kernel_rfl) (by kernel_rfl) (by kernel_rfl) (fun _ _ _ h => h) (Or.inl ⟨by rfl, exec_build 57 _ rfl #[(0, .agg (L ++ O).toArray)] (by kernel_rfl) (fun w => bm w)⟩) hS5 ?_
      clear bm bs
      refine wpAnyH_ready (rs := [9]) (by kernel_rfl) (by simp) ?_
      refine AllReadyH.cons rfl (fun K hK => ?_) AllReadyH.nil
      go_simp
      refine hK.out _ _ ⟨World.rangeAt_alloc hS5.1 _, ((G5.out.below ((Below.refl _ _).alloc (Nat.le_refl _) _) G5.out.lt).pads.2)⟩ (fun hS6 => ?_)
      clear hK K hS5
      have W6 := Lib.hid (W5.out.alloc (by have := Z5.out; omega) (.cells (L ++ O).toArray 57))
      have G6 := Lib.hid (G5.out.below ((Below.refl _ _).alloc (Nat.le_refl _) (.cells (L ++ O).toArray 57)) G5.out.lt)
      have F6 := Lib.hid (F5.out.alloc (.cells (L ++ O).toArray 57))
      generalize w5.alloc (.cells (L ++ O).toArray 57) = w6 at *
      have HM5 : Hid (f ≤ w5.heap.size) := by have := Z5.out; show f ≤ w5.heap.size; omega
      have Hlt : Hid (w5.heap.size < w6.heap.size) := ShaIs.lt M0.out
      have Zm : Hid (f + 1 ≤ w5.heap.size) := Z5.out
      have Gm : Hid (1 < 2 ∧ 2 + 1 ≤ w5.heap.size) := G5.out.lt
      obtain ⟨m, hm⟩ : ∃ m, w5.heap.size = m := ⟨_, rfl⟩
      rw [hm] at M0 HM5 Hlt Zm Gm ⊢
      clear F5 W5 G5 Z5 hm
      refine wpAnyH_take (i := 10) (v := .pointer (some ⟨m, 0, none⟩)) rfl (by kernel_rfl) (by kernel_rfl) (by kernel_rfl) (fun _ _ _ h => h) (Or.inl ⟨by rfl, fun w _ => by go_simp⟩) hS6 ?_
      refine wpAnyH_done (by kernel_rfl) ?_ _
      refine NoPanic.normal ?_
      have p0 := G6.out.pads.1
      clear hS6
      go_wp2_with fail
      refine (combined54 F6.out).mono ?_
      rintro e w7 ⟨rfl, hb7⟩
      obtain ⟨I, hI⟩ : ∃ I, By (Hm.pad (Hm.key k) 54) = I := ⟨_, rfl⟩
      rw [hI]
      have hIl : I.length = 64 := by rw [← hI, By_length, Hm.pad_length]
      have hI1 : ∀ u ∈ I, u.oneCell' = true := by rw [← hI]; exact By_oneCell _
      have HI := Lib.hid hI
      have HIl := Lib.hid hIl
      have HI1 := Lib.hid hI1
      have M7 := Lib.hid (ShaIs.of_same M0.out (hb7.block _ Hlt.out))
      have W7 := Lib.hid (W6.out.trans (hb7.mono (by have := W6.out.size; have := Hf.out; omega)))
      have G7 := Lib.hid (G6.out.below hb7 G6.out.lt)
      have L7 : Hid (m < w7.heap.size) := Nat.lt_of_lt_of_le Hlt.out hb7.size
      have N7 : Hid (Blk (w7.alloc (.cells zb64 45)) w7.heap.size zb64.toList 45) := Blk.new w7 zb64.toList _
      clear hI hIl hI1 hb7 M0 W6 G6 F6 p0
      go_wp2_with (refine wpList_store_mid rfl 45 (.tmp 6) (.tmp 30) rfl w7.heap.size 0 I.toArray (by rfl) (by rfl) (N7.out.there (by rw [List.size_toArray, HIl.out, zb64_len]; exact Nat.le_refl _)) (by rw [List.size_toArray, HIl.out]; exact Tryd.sizeB64) (all_oneCell_toArray HI1.out) ?_; change wpList _ _ _ _ _ ((w7.alloc (.cells zb64 45)).setCells w7.heap.size 0 I))
      have hb8 : Below w7.heap.size w7 ((w7.alloc (.cells zb64 45)).setCells w7.heap.size 0 I) := below_setCells ((Below.refl _ _).alloc (Nat.le_refl _) _) (Nat.le_refl _) _ _
      have N8 := Lib.hid (N7.out.fresh (cs := I) (by rw [HIl.out, zb64_len]))
      have M8 := Lib.hid (ShaIs.of_same M7.out (hb8.block _ L7.out))
      have W8 := Lib.hid (W7.out.trans (hb8.mono (by have := W7.out.size; have := Hf.out; omega)))
      have G8 := Lib.hid (G7.out.below hb8 G7.out.lt)
      have L8 : Hid (m < w7.heap.size) := L7.out
      generalize (w7.alloc (.cells zb64 45)).setCells w7.heap.size 0 I = w8 at *
      have J8 : Hid (w7.heap.size < w8.heap.size) := N8.out.lt
      generalize w7.heap.size = ib at *
      clear hb8 M7 W7 G7 N7 L7
      go_still_tail 5, (by kernel_rfl)
      change wpList _ _ _ _ _ w8.drew
      have X9 : Hid (BV w8.drew (fun x => x = ib) (.slice (some ⟨ib, 0, none⟩) 64 64) (Hm.pad (Hm.key k) 54)) := by
        have hl := Hm.pad_length (Hm.key k) 54
        refine ⟨_, 64, by rw [hl], by omega, by unfold maxLen; omega, (fun e => by cases e), fun _ => ⟨ib, 0, rfl, rfl, fun i hi => ?_⟩⟩
        rw [Nat.zero_add]
        refine Blk.cell (show Blk w8.drew ib I _ from N8.out) ?_
        rw [← HI.out]; exact By_get _ i hi
      have M9 : Hid (ShaIs w8.drew m [] O 57) := M8.out
      have W9 := Lib.hid W8.out.drew
      have G9 : Hid (Glob w8.drew) := Lib.hid (G8.out.below (Below.refl _ _).drew G8.out.lt)
      have J9 : Hid (ib < w8.drew.heap.size) := J8.out
      clear N8 M8 W8 G8 J8
      generalize w8.drew = w9 at *
      go_wp2_with fail
      refine (shawrite_any M9.out X9.out (fun x hx => ⟨by have := L8.out; omega, by have := J9.out; omega⟩) G9.out Gm.out (by rw [Hm.pad_length]; simp)).mono ?_
      rintro e w10 ⟨rfl, hst, hS10⟩
      rw [List.nil_append] at hS10
      have M10 : Hid (MacIs w10 m k []) := by
        show ShaIs w10 m (Hm.pad (Hm.key k) 54 ++ []) (By (Hm.pad (Hm.key k) 92)) _
        rw [List.append_nil, HO.out]; exact hS10
      have W10 := Lib.hid (W9.out.trans (hst.below (B := f) (fun x hx => by have := HM5.out; omega) (by have := W9.out.size; have := Hf.out; omega)))
      clear hst hS10 M9 X9 W9 G9
      go_wp2_with fail
      go_ret
      exact ⟨m, rfl, by have := HM5.out; have := Hf.out; omega, by rw [Hf.out]; exact W10.out, M10.out⟩
end
end Go.Proofs.YtghhjopclkhpnaaDoor
