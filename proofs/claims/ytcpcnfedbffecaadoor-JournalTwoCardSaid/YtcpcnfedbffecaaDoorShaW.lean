/- Contract of (*State).Write. -/
import Derived.Test.YtcpcnfedbffecaaDoorShaL
namespace Go.Proofs.YtcpcnfedbffecaaDoor
open Go.RowKit
section
variable {w : World} {b : Nat} {l x : List UInt8} {rest : List Value} {T : TypeId} {F : Nat → Prop} {xv : Value}
theorem sha_cell72 {v : Sha.V} {buf : List UInt8} {len : Nat} (h : Blk w b (shaCells v buf len ++ rest) T) (hb : buf.length = 64) : w.cell? ⟨b, 72, none⟩ = some (.int .i64 (len : Int)) := by
  refine h.cell ?_
  unfold shaCells
  rw [List.append_assoc, List.getElem?_append_right (by simp [Ws_length, hb, V_list_length])]
  simp [Ws_length, hb, V_list_length]
set_option maxRecDepth 100000 in
set_option maxHeartbeats 4000000 in
theorem shawrite_any (h : ShaIs w b l rest T) (hx : BV w F xv x) (hF : ∀ k, F k → k ≠ b ∧ k < w.heap.size) (hg : Glob w) (hb2 : 0 < 1 ∧ 1 + 1 ≤ b) (hlen : l.length + x.length ≤ 1000000000000) :
    Calls Tryd.prog 46 #[.pointer (some ⟨b, 0, none⟩), xv] w fun e w' => e = .returned (.tuple #[]) ∧ Stp (· = b) w w' ∧ ShaIs w' b (l ++ x) rest T := by
  obtain ⟨v, buf, h64, hv, ht, hB⟩ := h
  obtain ⟨xa, xc, rfl, xc1, xc2, _⟩ := hx.get
  have c72 := sha_cell72 hB h64
  have f72 := hB.free 72
  have hbl := hB.lt
  have hI : Inn F w := fun k hk => (hF k hk).2
  have hFb : ∀ k, F k → k ≠ b := fun k hk => (hF k hk).1
  have hml : (l ++ x).length = l.length + x.length := by simp
  have HB := Lib.hid hB; clear hB
  have HX := Lib.hid hx; clear hx
  have HG := Lib.hid hg; clear hg
  have HV := Lib.hid hv; clear hv
  have HT := Lib.hid ht; clear ht
  unfold maxLen at xc2
  have hcell := sha_cell72 HB.out h64
  by_cases hr : l.length % 64 = 0
  · have L0 : Hid (ShaLoop w b (l ++ x) F rest T (l.length / 64) (.slice xa x.length xc) (w.setCell ⟨b, 72, none⟩ (.int .i64 ((l.length : Int) + (x.length : Int))))) := by
      have hst : Stp (· = b) w (w.setCell ⟨b, 72, none⟩ (.int .i64 ((l.length : Int) + (x.length : Int)))) := (Stp.refl (· = b) w).set (a := ⟨b, 72, none⟩) (.inl (.inl rfl)) _
      refine ⟨buf, h64, by omega, ?_, hst, ?_⟩
      · rw [show 64 * (l.length / 64) = l.length from by omega, List.drop_left]
        exact HX.out.stp hFb hI hst
      · have h1 := HB.out.set 72 (.int .i64 ((l.length : Int) + (x.length : Int)))
        rw [show ((l.length : Int) + (x.length : Int)) = (((l ++ x).length : Nat) : Int) from by rw [hml]; push_cast; rfl] at h1 ⊢
        rw [sha_set72 h64, HV.out] at h1
        rw [Sha.blocks_append _ _ _ _ (by omega)]
        exact h1
    go_enter Tryd.func46, Tryd.ntmps46
    go_wp2_with fail
    generalize w.setCell ⟨b, 72, none⟩ (.int .i64 ((l.length : Int) + (x.length : Int))) = w1 at *
    obtain ⟨m, hm⟩ : ∃ m, l ++ x = m := ⟨_, rfl⟩
    rw [hm] at L0 hml
    have Hm := Lib.hid hm
    have Hml := Lib.hid hml
    clear hm hml
    clear c72 f72 hcell
    go_loopw [1] (fun sv wr => ∃ k, ShaLoop w b m F rest T k sv wr) (fun sv _ => sliceLen sv)
    case atStart => exact ⟨_, L0.out⟩
    case round =>
      obtain ⟨k, buf, h64, hk, hbv, hst, hB⟩ := hrel
      clear L0
      obtain ⟨a, c, rfl, hc1, hc2, _⟩ := hbv.get
      unfold maxLen at hc2
      have hgr := HG.out.stp hst hb2
      have hdl : (m.drop (64 * k)).length = m.length - 64 * k := by simp
      obtain ⟨d, hd⟩ : ∃ d, m.drop (64 * k) = d := ⟨_, rfl⟩
      rw [hd] at hbv hdl hc1 ⊢
      have Hd := Lib.hid hd
      obtain ⟨n, hn⟩ : ∃ n, d.length = n := ⟨_, rfl⟩
      have HBV := Lib.hid hbv
      have HB1 := Lib.hid hB
      have HST := Lib.hid hst
      have HGR := Lib.hid hgr
      rw [hn] at HBV hc1 ⊢
      have Hn := Lib.hid hn
      have Hdl := Lib.hid hdl
      clear hbv hB hst hgr hn hdl hd
      by_cases h : 64 ≤ n
      · have h' : (64 : Int) ≤ (n : Int) := by omega
        have hc3 : (n : Int) ≤ (c : Int) := by have := Hn.out; omega
        obtain ⟨xb, xo, rfl⟩ := HBV.out.some_of (by rw [Hn.out]; omega)
        go_wp2_with fail
        refine (process_any HB1.out (HBV.out.take h) (by rw [List.length_take, Hn.out]; omega) HGR.out).mono ?_
        rintro e w' ⟨rfl, hst2, hB2⟩
        have L1 : Hid (ShaLoop w b m F rest T (k + 1) (.slice (if c = 64 then some ⟨xb, xo, none⟩ else some ⟨xb, xo + 64, none⟩) (n - 64) (c - 64)) w') := by
          refine ⟨buf, h64, by have := Hn.out; have := Hdl.out; omega, ?_, HST.out.trans' hst2, ?_⟩
          · have h2 := (HBV.out.drop Hn.out h).stp hFb (fun k hk => Nat.lt_of_lt_of_le (hI k hk) HST.out.size) hst2
            rw [← Hd.out, List.drop_drop] at h2
            exact h2
          · rw [← Hd.out, Sha.blocks_succ] at hB2
            exact hB2
        clear hst2 hB2 HST HB1 HGR HBV
        go_wp2_with fail
        go_roundw
        case rel => exact ⟨k + 1, L1.out⟩
        case measure => simp [sliceLen]; omega
      · have h' : (n : Int) < 64 := by omega
        go_wp2_with (refine wpList_copy_bytes rfl (.tmp 54) (.tmp 55) _ _ rfl 5 Tryd.underlying39 Tryd.sizeB b 8 64 64 (by rfl) F (.slice a n c) (by rfl) d HBV.out (shaCells (Sha.blocks k Sha.iv m) buf m.length ++ rest) T HB1.out (by simp [shaCells, Ws_length, h64, V_list_length]; omega) ?_)
        have hcc := copy_cells (Sha.blocks k Sha.iv m) buf d m.length 0 rest h64 (by omega)
        simp only [Nat.add_zero, Nat.sub_zero, Nat.zero_add, List.take_zero, List.nil_append] at hcc
        rw [hcc]
        have S2 := Lib.hid (HB1.out.setRow (shaCells (Sha.blocks k Sha.iv m) (d.take 64 ++ buf.drop (min d.length 64)) m.length ++ rest))
        have T2 : Hid (Stp (· = b) w (wr.setRow b (shaCells (Sha.blocks k Sha.iv m) (d.take 64 ++ buf.drop (min d.length 64)) m.length ++ rest).toArray)) := HST.out.setRow rfl _
        generalize wr.setRow b (shaCells (Sha.blocks k Sha.iv m) (d.take 64 ++ buf.drop (min d.length 64)) m.length ++ rest).toArray = w2 at *
        go_wp2_with fail
        go_end0
        have e1 := Hn.out
        have e2 := Hdl.out
        refine ⟨rfl, T2.out, ?_⟩
        rw [Hm.out]
        refine ShaIs.done (by rw [List.length_append, List.length_take, List.length_drop, e1]; omega) hk (by omega) ?_ S2.out
        rw [Hd.out]
        rw [List.take_append_of_le_length (by rw [List.length_take]; omega), List.take_of_length_le (show d.length ≤ 64 by omega), List.take_of_length_le (by omega)]
  · obtain ⟨r, hre⟩ : ∃ r, l.length % 64 = r := ⟨_, rfl⟩
    have hr1 : 0 < r := by omega
    have hr2 : r < 64 := by omega
    have hri : (l.length : Int) % 64 = (r : Int) := by omega
    have ir1 : (0 : Int) < (r : Int) := by omega
    have ir2 : (r : Int) < 64 := by omega
    have HRE := Lib.hid hre
    clear hre hr
    have hst1 : Stp (· = b) w (w.setCell ⟨b, 72, none⟩ (.int .i64 ((l.length : Int) + (x.length : Int)))) := (Stp.refl (· = b) w).set (a := ⟨b, 72, none⟩) (.inl (.inl rfl)) _
    have hB1 : Blk (w.setCell ⟨b, 72, none⟩ (.int .i64 ((l.length : Int) + (x.length : Int)))) b (shaCells v buf (l ++ x).length ++ rest) T := by
      have h1 := HB.out.set 72 (.int .i64 ((l.length : Int) + (x.length : Int)))
      rw [show ((l.length : Int) + (x.length : Int)) = (((l ++ x).length : Nat) : Int) from by rw [hml]; push_cast; rfl] at h1 ⊢
      rw [sha_set72 h64] at h1
      exact h1
    have S1 := Lib.hid hst1
    have B1 := Lib.hid hB1
    have X1 := Lib.hid (HX.out.stp hFb hI hst1)
    clear hst1 hB1
    by_cases hsm : r + x.length < 64
    · have ism : (r : Int) + (x.length : Int) < 64 := by omega
      have hsl := fun W : World => slice_low b r hr2 W
      have i64r : (64 : Int) - (r : Int) = ((64 - r : Nat) : Int) := by omega
      have hmin : min x.length (64 - r) = x.length := by omega
      have hxc : (x.length : Int) ≤ (xc : Int) := by omega
      obtain ⟨m, hm⟩ : ∃ m, l ++ x = m := ⟨_, rfl⟩
      rw [hm] at B1 hml
      have Hm := Lib.hid hm
      have Hml := Lib.hid hml
      clear hm hml hsm hr2
      go_enter Tryd.func46, Tryd.ntmps46
      go_wp2_with (refine wpList_copy_bytes rfl (.tmp 26) (.tmp 27) _ _ rfl 5 Tryd.underlying39 Tryd.sizeB b (8 + r) (64 - r) (64 - r) (by rfl) F (.slice xa x.length xc) (by rfl) x X1.out (shaCells v buf m.length ++ rest) T B1.out (by simp [shaCells, Ws_length, h64, V_list_length]; omega) ?_)
      all_goals
        have hcc := copy_cells v buf x m.length r rest h64 (by omega)
        rw [hmin] at hcc
        rw [hcc]
        (try simp only [Exit.inBlock, Exit.then])
        refine bodyPost_ret (results_none rfl _ _ _) rfl ?_
        refine ⟨rfl, S1.out.setRow rfl _, ?_⟩
        rw [Hm.out]
        have e1 : 64 * (l.length / 64) + r = l.length := by have := HRE.out; omega
        have e2 := Hml.out
        refine ShaIs.done (k := l.length / 64) (buf := buf.take r ++ (x.take (64 - r) ++ buf.drop (r + x.length))) (by simp only [List.length_append, List.length_take, List.length_drop]; omega) (by omega) (by omega) ?_ ?_
        · rw [← Hm.out, List.drop_append_of_le_length (by omega), ← HT.out, HRE.out, Hm.out, show m.length - 64 * (l.length / 64) = r + x.length from by omega, List.take_of_length_le (show x.length ≤ 64 - r by omega), ← List.append_assoc, List.take_append_of_le_length (by simp only [List.length_append, List.length_take]; omega), List.take_of_length_le (by simp only [List.length_append, List.length_take]; omega)]
        · rw [← Hm.out, Sha.blocks_append _ _ _ _ (by omega), ← HV.out, Hm.out]
          exact B1.out.setRow _
    · obtain ⟨q, hq⟩ : ∃ q, 64 - r = q := ⟨_, rfl⟩
      obtain ⟨xb, xo, rfl⟩ := HX.out.some_of (by omega)
      have hsl := fun W : World => slice_low b r hr2 W
      rw [hq] at hsl
      have hmin : min x.length q = q := by omega
      have irq : (r : Int) + (q : Int) = 64 := by omega
      have hqx : (q : Int) ≤ (x.length : Int) := by omega
      have hxc : (x.length : Int) ≤ (xc : Int) := by omega
      obtain ⟨m, hm⟩ : ∃ m, l ++ x = m := ⟨_, rfl⟩
      rw [hm] at B1 hml
      have Hm := Lib.hid hm
      have Hml := Lib.hid hml
      have Hq := Lib.hid hq
      have Hqx : Hid (q ≤ x.length) := by show q ≤ x.length; omega
      have hcc := copy_cells v buf x m.length r rest h64 (by omega)
      rw [hq, hmin] at hcc
      have hfu := fill_up (x := x) (buf := buf) HRE.out hq (by rw [← HRE.out]; exact HT.out) h64
      rw [hm] at hfu
      have B2 := Lib.hid (B1.out.setRow (shaCells v (buf.take r ++ (x.take q ++ buf.drop (r + q))) m.length ++ rest))
      have S2 : Hid (Stp (· = b) w ((w.setCell ⟨b, 72, none⟩ (.int .i64 ((l.length : Int) + (x.length : Int)))).setRow b (shaCells v (buf.take r ++ (x.take q ++ buf.drop (r + q))) m.length ++ rest).toArray)) := S1.out.setRow rfl _
      have hb2l : (buf.take r ++ (x.take q ++ buf.drop (r + q))).length = 64 := by simp only [List.length_append, List.length_take, List.length_drop]; omega
      have Hcc := Lib.hid hcc
      have Hfu := Lib.hid hfu
      have Hb2l := Lib.hid hb2l
      have hfit : 8 + r + min x.length q ≤ (shaCells v buf m.length ++ rest).length := by simp [shaCells, Ws_length, h64, V_list_length]; omega
      have Hfit := Lib.hid hfit
      clear hm hml hsm hr2 hq hcc hfu hb2l hfit
      go_enter Tryd.func46, Tryd.ntmps46
      go_wp2_with (refine wpList_copy_bytes rfl (.tmp 26) (.tmp 27) _ _ rfl 5 Tryd.underlying39 Tryd.sizeB b (8 + r) q q (by rfl) F (.slice (some ⟨xb, xo, none⟩) x.length xc) (by rfl) x X1.out (shaCells v buf m.length ++ rest) T B1.out Hfit.out ?_; rw [hmin, Hcc.out]; generalize (w.setCell ⟨b, 72, none⟩ (.int .i64 ((l.length : Int) + (x.length : Int)))).setRow b (shaCells v (buf.take r ++ (x.take q ++ buf.drop (r + q))) m.length ++ rest).toArray = w2 at *)
      all_goals
        have hbvd := (HX.out.drop rfl Hqx.out)
        first
          | rw [if_neg (by assumption)] at hbvd
          | rw [if_pos (by assumption), show xc - q = 0 from by omega] at hbvd
          | rw [if_pos rfl, Nat.sub_self] at hbvd
        have Hbvd := Lib.hid hbvd
        refine (process_any B2.out (buf_bv B2.out Hb2l.out) Hb2l.out (HG.out.stp S2.out hb2)).mono ?_
        rintro e w' ⟨rfl, hst3, hB3⟩
        have mk : ∀ sv, BV w F sv (x.drop q) → ShaLoop w b m F rest T (l.length / 64 + 1) sv w' := fun sv hs => by
          refine ⟨_, Hb2l.out, ?_, by rw [Hfu.out.2]; exact hs.stp hFb hI (S2.out.trans' hst3), S2.out.trans' hst3, ?_⟩
          · have := HRE.out; have := Hq.out; have := Hml.out; have := Hqx.out; omega
          · rw [Hfu.out.1, HV.out] at hB3
            have e5 := Sha.blocks_append Sha.iv l x (l.length / 64) (by omega)
            rw [Hm.out] at e5
            rw [← e5] at hB3
            rw [Sha.blocks_succ] at hB3
            rw [Hfu.out.1]
            exact hB3
        have L0 := Lib.hid (mk _ Hbvd.out)
        clear hst3 hB3 hbvd Hbvd mk
        go_wp2_with fail
        go_loopw [1] (fun sv wr => ∃ k, ShaLoop w b m F rest T k sv wr) (fun sv _ => sliceLen sv)
        case atStart => exact ⟨_, L0.out⟩
        case round =>
          obtain ⟨k, buf, h64, hk, hbv, hst, hB⟩ := hrel
          clear L0
          obtain ⟨a, c, rfl, hc1, hc2, _⟩ := hbv.get
          unfold maxLen at hc2
          have hgr := HG.out.stp hst hb2
          have hdl : (m.drop (64 * k)).length = m.length - 64 * k := by simp
          obtain ⟨d, hd⟩ : ∃ d, m.drop (64 * k) = d := ⟨_, rfl⟩
          rw [hd] at hbv hdl hc1 ⊢
          have Hd := Lib.hid hd
          obtain ⟨n, hn⟩ : ∃ n, d.length = n := ⟨_, rfl⟩
          have HBV := Lib.hid hbv
          have HB1 := Lib.hid hB
          have HST := Lib.hid hst
          have HGR := Lib.hid hgr
          rw [hn] at HBV hc1 ⊢
          have Hn := Lib.hid hn
          have Hdl := Lib.hid hdl
          clear hbv hB hst hgr hn hdl hd
          by_cases h : 64 ≤ n
          · have h' : (64 : Int) ≤ (n : Int) := by omega
            have hc3 : (n : Int) ≤ (c : Int) := by have := Hn.out; omega
            obtain ⟨xb, xo, rfl⟩ := HBV.out.some_of (by rw [Hn.out]; omega)
            go_wp2_with fail
            refine (process_any HB1.out (HBV.out.take h) (by rw [List.length_take, Hn.out]; omega) HGR.out).mono ?_
            rintro e w' ⟨rfl, hst2, hB2⟩
            have L1 : Hid (ShaLoop w b m F rest T (k + 1) (.slice (if c = 64 then some ⟨xb, xo, none⟩ else some ⟨xb, xo + 64, none⟩) (n - 64) (c - 64)) w') := by
              refine ⟨buf, h64, by have := Hn.out; have := Hdl.out; omega, ?_, HST.out.trans' hst2, ?_⟩
              · have h2 := (HBV.out.drop Hn.out h).stp hFb (fun k hk => Nat.lt_of_lt_of_le (hI k hk) HST.out.size) hst2
                rw [← Hd.out, List.drop_drop] at h2
                exact h2
              · rw [← Hd.out, Sha.blocks_succ] at hB2
                exact hB2
            clear hst2 hB2 HST HB1 HGR HBV
            go_wp2_with fail
            go_roundw
            case rel => exact ⟨k + 1, L1.out⟩
            case measure => simp [sliceLen]; omega
          · have h' : (n : Int) < 64 := by omega
            go_wp2_with (refine wpList_copy_bytes rfl (.tmp 54) (.tmp 55) _ _ rfl 5 Tryd.underlying39 Tryd.sizeB b 8 64 64 (by rfl) F (.slice a n c) (by rfl) d HBV.out (shaCells (Sha.blocks k Sha.iv m) buf m.length ++ rest) T HB1.out (by simp [shaCells, Ws_length, h64, V_list_length]; omega) ?_)
            have hcc := copy_cells (Sha.blocks k Sha.iv m) buf d m.length 0 rest h64 (by omega)
            simp only [Nat.add_zero, Nat.sub_zero, Nat.zero_add, List.take_zero, List.nil_append] at hcc
            rw [hcc]
            have S2 := Lib.hid (HB1.out.setRow (shaCells (Sha.blocks k Sha.iv m) (d.take 64 ++ buf.drop (min d.length 64)) m.length ++ rest))
            have T2 : Hid (Stp (· = b) w (wr.setRow b (shaCells (Sha.blocks k Sha.iv m) (d.take 64 ++ buf.drop (min d.length 64)) m.length ++ rest).toArray)) := HST.out.setRow rfl _
            generalize wr.setRow b (shaCells (Sha.blocks k Sha.iv m) (d.take 64 ++ buf.drop (min d.length 64)) m.length ++ rest).toArray = w2 at *
            go_wp2_with fail
            go_end0
            have e1 := Hn.out
            have e2 := Hdl.out
            refine ⟨rfl, T2.out, ?_⟩
            rw [Hm.out]
            refine ShaIs.done (by rw [List.length_append, List.length_take, List.length_drop, e1]; omega) hk (by omega) ?_ S2.out
            rw [Hd.out]
            rw [List.take_append_of_le_length (by rw [List.length_take]; omega), List.take_of_length_le (show d.length ≤ 64 by omega), List.take_of_length_le (by omega)]
end
end Go.Proofs.YtcpcnfedbffecaaDoor
