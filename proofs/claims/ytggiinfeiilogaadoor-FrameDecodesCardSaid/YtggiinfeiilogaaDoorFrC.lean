/- Contracts of Same, few, Fit. -/
import Derived.Test.YtggiinfeiilogaaDoorFrL
namespace Go.Proofs.YtggiinfeiilogaaDoor
open Go.RowKit
section
variable {w w' : World} {F G : Nat → Prop} {v : Value} {L : List Fr.Msg} {B : Nat}
set_option maxHeartbeats 1000000 in
theorem msame_is {k : Int} {x y : Value} {l : List UInt8} (hx : BV w F x l) (hy : BV w G y l) :
    Calls Tryd.prog 32 #[.agg #[.int .i64 k, x], .agg #[.int .i64 k, y]] w fun e w' => e = .returned (.bool true) ∧ Below w.heap.size w w' := by
  obtain ⟨xa, xc, rfl, _⟩ := hx.get
  obtain ⟨ya, yc, rfl, _⟩ := hy.get
  obtain ⟨w1, hw1⟩ : ∃ w1, (w.alloc (.cells #[.int .i64 k, .slice xa l.length xc] 32)).alloc (.cells #[.int .i64 k, .slice ya l.length yc] 32) = w1 := ⟨_, rfl⟩
  have B1 : Hid (Below w.heap.size w w1) := Lib.hid (by rw [← hw1]; exact ((Below.refl _ _).alloc (Nat.le_refl _) _).alloc (by simp) _)
  obtain ⟨V, hV⟩ : ∃ V : ByteArray, (⟨l.toArray⟩ : ByteArray) = V := ⟨_, rfl⟩
  have r1 := (hx.grow B1.out).convS
  have r2 := (hy.grow B1.out).convS
  have c0 : w1.cell? ⟨w.heap.size, 0, none⟩ = some (.int .i64 k) := by rw [← hw1]; exact ((Blk.new w [.int .i64 k, .slice xa l.length xc] _).alloc _).cell rfl
  have c1 : w1.cell? ⟨w.heap.size, 1, none⟩ = some (.slice xa l.length xc) := by rw [← hw1]; exact ((Blk.new w [.int .i64 k, .slice xa l.length xc] _).alloc _).cell rfl
  have c2 : w1.cell? ⟨w.heap.size + 1, 0, none⟩ = some (.int .i64 k) := by
    rw [← hw1]
    exact (Blk.newAt (w.alloc (.cells #[.int .i64 k, .slice xa l.length xc] 32)) [.int .i64 k, .slice ya l.length yc] _ (by simp)).cell rfl
  have c3 : w1.cell? ⟨w.heap.size + 1, 1, none⟩ = some (.slice ya l.length yc) := by
    rw [← hw1]
    exact (Blk.newAt (w.alloc (.cells #[.int .i64 k, .slice xa l.length xc] 32)) [.int .i64 k, .slice ya l.length yc] _ (by simp)).cell rfl
  clear hx hy
  go_enter Tryd.func32, Tryd.ntmps32
  go_wp2_with fail
  go_ret
  exact ⟨rfl, B1.out⟩
def Few (L : List Fr.Msg) : Prop := L.length ≤ 12 ∧ ∀ m ∈ L, m.2.length ≤ 300
def FewPost (L : List Fr.Msg) (e : Ending) : Prop := ∃ bb, e = .returned (.bool bb) ∧ (bb = true → Few L)
set_option maxHeartbeats 1000000 in
theorem few_any (h : MsV w F v L) : Calls Tryd.prog 34 #[v] w fun e w' => FewPost L e ∧ w = w' := by
  obtain ⟨a, c, rfl, h1, h2, hc⟩ := h.get
  unfold maxLen at h2
  have HC := Lib.hid hc
  clear h hc
  go_enter Tryd.func34, Tryd.ntmps34
  go_wp2_with fail
  go_loopw [3] (fun s3 wr => ∃ i : Nat, i ≤ L.length ∧ s3 = .int .i64 (i : Int) ∧ (∀ m ∈ L.take i, m.2.length ≤ 300) ∧ wr = w) (fun s3 _ => L.length - (intOf s3).toNat)
  case atStart => exact ⟨0, by omega, rfl, (fun m hm => by simp at hm), rfl⟩
  case round =>
    obtain ⟨i, hi, rfl, hall, rfl⟩ := hrel
    have HA := Lib.hid hall
    clear hall
    by_cases hlt : i < L.length
    · have it : (i : Int) < (L.length : Int) := by omega
      obtain ⟨b, o, x, rfl, _, c0, c1, hbv⟩ := HC.out i hlt
      obtain ⟨xa, xc, rfl, _⟩ := hbv.get
      obtain ⟨n, hn⟩ : ∃ n, L[i].2.length = n := ⟨_, rfl⟩
      rw [hn] at c1
      have HN := Lib.hid hn
      clear hbv hn
      by_cases h300 : 300 < n
      · have i3 : (300 : Int) < (n : Int) := by omega
        go_wp2_with fail
        go_ret
        exact ⟨⟨_, rfl, (fun e => by cases e)⟩, rfl⟩
      · have i3 : (n : Int) ≤ 300 := by omega
        go_wp2_with fail
        go_roundw
        case rel =>
          refine ⟨i + 1, by omega, by go_num, fun m hm => ?_, trivial⟩
          rw [List.take_succ_eq_append_getElem hlt, List.mem_append] at hm
          rcases hm with hm | hm
          · exact HA.out m hm
          · rw [List.mem_singleton.1 hm, HN.out]; omega
        case measure => simp [intOf]; omega
    · have ige : ¬ (i : Int) < (L.length : Int) := by omega
      obtain rfl : i = L.length := by omega
      go_wp2_with fail
      go_ret
      refine ⟨⟨_, rfl, fun e => ?_⟩, rfl⟩
      rw [List.take_length] at HA
      have := of_decide_eq_true e
      exact ⟨by omega, HA.out⟩
/-- What Fit returns. -/
def FitV (L : List Fr.Msg) (n : Int) : Value :=
  if n < 0 ∨ ∃ m ∈ L, ¬ (0 ≤ m.1 ∧ m.1 ≤ 255) then .tuple #[.int .i64 0, .int .i64 1] else if ∃ m ∈ L, 65536 < m.2.length then .tuple #[.int .i64 0, .int .i64 2] else .tuple #[.int .i64 (Fr.fit L n.toNat : Int), .int .i64 0]
theorem fit_take : ∀ (L : List Fr.Msg) (i : Nat) (c r : Nat), Fr.fit (L.take i) c = i → i ≤ L.length → r + (Fr.stream (L.take i)).length = c → Fr.fit L c = i + Fr.fit (L.drop i) r
  | L, 0, c, r, _, _, h => by simp [Fr.stream] at h; subst h; simp
  | [], i + 1, _, _, _, h, _ => by simp at h
  | m :: L, i + 1, c, r, h1, h2, h3 => by
    rw [List.take_succ_cons] at h1 h3
    have h3' : r + ((Fr.encM m).length + (Fr.stream (L.take i)).length) = c := by rw [← h3]; show _ = r + (Fr.encM m ++ Fr.stream (L.take i)).length; rw [List.length_append]
    rw [Fr.encM_length] at h3'
    have hc : Fr.cost m.2.length ≤ c := by omega
    have e1 : Fr.fit (m :: L.take i) c = Fr.fit (L.take i) (c - Fr.cost m.2.length) + 1 := by show (if Fr.cost m.2.length ≤ c then _ else _) = _; rw [if_pos hc]
    have e2 : Fr.fit (m :: L) c = Fr.fit L (c - Fr.cost m.2.length) + 1 := by show (if Fr.cost m.2.length ≤ c then _ else _) = _; rw [if_pos hc]
    rw [e1] at h1
    rw [e2, fit_take L i (c - Fr.cost m.2.length) r (by omega) (by simpa using h2) (by omega), List.drop_succ_cons]
    omega
theorem fit_more (L : List Fr.Msg) (i m r : Nat) (hi : i < L.length) (h1 : Fr.fit (L.take i) m = i) (h2 : r + (Fr.stream (L.take i)).length = m) (h3 : Fr.cost L[i].2.length ≤ r) :
    Fr.fit (L.take (i + 1)) m = i + 1 ∧ (r - Fr.cost L[i].2.length) + (Fr.stream (L.take (i + 1))).length = m := by
  have e : L.take (i + 1) = L.take i ++ [L[i]] := List.take_succ_eq_append_getElem hi
  have hl : (L.take i).length = i := by rw [List.length_take]; omega
  refine ⟨?_, ?_⟩
  · have ht : (L.take (i + 1)).take i = L.take i := by rw [List.take_take, Nat.min_eq_left (by omega)]
    rw [fit_take (L.take (i + 1)) i m r (by rw [ht]; exact h1) (by rw [List.length_take]; omega) (by rw [ht]; exact h2), e, List.drop_left' hl]
    unfold Fr.fit
    rw [if_pos h3]
    rfl
  · rw [e, Fr.stream_append, List.length_append]
    show _ + (_ + (Fr.encM L[i] ++ Fr.stream []).length) = m
    rw [List.length_append, Fr.encM_length]
    show _ + (_ + (_ + 0)) = m
    omega
theorem fit_stop (L : List Fr.Msg) (i m r : Nat) (hi : i < L.length) (h1 : Fr.fit (L.take i) m = i) (h2 : r + (Fr.stream (L.take i)).length = m) (h3 : ¬ Fr.cost L[i].2.length ≤ r) : Fr.fit L m = i := by
  rw [fit_take L i m r h1 (by omega) h2, List.drop_eq_getElem_cons hi]
  show i + (if Fr.cost L[i].2.length ≤ r then _ else 0) = i
  rw [if_neg h3]; rfl
set_option maxRecDepth 100000 in
set_option maxHeartbeats 4000000 in
theorem fit_any (h : MsV w F v L) (n : Int) (hn : n ≤ 9223372036854775807) : Calls Tryd.prog 23 #[v, .int .i64 n] w fun e w' => e = .returned (FitV L n) ∧ Below w.heap.size w w' := by
  obtain ⟨a, c, rfl, h1, h2, _⟩ := h.get
  unfold maxLen at h2
  have H := Lib.hid h
  clear h
  by_cases h0 : n < 0
  · have HV : Hid (FitV L n = .tuple #[.int .i64 0, .int .i64 1]) := Lib.hid (by unfold FitV; rw [if_pos (.inl h0)])
    go_enter Tryd.func23, Tryd.ntmps23
    go_wp2_with fail
    go_ret2
    exact ⟨by rw [HV.out]; rfl, Below.refl _ _⟩
  obtain ⟨m, rfl⟩ := Int.eq_ofNat_of_zero_le (by omega : 0 ≤ n)
  have i0 : (0 : Int) ≤ (m : Int) := by omega
  clear h0
  go_enter Tryd.func23, Tryd.ntmps23
  go_wp2_with fail
  go_loopw [4, 17] (fun s4 s wr => ∃ i : Nat, i ≤ L.length ∧ s = .int .i64 (i : Int) ∧ s4 = .int .i64 0 ∧ (∀ m ∈ L.take i, 0 ≤ m.1 ∧ m.1 ≤ 255) ∧ Below w.heap.size w wr) (fun _ s _ => L.length - (intOf s).toNat)
  case atStart => exact ⟨0, by omega, rfl, rfl, (fun m hm => by simp at hm), Below.refl _ _⟩
  case round =>
    obtain ⟨i, hi, rfl, rfl, hall, hb⟩ := hrel
    have HA := Lib.hid hall
    have HB := Lib.hid hb
    clear hall hb
    by_cases hlt : i < L.length
    · have it : (i : Int) < (L.length : Int) := by omega
      obtain ⟨_, _, e1, _, _, hc⟩ := (H.out.grow HB.out).get
      obtain ⟨rfl, rfl⟩ : _ ∧ _ := by simpa using e1
      obtain ⟨b, o, x, rfl, _, c0, c1, hbv⟩ := hc i hlt
      obtain ⟨xa, xc, rfl, _⟩ := hbv.get
      obtain ⟨k, hk⟩ : ∃ k, L[i].1 = k := ⟨_, rfl⟩
      rw [hk] at c0
      have HK := Lib.hid hk
      clear hbv hk hc e1
      by_cases hkk : 0 ≤ k ∧ k ≤ 255
      · have hd := decide_eq_true hkk
        have HD := Lib.hid hd
        have HKK := Lib.hid hkk
        clear hd hkk
        go_wp2_with fail
        refine (fkind_any _ k).mono ?_
        rintro e w' ⟨rfl, rfl⟩
        rw [HD.out]
        go_wp2_with fail
        go_roundw
        case rel =>
          refine ⟨i + 1, by omega, by go_num, rfl, fun m hm => ?_, HB.out.alloc HB.out.size _⟩
          rw [List.take_succ_eq_append_getElem hlt, List.mem_append] at hm
          rcases hm with hm | hm
          · exact HA.out m hm
          · rw [List.mem_singleton.1 hm, HK.out]; exact HKK.out
        case measure => simp [intOf]; omega
      · have hd := decide_eq_false hkk
        have HD := Lib.hid hd
        have HV : Hid (FitV L (m : Int) = .tuple #[.int .i64 0, .int .i64 1]) := Lib.hid (by unfold FitV; rw [if_pos (.inr ⟨L[i], List.getElem_mem _, by rw [HK.out]; exact hkk⟩)])
        clear hd hkk
        go_wp2_with fail
        refine (fkind_any _ k).mono ?_
        rintro e w' ⟨rfl, rfl⟩
        rw [HD.out]
        go_wp2_with fail
        go_ret2
        exact ⟨by rw [HV.out]; rfl, HB.out.alloc HB.out.size _⟩
    · have ige : ¬ (i : Int) < (L.length : Int) := by omega
      obtain rfl : i = L.length := by omega
      rw [List.take_length] at HA
      go_wp2_with fail
      go_loopw [4, 28] (fun s4 s wr => ∃ i : Nat, i ≤ L.length ∧ s = .int .i64 (i : Int) ∧ s4 = .int .i64 0 ∧ (∀ m ∈ L.take i, m.2.length ≤ 65536) ∧ Below w.heap.size w wr) (fun _ s _ => L.length - (intOf s).toNat)
      case atStart => exact ⟨0, by omega, rfl, rfl, (fun m hm => by simp at hm), HB.out⟩
      case round =>
        clear HB
        obtain ⟨i, hi, rfl, rfl, hall, hb⟩ := hrel
        have HA2 := Lib.hid hall
        have HB := Lib.hid hb
        clear hall hb
        by_cases hlt : i < L.length
        · have it : (i : Int) < (L.length : Int) := by omega
          obtain ⟨_, _, e1, _, _, hc⟩ := (H.out.grow HB.out).get
          obtain ⟨rfl, rfl⟩ : _ ∧ _ := by simpa using e1
          obtain ⟨b, o, x, rfl, _, c0, c1, hbv⟩ := hc i hlt
          obtain ⟨xa, xc, rfl, _⟩ := hbv.get
          obtain ⟨k, hk⟩ : ∃ k, L[i].1 = k := ⟨_, rfl⟩
          obtain ⟨q, hq⟩ : ∃ q, L[i].2.length = q := ⟨_, rfl⟩
          rw [hk] at c0
          rw [hq] at c1
          have HQ := Lib.hid hq
          clear hbv hk hc e1 hq
          by_cases hqq : q ≤ 65536
          · have iq : ¬ (65536 : Int) < (q : Int) := by omega
            go_wp2_with fail
            go_roundw
            case rel =>
              refine ⟨i + 1, by omega, by go_num, rfl, fun m hm => ?_, HB.out.alloc HB.out.size _⟩
              rw [List.take_succ_eq_append_getElem hlt, List.mem_append] at hm
              rcases hm with hm | hm
              · exact HA2.out m hm
              · rw [List.mem_singleton.1 hm, HQ.out]; exact hqq
            case measure => simp [intOf]; omega
          · have iq : (65536 : Int) < (q : Int) := by omega
            have HV : Hid (FitV L (m : Int) = .tuple #[.int .i64 0, .int .i64 2]) := Lib.hid (by
              unfold FitV
              rw [if_neg (fun h => by rcases h with h | ⟨m, hm, hn⟩; omega; exact hn (HA.out m hm)), if_pos ⟨L[i], List.getElem_mem _, by rw [HQ.out]; omega⟩])
            go_wp2_with fail
            go_ret2
            exact ⟨by rw [HV.out]; rfl, HB.out.alloc HB.out.size _⟩
        · have ige : ¬ (i : Int) < (L.length : Int) := by omega
          obtain rfl : i = L.length := by omega
          rw [List.take_length] at HA2
          have HV : Hid (FitV L (m : Int) = .tuple #[.int .i64 (Fr.fit L m : Int), .int .i64 0]) := Lib.hid (by
            unfold FitV
            rw [if_neg (fun h => by rcases h with h | ⟨m, hm, hn⟩; omega; exact hn (HA.out m hm)), if_neg (fun h => by obtain ⟨m, hm, hn⟩ := h; have := HA2.out m hm; omega)]; rfl)
          go_wp2_with fail
          go_loopw [1, 4, 39] (fun s1 s4 s wr => ∃ i r : Nat, i ≤ L.length ∧ s = .int .i64 (i : Int) ∧ s4 = .int .i64 (i : Int) ∧ s1 = .int .i64 (r : Int) ∧ Fr.fit (L.take i) m = i ∧ r + (Fr.stream (L.take i)).length = m ∧ Below w.heap.size w wr) (fun _ _ s _ => L.length - (intOf s).toNat)
          case atStart => exact ⟨0, m, by omega, rfl, rfl, rfl, by simp [Fr.fit], by simp [Fr.stream], HB.out⟩
          case round =>
            clear HB
            obtain ⟨i, r, hi, rfl, rfl, rfl, hf, hr, hb⟩ := hrel
            have HB := Lib.hid hb
            have HF := Lib.hid hf
            have HR := Lib.hid hr
            have ir : (r : Int) ≤ 9223372036854775807 := by omega
            clear hb hf hr
            by_cases hlt : i < L.length
            · have it : (i : Int) < (L.length : Int) := by omega
              obtain ⟨_, _, e1, _, _, hc⟩ := (H.out.grow HB.out).get
              obtain ⟨rfl, rfl⟩ : _ ∧ _ := by simpa using e1
              obtain ⟨b, o, x, rfl, _, c0, c1, hbv⟩ := hc i hlt
              obtain ⟨xa, xc, rfl, _⟩ := hbv.get
              obtain ⟨k, hk⟩ : ∃ k, L[i].1 = k := ⟨_, rfl⟩
              have hq65 : L[i].2.length ≤ 65536 := HA2.out _ (List.getElem_mem _)
              have hmore := fit_more L i m r hlt HF.out HR.out
              have hstop := fit_stop L i m r hlt HF.out HR.out
              obtain ⟨q, hq⟩ : ∃ q, L[i].2.length = q := ⟨_, rfl⟩
              rw [hk] at c0
              rw [hq] at c1 hq65 hmore hstop
              have hcb : Fr.cost q ≤ 70000 := by have := Fr.num_le (n := q) (by omega); unfold Fr.cost; omega
              obtain ⟨cs, hcs⟩ : ∃ cs, Fr.cost q = cs := ⟨_, rfl⟩
              rw [hcs] at hmore hstop hcb
              have HMORE := Lib.hid hmore
              have HSTOP := Lib.hid hstop
              have HCS := Lib.hid hcs
              clear hbv hk hc e1 hq hmore hstop hcs
              by_cases hfits : cs ≤ r
              · have if1 : ¬ (r : Int) < (cs : Int) := by omega
                go_wp2_with fail
                refine (fcost_any _ q (by omega)).mono ?_
                rintro e w' ⟨rfl, rfl⟩
                rw [HCS.out]
                go_wp2_with fail
                go_roundw
                case rel => exact ⟨i + 1, r - cs, by omega, by go_num, by go_num, by go_num, (HMORE.out hfits).1, (HMORE.out hfits).2, HB.out.alloc HB.out.size _⟩
                case measure => simp [intOf]; omega
              · have if1 : (r : Int) < (cs : Int) := by omega
                go_wp2_with fail
                refine (fcost_any _ q (by omega)).mono ?_
                rintro e w' ⟨rfl, rfl⟩
                rw [HCS.out]
                go_wp2_with fail
                go_ret2
                refine ⟨?_, HB.out.alloc HB.out.size _⟩
                rw [HV.out, HSTOP.out hfits]
                rfl
            · have ige : ¬ (i : Int) < (L.length : Int) := by omega
              obtain rfl : i = L.length := by omega
              rw [List.take_length] at HF
              go_wp2_with fail
              go_ret2
              refine ⟨?_, HB.out⟩
              rw [HV.out, HF.out]
              rfl
end
end Go.Proofs.YtggiinfeiilogaaDoor
