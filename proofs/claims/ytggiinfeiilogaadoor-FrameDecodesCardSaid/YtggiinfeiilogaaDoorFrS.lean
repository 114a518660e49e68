/- Contracts of streamed and drained. -/
import Derived.Test.YtggiinfeiilogaaDoorFrC
namespace Go.Proofs.YtggiinfeiilogaaDoor
open Go.RowKit
section
variable {w w' : World} {F G : Nat → Prop} {v : Value} {L : List Fr.Msg} {B : Nat}
/-- What 'streamed' returns. -/
def StrmPost (w : World) (L : List Fr.Msg) (e : Ending) (w' : World) : Prop :=
  ∃ sv bb, e = .returned (.tuple #[sv, .bool bb]) ∧ Below w.heap.size w w' ∧ (bb = true → (∀ m ∈ L, Fr.ok m) ∧ NewB w.heap.size w (Fr.stream L) sv w')
theorem stream_le : ∀ (L : List Fr.Msg), (∀ m ∈ L, Fr.ok m) → (Fr.stream L).length ≤ 70000 * L.length
  | [], _ => Nat.zero_le _
  | m :: L, h => by
    have h1 := stream_le L (fun x hx => h x (by simp [hx]))
    have h2 := (h m (by simp)).2.2
    have h3 := Fr.num_le (n := m.2.length) (by omega)
    show (Fr.encM m ++ Fr.stream L).length ≤ _
    rw [List.length_append, Fr.encM_length, List.length_cons]
    unfold Fr.cost
    omega
set_option maxRecDepth 100000 in
set_option maxHeartbeats 4000000 in
theorem streamed_any (h : MsV w F v L) (hF : ∀ k, F k → k < w.heap.size) (hg : Glob w) (hlen : L.length ≤ 1000) : Calls Tryd.prog 35 #[v] w (StrmPost w L) := by
  obtain ⟨a, c, rfl, h1, h2, _⟩ := h.get
  unfold maxLen at h2
  have H := Lib.hid h
  have HG := Lib.hid hg
  have HF := Lib.hid hF
  have N0 := Lib.hid (NewB.empty w)
  clear h hg hF
  go_enter Tryd.func35, Tryd.ntmps35
  go_wp2_with fail
  go_loopw [4, 5] (fun sv s wr => ∃ i : Nat, i ≤ L.length ∧ s = .int .i64 (i : Int) ∧ (∀ m ∈ L.take i, Fr.ok m) ∧ NewB w.heap.size w (Fr.stream (L.take i)) sv wr) (fun _ s _ => L.length - (intOf s).toNat)
  case atStart => exact ⟨0, by omega, rfl, (fun m hm => by simp at hm), N0.out⟩
  case round =>
    clear N0
    obtain ⟨i, hi, rfl, hall, hN⟩ := hrel
    have hle := stream_le (L.take i) hall
    have hli : (L.take i).length = i := by rw [List.length_take]; omega
    rw [hli] at hle
    obtain ⟨sa, sc, rfl, _, _, _, _⟩ := hN.2.1.form
    have HA := Lib.hid hall
    have HN := Lib.hid hN
    have HLE := Lib.hid (show (Fr.stream (L.take i)).length ≤ 70000000 by omega)
    clear hall hN hle hli
    by_cases hlt : i < L.length
    · have it : (i : Int) < (L.length : Int) := by omega
      obtain ⟨_, _, e1, _, _, hc⟩ := (H.out.same (w' := wr) (fun k hk => HN.out.1.block k (HF.out k hk))).get
      obtain ⟨rfl, rfl⟩ : _ ∧ _ := by simpa using e1
      obtain ⟨b, o, x, rfl, _, c0, c1, hbv⟩ := hc i hlt
      obtain ⟨xa, xc, rfl, _⟩ := hbv.get
      have htake : L.take (i + 1) = L.take i ++ [L[i]] := List.take_succ_eq_append_getElem hlt
      obtain ⟨m, hm⟩ : ∃ m, L[i] = m := ⟨_, rfl⟩
      rw [hm] at c0 c1 hbv htake
      have HT := Lib.hid htake
      have HBV := Lib.hid hbv
      clear hbv hc e1 hm htake
      go_wp2_with fail
      refine (fenc_any HBV.out (fun k hk => Nat.lt_of_lt_of_le (HF.out k hk) HN.out.1.size) (HG.out.below HN.out.1 HG.out.lt)).mono ?_
      rintro e w2 ⟨sv2, rfl, hN2⟩
      by_cases hok : encErr m.1 m.2 = 0
      · rw [hok, if_pos rfl] at hN2
        have hokm : Fr.ok m := encErr_ok.1 hok
        have hel : (Fr.encM m).length ≤ 70000 := by have := hokm.2.2; have := Fr.num_le (n := m.2.length) (by omega); rw [Fr.encM_length]; unfold Fr.cost; omega
        rw [hok]
        have HOK := Lib.hid hokm
        have N2 := Lib.hid (HN.out.later hN2.1)
        have X2 := Lib.hid hN2.2.1.bv
        have HEL := Lib.hid hel
        obtain ⟨sa2, sc2, rfl, _, _, _, _⟩ := hN2.2.1.form
        clear hok hN2 hokm hel HN c0 c1
        go_wp2_with (at_builtin; refine wpList_append_bytes rfl (.tmp 25) (.tmp 26) rfl (.slice sa (Fr.stream (L.take i)).length sc) (.slice sa2 (Fr.encM m).length sc2) (Fr.encM m) (by rfl) (by rfl) N2.out.2.1 X2.out (by have := HLE.out; have := HEL.out; omega) ?_; intro a5 c5 w5 hO5 hg5 ho5; have N5 := Lib.hid (N2.out.push hO5 hg5 ho5); clear hO5 hg5 ho5)
        refine ⟨⟨i + 1, by omega, by go_num, fun q hq => ?_, ?_⟩, by simp [intOf]; omega⟩
        · rw [HT.out, List.mem_append] at hq
          rcases hq with hq | hq
          · exact HA.out q hq
          · rw [List.mem_singleton.1 hq]; exact HOK.out
        · rw [HT.out, Fr.stream_append]
          have e : Fr.stream [m] = Fr.encM m := by simp [Fr.stream]
          rw [e]
          exact N5.out
      · have hb2 := HN.out.1.trans (hN2.1.mono HN.out.1.size)
        have HB2 := Lib.hid hb2
        have ie : ((encErr m.1 m.2) != 0) = true := by simpa using hok
        clear hN2 hb2 c0 c1
        go_wp2_with fail
        go_ret2
        exact ⟨_, _, rfl, HB2.out, fun e => by cases e⟩
    · have ige : ¬ (i : Int) < (L.length : Int) := by omega
      obtain rfl : i = L.length := by omega
      rw [List.take_length] at HA HN
      go_wp2_with fail
      go_ret2
      exact ⟨_, _, rfl, HN.out.1, fun _ => ⟨HA.out, HN.out⟩⟩
end
end Go.Proofs.YtggiinfeiilogaaDoor
