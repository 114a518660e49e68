/- The decoder and the reference's decoder side by side: contracts that keep both. -/
import Derived.Test.YtggiinfeiilogaaDoorFdW
import Derived.Test.YtggiinfeiilogaaDoorTbG
namespace Go.Proofs.YtggiinfeiilogaaDoor
open Go.RowKit
structure Nx where
  k : Int
  body : List UInt8
  ok : Bool
  er : Int
  at' : Nat
  bad : Bool
def nx (S : List UInt8) (a : Nat) (bad : Bool) : Nx :=
  if bad = true then ⟨0, [], false, 9, a, true⟩ else
  match Fr.step (S.drop a) with
  | .need => ⟨0, [], false, 0, a, false⟩
  | .bad => ⟨0, [], false, 9, a, true⟩
  | .msg k body rest => ⟨(k.toNat : Int), body, true, 0, S.length - rest.length, false⟩
def dst (S : List UInt8) (a : Nat) (bad : Bool) : Fr.D := if bad = true then .dead (S.length - a) else .live (S.drop a)
theorem dst_pend (S : List UInt8) (a : Nat) (bad : Bool) : (dst S a bad).pend = S.length - a := by
  cases bad
  · simp [dst, Fr.D.pend]
  · simp [dst, Fr.D.pend]
theorem dst_feed (S x : List UInt8) (a : Nat) (bad : Bool) (ha : a ≤ S.length) : (dst S a bad).feed x = dst (S ++ x) a bad := by
  cases bad
  · simp [dst, Fr.D.feed, List.drop_append, Nat.sub_eq_zero_of_le ha]
  · simp [dst, Fr.D.feed]; omega
theorem nx_le (S : List UInt8) (a : Nat) (bad : Bool) (ha : a ≤ S.length) : (nx S a bad).at' ≤ S.length := by
  unfold nx
  split
  · exact ha
  · split
    · exact ha
    · exact ha
    · exact Nat.sub_le _ _
theorem nx_more (S : List UInt8) (a : Nat) (bad : Bool) (ha : a ≤ S.length) (h : (nx S a bad).ok = true) : a < (nx S a bad).at' := by
  unfold nx at h ⊢
  split at h
  · cases h
  · rename_i hb
    rw [if_neg hb]
    split at h
    · cases h
    · cases h
    · rename_i k body rest hs
      have := Fr.step_shrinks hs
      rw [List.length_drop] at this
      simp only
      omega
theorem Fr.step_rest {l body rest : List UInt8} {k : UInt8} (h : Fr.step l = .msg k body rest) : ∃ t, l = t ++ rest := by
  unfold Fr.step at h
  split at h
  · cases h
  · cases h
  · split at h
    · cases h
    · split at h
      · injection h with h1 h2 h3
        exact ⟨_, by rw [← h3]; exact (List.take_append_drop _ _).symm⟩
      · cases h
def DJ (w0 w : World) (bd bx : Nat) (sv : Value) (S : List UInt8) (a : Nat) (bad : Bool) (d : Fr.D) : Prop :=
  Below w0.heap.size w0 w ∧ w0.heap.size ≤ bx ∧ ∃ FD, From w0.heap.size FD ∧ ¬ FD bx ∧ (∀ g, sv.ownBlock = some g → w0.heap.size ≤ g ∧ g ≠ bx ∧ ¬ FD g) ∧ DecAt w bd FD d ∧ RefD w bx sv a bad ∧ OwnB w sv S
section
variable {w0 w w' w2 : World} {bd bx a : Nat} {S l : List UInt8} {sv x : Value} {bad : Bool} {d : Fr.D} {G : Nat → Prop}
theorem DJ.below (h : DJ w0 w bd bx sv S a bad d) : Below w0.heap.size w0 w := h.1
theorem DJ.ref (h : DJ w0 w bd bx sv S a bad d) : RefD w bx sv a bad := by obtain ⟨_, _, _, _, _, _, _, h, _⟩ := h; exact h
theorem DJ.own (h : DJ w0 w bd bx sv S a bad d) : OwnB w sv S := by obtain ⟨_, _, _, _, _, _, _, _, h⟩ := h; exact h
theorem DJ.lt (h : DJ w0 w bd bx sv S a bad d) : bx < w.heap.size := Blk.lt h.ref
theorem DJ.ne (h : DJ w0 w bd bx sv S a bad d) : sv.ownBlock ≠ some bx := by obtain ⟨_, _, _, _, _, h, _⟩ := h; exact fun e => (h bx e).2.1 rfl
theorem DJ.dec (h : DJ w0 w bd bx sv S a bad d) : ∃ FD, DecAt w bd FD d := by obtain ⟨_, _, FD, _, _, _, h, _, _⟩ := h; exact ⟨FD, h⟩
theorem DJ.grow (h : DJ w0 w bd bx sv S a bad d) (hb : Below w.heap.size w w') : DJ w0 w' bd bx sv S a bad d := by
  obtain ⟨h1, h2, FD, h3, h4, h5, h6, h7, h8⟩ := h
  exact ⟨h1.trans (hb.mono h1.size), h2, FD, h3, h4, h5, h6.grow hb, h7.below hb, h8.grow hb⟩
theorem dj_feed (h : DJ w0 w bd bx sv S a bad d) (hx : BV w G x l) (hn : d.pend + l.length ≤ 1000000000) :
    Calls Tryd.prog 21 #[.pointer (some ⟨bd, 0, none⟩), x] w fun e w' => e = .returned (.tuple #[]) ∧ DJ w0 w' bd bx sv S a bad (d.feed l) := by
  obtain ⟨h1, h2, FD, h3, h4, h5, h6, h7, h8⟩ := h
  have hlt := Blk.lt h7
  refine (feed_any h6 hx hn).mono ?_
  rintro e w' ⟨he, hst, hd⟩
  refine ⟨he, h1.trans (hst.below h3 h1.size), h2, Plus FD w w', Plus.froms h3 h1.size, ?_, fun g hg => ⟨(h5 g hg).1, (h5 g hg).2.1, ?_⟩, hd, Blk.of_same h7 (hst.keep _ hlt h4), h8.same (F := fun g => sv.ownBlock = some g) (fun g hg => hst.keep g (h8.lt g hg) (h5 g hg).2.2) (fun g hg => hg)⟩
  · rintro (h | h)
    · exact h4 h
    · omega
  · have := h8.lt g hg
    rintro (h | h)
    · exact (h5 g hg).2.2 h
    · omega
/-- The stream grows by append, and is stored. -/
theorem DJ.push {v : Value} (h : DJ w0 w bd bx sv S a bad d) (hO : OwnB w2 v (S ++ l)) (hg : w.grownBy w2 sv.ownBlock) (ho : v.ownBlock = sv.ownBlock ∨ v.ownBlock = some w.heap.size) :
    DJ w0 (w2.setCell ⟨bx, 0, none⟩ v) bd bx v (S ++ l) a bad d := by
  obtain ⟨h1, h2, FD, h3, h4, h5, h6, h7, h8⟩ := h
  have hlt := Blk.lt h7
  have hv : ∀ g, v.ownBlock = some g → w0.heap.size ≤ g ∧ g ≠ bx ∧ ¬ FD g := fun g e => by
    rcases ho with e2 | e2
    · exact h5 g (e2 ▸ e)
    · have e3 : g = w.heap.size := Option.some.inj (e.symm.trans e2)
      have := h1.size
      exact ⟨by omega, by omega, fun hF => by have := h6.2.1 g hF; omega⟩
  have st : Stp (fun g => sv.ownBlock = some g ∨ g = bx) w (w2.setCell ⟨bx, 0, none⟩ v) := ((Stp.refl _ w).grown hg (fun k e => .inl (.inl e))).set (.inl (.inl (.inr rfl))) v
  have h7' : RefD w2 bx sv a bad := Blk.of_same h7 (hg.block bx hlt (fun e => (h5 bx e.symm).2.1 rfl))
  refine ⟨h1.trans (st.below (fun k hk => ?_) h1.size), h2, FD, h3, h4, hv, h6.same (st.same h6.2.1 (fun k hk hn => ?_)) st.size, Blk.set h7' 0 v, hO.same (F := fun g => v.ownBlock = some g) (fun g e => heap_setCell_other w2 ⟨bx, 0, none⟩ g _ (hv g e).2.1) (fun g e => e)⟩
  · rcases hk with hk | hk
    · exact (h5 k hk).1
    · omega
  · rcases hn with hn | hn
    · exact (h5 k hn).2.2 hk
    · exact h4 (hn ▸ hk)
theorem dj_next1 (h : DJ w0 w bd bx sv S a bad (dst S a bad)) (hg : Glob w0) (ha : a ≤ S.length) (hn : S.length ≤ 1000000) :
    Calls Tryd.prog 22 #[.pointer (some ⟨bd, 0, none⟩)] w fun e w' => ∃ bv, e = .returned (.tuple #[msgV (nx S a bad).k bv, .bool (nx S a bad).ok, .int .i64 (nx S a bad).er]) ∧ BV w' (fun x => x ≠ bx ∧ x < w'.heap.size) bv (nx S a bad).body ∧ DJ w0 w' bd bx sv S a bad (dst S (nx S a bad).at' (nx S a bad).bad) := by
  cases bad with
  | true =>
    have h0 := h
    obtain ⟨h1, h2, FD, h3, h4, h5, h6, h7, h8⟩ := h
    refine (next_dead h6).mono ?_
    rintro e w' ⟨he, hb⟩
    exact ⟨.slice none 0 0, he, BV.nil _ _, h0.grow hb⟩
  | false =>
    obtain ⟨h1, h2, FD, h3, h4, h5, h6, h7, h8⟩ := h
    have hlt := Blk.lt h7
    refine (next_live h6 (hg.below h1 hg.lt) (fun k hk => by have := h3 k hk; have := hg.lt; omega) (by rw [List.length_drop]; omega)).mono ?_
    rintro e w' ⟨hst, hN⟩
    have mk : ∀ {d' : Fr.D}, DecAt w' bd FD d' → DJ w0 w' bd bx sv S a false d' := fun hd =>
      ⟨h1.trans (hst.below h3 h1.size), h2, FD, h3, h4, h5, hd, Blk.of_same h7 (hst.keep _ hlt h4), h8.same (F := fun g => sv.ownBlock = some g) (fun g hg => hst.keep g (h8.lt g hg) (h5 g hg).2.2) (fun g hg => hg)⟩
    unfold NextPost at hN
    unfold nx
    rw [if_neg (by decide)]
    cases hs : Fr.step (S.drop a) with
    | need =>
      simp only [hs] at hN ⊢
      exact ⟨.slice none 0 0, hN.1, BV.nil _ _, mk hN.2⟩
    | bad =>
      simp only [hs] at hN ⊢
      exact ⟨.slice none 0 0, hN.1, BV.nil _ _, mk (by have := hN.2; rw [List.length_drop] at this; exact this)⟩
    | msg k body rest =>
      simp only [hs] at hN ⊢
      obtain ⟨bv, he, hb, hd⟩ := hN
      refine ⟨bv, he, hb.mono (fun x hx => ⟨by omega, hx.2⟩), mk ?_⟩
      have hr := Fr.step_rest hs
      unfold dst
      rw [if_neg (by decide)]
      have : S.drop (S.length - rest.length) = rest := by
        obtain ⟨t, ht⟩ := hr
        have hl := congrArg List.length ht
        rw [List.length_drop, List.length_append] at hl
        have : S = (S.take a ++ t) ++ rest := by rw [List.append_assoc, ← ht, List.take_append_drop]
        have e : S.length - rest.length = (S.take a ++ t).length := by rw [List.length_append, List.length_take]; omega
        rw [e]
        exact (congrArg (List.drop (S.take a ++ t).length) this).trans List.drop_left
      rw [this]
      exact hd
theorem dj_next2 (h : DJ w0 w bd bx sv S a bad d) (ha : a ≤ S.length) (hn : S.length ≤ 1000000) :
    Calls Tryd.prog 31 #[.pointer (some ⟨bx, 0, none⟩)] w fun e w' => ∃ bv, e = .returned (.tuple #[msgV (nx S a bad).k bv, .bool (nx S a bad).ok, .int .i64 (nx S a bad).er]) ∧ BV w' (fun x => x ≠ bx ∧ x < w'.heap.size) bv (nx S a bad).body ∧ Stp (· = bx) w w' ∧ DJ w0 w' bd bx sv S (nx S a bad).at' (nx S a bad).bad d := by
  have h0 := h
  obtain ⟨h1, h2, FD, h3, h4, h5, h6, h7, h8⟩ := h
  have hlt := Blk.lt h7
  cases bad with
  | true =>
    refine (refnext_bad h7).mono ?_
    rintro e w' ⟨he, hb⟩
    exact ⟨.slice none 0 0, he, BV.nil _ _, Stp.of_below _ hb, h0.grow hb⟩
  | false =>
    refine (refnext_any h7 h8.bv h8.lt ha hn).mono ?_
    rintro e w' hN
    have mk : ∀ {a' : Nat} {bad' : Bool}, Stp (· = bx) w w' → RefD w' bx sv a' bad' → DJ w0 w' bd bx sv S a' bad' d := fun hst hr =>
      ⟨h1.trans (hst.below (fun k hk => hk ▸ h2) h1.size), h2, FD, h3, h4, h5, h6.same (hst.same h6.2.1 (fun k hk e => h4 (e ▸ hk))) hst.size, hr, h8.same (F := fun g => sv.ownBlock = some g) (fun g hg => hst.keep g (h8.lt g hg) (h5 g hg).2.1) (fun g hg => hg)⟩
    unfold RNextPost at hN
    unfold nx
    rw [if_neg (by decide)]
    cases hs : Fr.step (S.drop a) with
    | need =>
      simp only [hs] at hN ⊢
      exact ⟨.slice none 0 0, hN.1, BV.nil _ _, hN.2.1, mk hN.2.1 hN.2.2⟩
    | bad =>
      simp only [hs] at hN ⊢
      exact ⟨.slice none 0 0, hN.1, BV.nil _ _, hN.2.1, mk hN.2.1 hN.2.2⟩
    | msg k body rest =>
      simp only [hs] at hN ⊢
      obtain ⟨bv, a', he, hb, hst, hr, hle, hd⟩ := hN
      have e : S.length - rest.length = a' := by rw [← hd, List.length_drop]; omega
      rw [e]
      exact ⟨bv, he, hb.mono (fun x hx => ⟨by omega, hx.2⟩), hst, mk hst hr⟩
theorem dj_next1' {k er : Int} {body : List UInt8} {ok bad3 : Bool} {a3 : Nat} (hr : nx S a bad = ⟨k, body, ok, er, a3, bad3⟩) (h : DJ w0 w bd bx sv S a bad (dst S a bad)) (hg : Glob w0) (ha : a ≤ S.length) (hn : S.length ≤ 1000000) :
    Calls Tryd.prog 22 #[.pointer (some ⟨bd, 0, none⟩)] w fun e w' => ∃ bv, e = .returned (.tuple #[.agg #[.int .i64 k, bv], .bool ok, .int .i64 er]) ∧ BV w' (fun x => x ≠ bx ∧ x < w'.heap.size) bv body ∧ DJ w0 w' bd bx sv S a bad (dst S a3 bad3) := by
  have := dj_next1 h hg ha hn
  rw [hr] at this
  exact this
theorem dj_next2' {k er : Int} {body : List UInt8} {ok bad3 : Bool} {a3 : Nat} (hr : nx S a bad = ⟨k, body, ok, er, a3, bad3⟩) (h : DJ w0 w bd bx sv S a bad d) (ha : a ≤ S.length) (hn : S.length ≤ 1000000) :
    Calls Tryd.prog 31 #[.pointer (some ⟨bx, 0, none⟩)] w fun e w' => ∃ bv, e = .returned (.tuple #[.agg #[.int .i64 k, bv], .bool ok, .int .i64 er]) ∧ BV w' (fun x => x ≠ bx ∧ x < w'.heap.size) bv body ∧ Stp (· = bx) w w' ∧ DJ w0 w' bd bx sv S a3 bad3 d := by
  have := dj_next2 h ha hn
  rw [hr] at this
  exact this
end
end Go.Proofs.YtggiinfeiilogaaDoor
