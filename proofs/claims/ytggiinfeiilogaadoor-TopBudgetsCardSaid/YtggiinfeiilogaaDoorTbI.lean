/- A link, a decoder and a list of messages side by side: contracts that keep all three. -/
import Derived.Test.YtggiinfeiilogaaDoorTbG
namespace Go.Proofs.YtggiinfeiilogaaDoor
open Go.RowKit
def TbI (w0 w : World) (bl bd : Nat) (s : Lk) (dl : List UInt8) (gv : Value) (acc : List Fr.Msg) : Prop :=
  Below w0.heap.size w0 w ∧ ∃ FL FD FG, From w0.heap.size FL ∧ From w0.heap.size FD ∧ From w0.heap.size FG ∧ Dj FL FD ∧ Dj FL FG ∧ Dj FD FG ∧ LkAt w bl FL s ∧ DecAt w bd FD (.live dl) ∧ MsF FG w gv acc
section
variable {w0 w w' w2 : World} {bl bd : Nat} {s : Lk} {dl f : List UInt8} {gv sv : Value} {acc : List Fr.Msg} {G : Nat → Prop} {x : Value} {l : List UInt8}
theorem TbI.below (h : TbI w0 w bl bd s dl gv acc) : Below w0.heap.size w0 w := h.1
theorem TbI.grow (h : TbI w0 w bl bd s dl gv acc) (hb : Below w.heap.size w w') : TbI w0 w' bl bd s dl gv acc := by
  obtain ⟨h1, FL, FD, FG, a1, a2, a3, d1, d2, d3, hl, hd, hm⟩ := h
  exact ⟨h1.trans (hb.mono h1.size), FL, FD, FG, a1, a2, a3, d1, d2, d3, hl.grow hb, hd.grow hb, hm.grow hb⟩
theorem TbI.shape (h : TbI w0 w bl bd s dl gv acc) : ∃ a c, gv = .slice a acc.length c ∧ acc.length ≤ c ∧ c ≤ maxLen := by
  obtain ⟨_, _, _, _, _, _, _, _, _, _, _, _, hm⟩ := h
  exact hm.shape
theorem TbI.msv (h : TbI w0 w bl bd s dl gv acc) : MsV w (fun k => k < w.heap.size) gv acc := by
  obtain ⟨_, _, _, _, _, _, _, _, _, _, _, _, hm⟩ := h
  exact hm.msv.mono (fun k hk => hm.inn k hk)
theorem TbI.mk' {FL FD FG : Nat → Prop} (h1 : Below w0.heap.size w0 w) (a1 : From w0.heap.size FL) (a2 : From w0.heap.size FD) (a3 : From w0.heap.size FG) (d1 : Dj FL FD) (d2 : Dj FL FG) (d3 : Dj FD FG) (hl : LkAt w bl FL s) (hd : DecAt w bd FD (.live dl)) (hm : MsF FG w gv acc) : TbI w0 w bl bd s dl gv acc :=
  ⟨h1, FL, FD, FG, a1, a2, a3, d1, d2, d3, hl, hd, hm⟩
/-- The link turns. -/
theorem TbI.turnL {FL FD FG : Nat → Prop} {s' : Lk} (h1 : Below w0.heap.size w0 w) (a1 : From w0.heap.size FL) (a2 : From w0.heap.size FD) (a3 : From w0.heap.size FG) (d1 : Dj FL FD) (d2 : Dj FL FG) (d3 : Dj FD FG) (hd : DecAt w bd FD (.live dl)) (hm : MsF FG w gv acc)
    (hst : Stp FL w w') (hl : LkAt w' bl (Plus FL w w') s') : TbI w0 w' bl bd s' dl gv acc :=
  ⟨h1.trans ((hst.below a1 h1.size)), Plus FL w w', FD, FG, Plus.froms a1 h1.size, a2, a3, (Plus.dj hd.2.1 d1.symm).symm, (Plus.dj hm.inn d2.symm).symm, d3, hl, hd.same (hst.same hd.2.1 d1.symm) hst.size, hm.same (hst.same hm.inn d2.symm) hst.size⟩
theorem tb_send_full (h : TbI w0 w bl bd s dl gv acc) (hN : NewB w.heap.size w f sv w2) (hd : s.down = false) (hb2 : s.bud ≤ 1048576) (hl : s.sent.length ≤ s.bud) (hf : s.bud < s.sent.length + f.length) :
    Calls Tryd.prog 19 #[.pointer (some ⟨bl, 0, none⟩), .int .i64 0, sv] w2 fun e w' => e = .returned (.tuple #[.int .i64 0, .int .i64 7]) ∧ TbI w0 w' bl bd s dl gv acc := by
  have h2 := h.grow hN.1
  obtain ⟨h1, FL, FD, FG, a1, a2, a3, d1, d2, d3, hL, hD, hm⟩ := id h2
  refine (send_full hL hN.2.1.bv hd hb2 hl hf).mono ?_
  rintro e w' ⟨he, n, rfl⟩
  exact ⟨he, h2.grow (below_drewN2 (Below.refl _ _) n)⟩
theorem tb_send_ok (h : TbI w0 w bl bd s dl gv acc) (hw0 : s.wait = []) (hN : NewB w.heap.size w f sv w2) (hd : s.down = false) (hb2 : s.bud ≤ 1048576) (hf : s.sent.length + f.length ≤ s.bud) (hf0 : 0 < f.length) (hcx : s.cut ≤ 9223372036854775807) {m : Nat} {dn : Bool} (ha : s.arr f.length m dn) :
    Calls Tryd.prog 19 #[.pointer (some ⟨bl, 0, none⟩), .int .i64 0, sv] w2 fun e w' => e = .returned (.tuple #[.int .i64 (m : Int), .int .i64 (if dn then 15 else 0)]) ∧ TbI w0 w' bl bd ⟨s.sent ++ f.take m, f.take m, s.bud, s.cut, dn⟩ dl gv acc := by
  obtain ⟨g1, FL, FD, FG, a1, a2, a3, d1, d2, d3, hL, hD, hm⟩ := h
  have h1 := g1.trans (hN.1.mono g1.size)
  refine (send_ok (hL.grow hN.1) hw0 (hN.2.1.bv.mono (G := fun k => w.heap.size ≤ k ∧ k < w2.heap.size) (fun k hk => ⟨hN.2.2.2 k hk, hN.2.1.lt k hk⟩)) (fun k hk => ⟨hk.2, fun hF => by have := hL.2.1 k hF; omega⟩) hd hb2 hf hf0 hcx ha).mono ?_
  rintro e w' ⟨he, hst, hl'⟩
  exact ⟨he, TbI.turnL h1 a1 a2 a3 d1 d2 d3 (hD.grow hN.1) (hm.grow hN.1) hst hl'⟩
theorem tb_recv (h : TbI w0 w bl bd s dl gv acc) (hl : s.wait.length ≤ 1000000000) :
    Calls Tryd.prog 20 #[.pointer (some ⟨bl, 0, none⟩), .int .i64 1] w fun e w' => ∃ rv, e = .returned (.tuple #[rv, .int .i64 0]) ∧ TbI w0 w' bl bd { s with wait := [] } dl gv acc ∧ BV w' (fun k => w.heap.size ≤ k ∧ k < w'.heap.size) rv s.wait := by
  obtain ⟨h1, FL, FD, FG, a1, a2, a3, d1, d2, d3, hL, hD, hm⟩ := h
  refine (receive_any hL hl).mono ?_
  rintro e w' ⟨rv, he, hst, hl', hb⟩
  have hl2 : LkAt w' bl (Plus FL w w') { s with wait := [] } := by
    obtain ⟨q1, q2, s1, s2, q3, q4, q5, q6, q7⟩ := hl'
    exact ⟨.inl q1, Plus.inn hL.2.1 hst.size, s1, s2, q3, q4, fun g hg => ⟨.inl (q5 g hg).1, (q5 g hg).2⟩, fun g hg => ⟨.inl (q6 g hg).1, (q6 g hg).2⟩, q7⟩
  exact ⟨rv, he, TbI.turnL h1 a1 a2 a3 d1 d2 d3 hD hm hst hl2, hb⟩
theorem tb_feed (h : TbI w0 w bl bd s dl gv acc) (hx : BV w G x l) (hn : dl.length + l.length ≤ 1000000000) :
    Calls Tryd.prog 21 #[.pointer (some ⟨bd, 0, none⟩), x] w fun e w' => e = .returned (.tuple #[]) ∧ TbI w0 w' bl bd s (dl ++ l) gv acc := by
  obtain ⟨h1, FL, FD, FG, a1, a2, a3, d1, d2, d3, hL, hD, hm⟩ := h
  refine (feed_any hD hx hn).mono ?_
  rintro e w' ⟨he, hst, hd'⟩
  exact ⟨he, h1.trans (hst.below a2 h1.size), FL, Plus FD w w', FG, a1, Plus.froms a2 h1.size, a3, Plus.dj hL.2.1 d1, d2, (Plus.dj hm.inn d3.symm).symm, hL.same (hst.same hL.2.1 d1) hst.size, hd', hm.same (hst.same hm.inn d3.symm) hst.size⟩
theorem TbI.turnD {FL FD FG : Nat → Prop} {dl' : List UInt8} (h1 : Below w0.heap.size w0 w) (a1 : From w0.heap.size FL) (a2 : From w0.heap.size FD) (a3 : From w0.heap.size FG) (d1 : Dj FL FD) (d2 : Dj FL FG) (d3 : Dj FD FG) (hl : LkAt w bl FL s) (hm : MsF FG w gv acc)
    (hst : Stp FD w w') (hd : DecAt w' bd FD (.live dl')) : TbI w0 w' bl bd s dl' gv acc :=
  ⟨h1.trans (hst.below a2 h1.size), FL, FD, FG, a1, a2, a3, d1, d2, d3, hl.same (hst.same hl.2.1 d1) hst.size, hd, hm.same (hst.same hm.inn d3.symm) hst.size⟩
theorem tb_next_need (h : TbI w0 w bl bd s dl gv acc) (hg : Glob w0) (hs : Fr.step dl = .need) (hn : dl.length ≤ 1000000000) :
    Calls Tryd.prog 22 #[.pointer (some ⟨bd, 0, none⟩)] w fun e w' => e = .returned (.tuple #[msg0, .bool false, .int .i64 0]) ∧ TbI w0 w' bl bd s dl gv acc := by
  obtain ⟨h1, FL, FD, FG, a1, a2, a3, d1, d2, d3, hL, hD, hm⟩ := h
  refine (next_live hD (hg.below h1 hg.lt) (fun k hk => by have := a2 k hk; have := hg.lt; omega) hn).mono ?_
  rintro e w' ⟨hst, hN⟩
  unfold NextPost at hN
  rw [hs] at hN
  exact ⟨hN.1, TbI.turnD h1 a1 a2 a3 d1 d2 d3 hL hm hst hN.2⟩
theorem tb_next_msg {k : UInt8} {body rest : List UInt8} (h : TbI w0 w bl bd s dl gv acc) (hg : Glob w0) (hs : Fr.step dl = .msg k body rest) (hn : dl.length ≤ 1000000000) :
    Calls Tryd.prog 22 #[.pointer (some ⟨bd, 0, none⟩)] w fun e w' => ∃ bv, e = .returned (.tuple #[msgV (k.toNat : Int) bv, .bool true, .int .i64 0]) ∧ BV w' (fun x => w.heap.size ≤ x ∧ x < w'.heap.size) bv body ∧ TbI w0 w' bl bd s rest gv acc ∧ (∃ FL FD FG, From w0.heap.size FL ∧ From w0.heap.size FD ∧ From w0.heap.size FG ∧ Dj FL FD ∧ Dj FL FG ∧ Dj FD FG ∧ LkAt w' bl FL s ∧ DecAt w' bd FD (.live rest) ∧ MsF FG w' gv acc ∧ Inn FL w ∧ Inn FD w ∧ Inn FG w) ∧ w.heap.size ≤ w'.heap.size := by
  obtain ⟨h1, FL, FD, FG, a1, a2, a3, d1, d2, d3, hL, hD, hm⟩ := h
  refine (next_live hD (hg.below h1 hg.lt) (fun k hk => by have := a2 k hk; have := hg.lt; omega) hn).mono ?_
  rintro e w' ⟨hst, hN⟩
  unfold NextPost at hN
  rw [hs] at hN
  obtain ⟨bv, he, hb, hD'⟩ := hN
  exact ⟨bv, he, hb, TbI.turnD h1 a1 a2 a3 d1 d2 d3 hL hm hst hD', ⟨FL, FD, FG, a1, a2, a3, d1, d2, d3, hL.same (hst.same hL.2.1 d1) hst.size, hD', hm.same (hst.same hm.inn d3.symm) hst.size, hL.2.1, hD.2.1, hm.inn⟩, hst.size⟩
/-- Behind a message's arrival: the list may be appended to. -/
theorem tb_push {w3 : World} {k : Int} {body : List UInt8} {bv : Value} (hb : BV w' (fun x => w.heap.size ≤ x ∧ x < w'.heap.size) bv body) (h1 : Below w0.heap.size w0 w')
    (h : ∃ FL FD FG, From w0.heap.size FL ∧ From w0.heap.size FD ∧ From w0.heap.size FG ∧ Dj FL FD ∧ Dj FL FG ∧ Dj FD FG ∧ LkAt w' bl FL s ∧ DecAt w' bd FD (.live dl) ∧ MsF FG w' gv acc ∧ Inn FL w ∧ Inn FD w ∧ Inn FG w) (h0 : w0.heap.size ≤ w.heap.size) (hww : w.heap.size ≤ w'.heap.size) (h3 : Below w'.heap.size w' w3) :
    ∃ vs, w3.ownsRow 0 32 2 gv acc.length vs ∧ ∀ {w5 : World} {g cap : Nat}, w5.ownsRow 0 32 2 (.slice (some ⟨g, 0, none⟩) (acc.length + 1) cap) (acc.length + 1) (vs ++ [.int .i64 k, bv]) → w3.grownBy w5 gv.ownBlock → (gv.ownBlock = some g ∨ g = w3.heap.size) → g < w5.heap.size →
      TbI w0 w5 bl bd s dl (.slice (some ⟨g, 0, none⟩) (acc.length + 1) cap) (acc ++ [(k, body)]) := by
  obtain ⟨FL, FD, FG, a1, a2, a3, d1, d2, d3, hL, hD, hm, n1, n2, n3⟩ := h
  have hG2 : Inn (fun x => FG x ∨ (w.heap.size ≤ x ∧ x < w'.heap.size)) w3 := fun x hx => by
    have := h3.size
    rcases hx with hx | hx
    · have := n3 x hx; omega
    · omega
  have hm3 : MsF (fun x => FG x ∨ (w.heap.size ≤ x ∧ x < w'.heap.size)) w3 gv acc := (hm.grow h3).mono (fun x hx => .inl hx) hG2
  have hown := hm.own
  obtain ⟨vs, hr, _, _, hel⟩ := id hm3
  refine ⟨vs, hr, fun {w5 g cap} hown5 hg5 hat5 hlt5 => ?_⟩
  have hx : BV w3 (fun x => (FG x ∨ (w.heap.size ≤ x ∧ x < w'.heap.size)) ∧ gv.ownBlock ≠ some x) bv body := (hb.grow h3).mono (fun x hx => ⟨.inr hx, fun e => by have := n3 x (hown x e); omega⟩)
  have hp := MsF.push hm3 (m := (k, body)) hx rfl (fun _ => hel) hr hown5 hg5 hat5 hlt5
  have hsz : w.heap.size ≤ w3.heap.size := Nat.le_trans hww h3.size
  have h13 : Below w0.heap.size w0 w3 := h1.trans (h3.mono h1.size)
  have st : Stp FG w3 w5 := (Stp.refl _ _).grown hg5 (fun x e => .inl (hown x e))
  refine ⟨h13.trans (st.below a3 h13.size), FL, FD, _, a1, a2, Plus.froms (fun x hx => ?_) h13.size, d1, fun x hx hG => ?_, fun x hx hG => ?_, (hL.grow h3).same (fun x hx => hg5.block x (Nat.lt_of_lt_of_le (n1 x hx) hsz) (fun e => d2 x hx (hown x e.symm))) hg5.size, (hD.grow h3).same (fun x hx => hg5.block x (Nat.lt_of_lt_of_le (n2 x hx) hsz) (fun e => d3 x hx (hown x e.symm))) hg5.size, hp⟩
  · rcases hx with hx | hx
    · exact a3 x hx
    · omega
  · have := n1 x hx
    rcases hG with (hG | hG) | hG
    · exact d2 x hx hG
    · omega
    · omega
  · have := n2 x hx
    rcases hG with (hG | hG) | hG
    · exact d3 x hx hG
    · omega
    · omega
theorem tb_sent0 (h : TbI w0 w bl bd s dl gv acc) : Calls Tryd.prog 24 #[.pointer (some ⟨bl, 0, none⟩), .int .i64 0] w fun e w' => e = .returned (.int .i64 (s.sent.length : Int)) ∧ w = w' := by
  obtain ⟨_, _, _, _, _, _, _, _, _, _, hL, _⟩ := h
  exact sent0_any hL
theorem tb_sent1 (h : TbI w0 w bl bd s dl gv acc) : Calls Tryd.prog 24 #[.pointer (some ⟨bl, 0, none⟩), .int .i64 1] w fun e w' => e = .returned (.int .i64 0) ∧ w = w' := by
  obtain ⟨_, _, _, _, _, _, _, _, _, _, hL, _⟩ := h
  exact sent1_any hL
theorem tb_left (h : TbI w0 w bl bd s dl gv acc) (hl : s.sent.length ≤ 1000000000) (hb2 : s.bud ≤ 1048576) : Calls Tryd.prog 25 #[.pointer (some ⟨bl, 0, none⟩)] w fun e w' => e = .returned (.int .i64 ((s.bud : Int) - (s.sent.length : Int))) ∧ ∃ n, w' = w.drewN n := by
  obtain ⟨_, _, _, _, _, _, _, _, _, _, hL, _⟩ := h
  exact left_any hL hl hb2
end
end Go.Proofs.YtggiinfeiilogaaDoor
