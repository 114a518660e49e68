/- Facts for the walk of DiskTears. -/
import Derived.Test.YtibojbbhffoldaaTearM
namespace Go.Proofs.Ytibojbbhffoldaa
open Go.RowKit Go.Maps
theorem DSt.write_at {t : DSt} {n m : Nat} (h1 : t.down = false) (h2 : t.after = -1) (h3 : t.size = m) (h4 : t.dur.length = n) (ps : List (Nat × List UInt8)) {k : Nat} {d : List UInt8} (hk : k < n) (hd : d.length = m) :
    ({ t with pend := ps } : DSt).write (k : Int) d = (0, { t with pend := ps ++ [(k, d)] }) := by
  simp [DSt.write, DSt.valid, DSt.failing, DSt.push, DSt.step, h1, h2, h3, h4, hk, hd]
/-- Behind k writes to different sectors: the disk, the image of before, the list of what was written. -/
def TearR (w : World) (kw : Nat) (G : Nat → Prop) (iv : Value) (b n m : Nat) (t : DSt) (ps : List (Nat × List UInt8)) (W : List (List UInt8)) (wr : World) : Prop :=
  ∃ F vs, Below w.heap.size w wr ∧ DiskAt wr { t with pend := ps } b F ∧ From w.heap.size F ∧ Inn G wr ∧ Dj G F ∧ LV wr G iv t.dur ∧ Blk wr kw vs 22 ∧ ¬ F kw ∧ ¬ G kw ∧ w.heap.size ≤ kw ∧ All2 (BV wr (fun k => k < w.heap.size)) vs W ∧ DSt.Wrt ps W n m
theorem TearR.stored {w w1 w2 : World} {kw : Nat} {G : Nat → Prop} {iv : Value} {b n m : Nat} {t : DSt} {W : List (List UInt8)} {wr : World} {F : Nat → Prop} {vs : List Value} {ps' : List (Nat × List UInt8)} {k : Nat} {d : List UInt8} {dv : Value}
    (hb : Below w.heap.size w wr) (hF : From w.heap.size F) (hI : Inn G wr) (hJ : Dj G F) (hL : LV wr G iv t.dur) (hB : Blk wr kw vs 22) (hn : ¬ F kw) (hg : ¬ G kw) (hkw : w.heap.size ≤ kw) (ha : All2 (BV wr (fun k => k < w.heap.size)) vs W)
    (hst : Stp F wr w1) (hD : DiskAt w1 { t with pend := ps' } b (Plus F wr w1)) (hdv : BV wr (fun k => k < w.heap.size) dv d) (hW : DSt.Wrt ps' (W.set k d) n m) (he : w2 = w1.setCell ⟨kw, k, none⟩ dv) :
    TearR w kw G iv b n m t ps' (W.set k d) w2 := by
  subst he
  have hb1 := hst.below hF hb.size
  have nkw : ¬ Plus F wr w1 kw := by
    rintro (h | h)
    · exact hn h
    · have := hB.lt; omega
  have k1 : ∀ x, x ≠ kw → (w1.setCell ⟨kw, k, none⟩ dv).heap[x]? = w1.heap[x]? := fun x hx => heap_setCell_other w1 _ _ _ hx
  have s1 : Same (fun k => k < w.heap.size) wr (w1.setCell ⟨kw, k, none⟩ dv) := fun x hx => (k1 x (by omega)).trans (hb1.block x hx)
  have sG : Same G wr (w1.setCell ⟨kw, k, none⟩ dv) := fun x hx => (k1 x (fun e => hg (e ▸ hx))).trans (hst.same hI hJ x hx)
  have hsz : (w1.setCell ⟨kw, k, none⟩ dv).heap.size = w1.heap.size := by simp
  refine ⟨Plus F wr w1, vs.set k dv, (hb.trans hb1).setCell (p := ⟨kw, k, none⟩) hkw _, hD.same (fun x hx => k1 x (fun e => nkw (e ▸ hx))) (by omega), Plus.froms hF hb.size, fun x hx => ?_, Plus.dj hI hJ, hL.same sG, ?_, nkw, hg, hkw, ?_, hW⟩
  · have := hst.inn hI x hx; omega
  · exact (hB.of_same (hst.keep kw hB.lt hn)).set k dv
  · exact (ha.mono (fun _ _ r => r.same s1)).set k (hdv.same s1)
theorem BV.drop {w : World} {F : Nat → Prop} {b o c k : Nat} {l : List UInt8} {n : Nat} (h : BV w F (.slice (some ⟨b, o, none⟩) n c) l) (hn : l.length = n) (hk : k ≤ n) : BV w F (.slice (if c = k then some ⟨b, o, none⟩ else some ⟨b, o + k, none⟩) (n - k) (c - k)) (l.drop k) := by
  subst hn
  obtain ⟨a, c', e, h1, h2, h3, h4⟩ := h
  injection e with e1 e2 e3
  subst e1; subst e3
  refine ⟨(if c = k then some ⟨b, o, none⟩ else some ⟨b, o + k, none⟩), c - k, by simp, by simp; omega, by omega, (fun e => by split at e <;> cases e), fun hp => ?_⟩
  simp at hp
  rw [if_neg (by omega)]
  obtain ⟨b', o', e, hb, hc⟩ := h4 (by omega)
  injection e with e
  injection e with e1 e2 e3
  subst e1; subst e2
  refine ⟨b, o + k, rfl, hb, fun i hi => ?_⟩
  simp at hi
  have := hc (k + i) (by omega)
  rw [show o + k + i = o + (k + i) from by omega, this]
  simp
def TearQ (w8 : World) (m : Nat) (kk : Value) (wy : World) : Prop := (∃ q : Nat, wy = w8.drewN q) ∧ ∃ r : Nat, r ≤ m ∧ kk = .int .i64 (r : Int)
/-- What the last loop reads. -/
structure TearE (w : World) (kw : Nat) (G G2 : Nat → Prop) (iv nv : Value) (old now W : List (List UInt8)) (vs : List Value) (wx : World) : Prop where
  below : Below w.heap.size w wx
  old : LV wx G iv old
  now : LV wx G2 nv now
  blk : Blk wx kw vs 22
  all : All2 (BV wx (fun k => k < w.heap.size)) vs W
theorem TearE.drewN {w : World} {kw : Nat} {G G2 : Nat → Prop} {iv nv : Value} {old now W : List (List UInt8)} {vs : List Value} {wx : World} (h : TearE w kw G G2 iv nv old now W vs wx) (n : Nat) : TearE w kw G G2 iv nv old now W vs (wx.drewN n) :=
  ⟨⟨h.below.1, h.below.2, h.below.3, h.below.4, h.below.5⟩, h.old.same (fun _ _ => rfl), h.now.same (fun _ _ => rfl), h.blk, h.all.mono (fun _ _ r => r.same (fun _ _ => rfl))⟩
structure TearK (w : World) (kw : Nat) (G G2 : Nat → Prop) (iv nv : Value) (old now W : List (List UInt8)) (vs : List Value) (ao an aw : Addr) (xo xn xw : Value) (ro rn rw : List UInt8) (wx : World) : Prop where
  e : TearE w kw G G2 iv nv old now W vs wx
  co : wx.cell? ao = some xo
  cn : wx.cell? an = some xn
  cw : wx.cell? aw = some xw
  vo : BV wx G xo ro
  vn : BV wx G2 xn rn
  vw : BV wx (fun k => k < w.heap.size) xw rw
theorem TearK.drewN {w : World} {kw : Nat} {G G2 : Nat → Prop} {iv nv : Value} {old now W : List (List UInt8)} {vs : List Value} {ao an aw : Addr} {xo xn xw : Value} {ro rn rw : List UInt8} {wx : World} (h : TearK w kw G G2 iv nv old now W vs ao an aw xo xn xw ro rn rw wx) (n : Nat) : TearK w kw G G2 iv nv old now W vs ao an aw xo xn xw ro rn rw (wx.drewN n) :=
  ⟨h.e.drewN n, h.co, h.cn, h.cw, h.vo.same (fun _ _ => rfl), h.vn.same (fun _ _ => rfl), h.vw.same (fun _ _ => rfl)⟩
theorem BV.cell1 {w : World} {F : Nat → Prop} {b o c n r : Nat} {l : List UInt8} (h : BV w F (.slice (some ⟨b, o, none⟩) n c) l) (hr : r < l.length) : w.cell? ⟨b, o + r, none⟩ = some (.int .u8 ((l.getD r 0).toNat : Int)) := by
  obtain ⟨_, _, e, _, _, hh⟩ := h.get
  injection e with e1 e2 e3
  subst e1
  obtain ⟨b', o', e, _, hc⟩ := hh r hr
  injection e with e
  injection e with e1 e2 e3
  subst e1; subst e2
  rw [hc]; simp [List.getD, hr]
theorem BV.some_of {w : World} {F : Nat → Prop} {a : Option Addr} {c n : Nat} {l : List UInt8} (h : BV w F (.slice a n c) l) (hl : 0 < l.length) : ∃ b o, a = some ⟨b, o, none⟩ := by
  obtain ⟨_, _, e, _, _, hh⟩ := h.get
  injection e with e1 e2 e3
  subst e1
  obtain ⟨b', o', e, _, hc⟩ := hh 0 hl
  exact ⟨_, _, e⟩
end Go.Proofs.Ytibojbbhffoldaa
