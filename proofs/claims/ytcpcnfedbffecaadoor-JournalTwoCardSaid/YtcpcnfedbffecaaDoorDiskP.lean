/- What a store into the durable contents leaves; contracts of Sync. -/
import Derived.Test.YtcpcnfedbffecaaDoorDiskR
namespace Go.Proofs.YtcpcnfedbffecaaDoor
open Go.RowKit Go.Maps
section
variable {w w' : World} {s : DSt} {b : Nat} {F G : Nat → Prop} {bd bm : Nat} {dvs : List Value} {pv : Value} {pvs : List (Nat × Value)} {D : DataW Unit}
theorem DiskRep.bd_ne_pv (h : DiskRep w s b F bd bm dvs pv pvs D) {g : Nat} (hg : pv.ownBlock = some g) : g ≠ bd := fun e => by
  obtain ⟨cur, hb⟩ := ownsRow_blk h.pend hg
  subst e
  exact absurd (hb.inj h.durs).2 (by decide)
/-- Only the row of the durable contents has turned, at place k. -/
theorem DiskRep.put (h : DiskRep w s b F bd bm dvs pv pvs D) {k : Nat} {v : Value} {l : List UInt8} (hl : l.length = s.size) (hv : DataV w F s.size v l) :
    DiskRep (w.setCell ⟨bd, k, none⟩ v) { s with dur := s.dur.set k l } b F bd bm (dvs.set k v) pv pvs D := by
  have hh : ∀ x, x ≠ bd → (w.setCell ⟨bd, k, none⟩ v).heap[x]? = w.heap[x]? := fun x hx => Below.heap_setCell _ _ _ _ hx
  have dv : ∀ {n v' l'}, DataV w F n v' l' → DataV (w.setCell ⟨bd, k, none⟩ v) F n v' l' := fun hv => by
    obtain ⟨x, e, hx, hb, hl⟩ := hv
    exact ⟨x, e, hx, hb.of_same (hh x (fun e => by subst e; exact absurd (hb.inj h.durs).2 (by decide))), hl⟩
  refine ⟨⟨h.ok.size1, h.ok.size2, by simpa using h.ok.n1, by simpa using h.ok.n2, fun d hd => ?_, by simpa using h.ok.pend, h.ok.a1, h.ok.a2⟩, fun x hx => by simpa using h.inn x hx, h.Fb, h.Fbd, h.Fbm, h.Fpv, ?_, h.durs.set k v, ?_, ?_, h.pvs.mono (fun _ _ r => ⟨r.1, dv r.2⟩), ?_, h.rel⟩
  · rcases DSt.mem_set' hd with rfl | hd
    · exact hl
    · exact h.ok.dur d hd
  · have := h.cells.of_same (hh b (fun e => by have := h.ne_b h.durs (by decide); exact this e.symm))
    simpa using this
  · exact (h.dur.mono (fun _ _ r => r.imp id dv)).set k (.inr (dv hv))
  · exact Same.row (G := fun x => x ≠ bd) hh h.pend (fun g hg => h.bd_ne_pv hg)
  · exact ownsMap_same h.map (hh bm (h.bm_ne h.durs))
/-- Nothing of the disk's turns. -/
theorem DiskRep.below (h : DiskRep w s b F bd bm dvs pv pvs D) (hb : Below w.heap.size w w') : DiskRep w' s b F bd bm dvs pv pvs D :=
  h.same (fun k hk => hb.block k (h.inn k hk)) hb.size
theorem DiskAt.below (h : DiskAt w s b F) (hb : Below w.heap.size w w') : DiskAt w' s b F := by
  obtain ⟨bd, bm, dvs, pv, pvs, D, h⟩ := h; exact ⟨bd, bm, dvs, pv, pvs, D, h.below hb⟩
/-- 'forget': nothing is pending any more. -/
theorem DiskRep.forgot (h : DiskRep w s b F bd bm dvs pv pvs D) :
    let w' := ((w.setCell ⟨b, 2, none⟩ (.slice none 0 0)).setCell ⟨b, 3, none⟩ (.map (some w.heap.size))).alloc (.map #[] 0)
    Stp F w w' ∧ DiskRep w' { s with pend := [] } b (Plus F w w') bd w.heap.size dvs (.slice none 0 0) [] (.map []) := by
  intro w'
  have st : Stp F w w' := Stp.alloc (((Stp.refl F w).set (.inl (.inl h.Fb)) _).set (.inl (.inl h.Fb)) _) _
  have hsz : w'.heap.size = w.heap.size + 1 := by simp [w']
  have hh : ∀ x, x < w.heap.size → x ≠ b → w'.heap[x]? = w.heap[x]? := fun x hx hne => (Below.heap_alloc _ _ _ (by simpa using hx)).trans ((Below.heap_setCell _ _ _ _ hne).trans (Below.heap_setCell _ _ _ _ hne))
  have dv : ∀ {n v' l'}, DataV w F n v' l' → DataV w' (Plus F w w') n v' l' := fun hv => by
    obtain ⟨x, e, hx, hb, hl⟩ := hv
    exact ⟨x, e, .inl hx, hb.of_same (hh x hb.lt (h.ne_b hb (by decide))), hl⟩
  refine ⟨st, ⟨h.ok.size1, h.ok.size2, h.ok.n1, h.ok.n2, h.ok.dur, by simp, h.ok.a1, h.ok.a2⟩, Plus.inn h.inn st.size, .inl h.Fb, .inl h.Fbd, .inr ⟨Nat.le_refl _, by omega⟩, fun g hg => (by cases hg), ?_, ?_, h.dur.mono (fun _ _ r => r.imp id dv), ?_, All2.nil, ?_, isMap_empty, fun k _ => ?_⟩
  · exact ((h.cells.set 2 _).set 3 _).alloc _
  · exact h.durs.of_same (hh bd h.durs.lt (h.ne_b h.durs (by decide)))
  · exact World.ownsRow_nil _ _ _ _
  · have := World.ownsMap_made (H := Unit) ((w.setCell ⟨b, 2, none⟩ (.slice none 0 0)).setCell ⟨b, 3, none⟩ (.map (some w.heap.size))) Tryd.prog 3 (plainElem Tryd.prog 3)
    simpa using this
  · simp [DSt.lastIdx, Maps.has]

theorem DiskRep.later {W W' : World} (h : DiskRep W s b (Plus F w W) bd bm dvs pv pvs D) (hb : Below W.heap.size W W') : DiskRep W' s b (Plus F w W') bd bm dvs pv pvs D := by
  have hs := hb.size
  refine (h.below hb).mono (fun k hk => hk.imp id (fun x => ⟨x.1, by omega⟩)) (fun k hk => ?_)
  rcases hk with hk | hk
  · exact Nat.lt_of_lt_of_le (h.inn k (.inl hk)) hs
  · exact hk.2
theorem DiskRep.putLater {W : World} (h : DiskRep W s b (Plus F w W) bd bm dvs pv pvs D) {k : Nat} {v : Value} {l : List UInt8} (hl : l.length = s.size) (hv : DataV W (Plus F w W) s.size v l) :
    DiskRep (W.setCell ⟨bd, k, none⟩ v) { s with dur := s.dur.set k l } b (Plus F w (W.setCell ⟨bd, k, none⟩ v)) bd bm (dvs.set k v) pv pvs D :=
  (h.put hl hv).mono (fun _ hk => hk.imp id (fun x => ⟨x.1, by simpa using x.2⟩)) (fun k hk => by
    rcases hk with hk | hk
    · simpa using h.inn k (.inl hk)
    · exact hk.2)
theorem DiskRep.plus (h : DiskRep w s b F bd bm dvs pv pvs D) : DiskRep w s b (Plus F w w) bd bm dvs pv pvs D := h.mono (fun _ hk => .inl hk) (Plus.inn h.inn (Nat.le_refl _))
theorem foldl_take_succ {α : Type} (l : List (Nat × α)) (d : List α) (k : Nat) (q : Nat × α) (hq : l[k]? = some q) :
    (l.take (k + 1)).foldl (fun d p => d.set p.1 p.2) d = ((l.take k).foldl (fun d p => d.set p.1 p.2) d).set q.1 q.2 := by
  rw [List.take_add_one, hq]; simp [List.foldl_append]
end
end Go.Proofs.YtcpcnfedbffecaaDoor
