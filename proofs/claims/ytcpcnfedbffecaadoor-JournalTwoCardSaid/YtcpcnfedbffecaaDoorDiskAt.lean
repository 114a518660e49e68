/- How a disk of chapter 15 lies in memory ('DiskAt'), and that it stays while its own blocks stay. -/
import Derived.Test.YtcpcnfedbffecaaDoorChecked
import Derived.Test.YtcpcnfedbffecaaDoorHeap
import Derived.Test.YtcpcnfedbffecaaDoorDiskM
import Derived.Maps.OwnSet
namespace Go.Proofs.YtcpcnfedbffecaaDoor
open Go.RowKit Go.Maps

/-- v is a slice over a whole block of the n bytes l. -/
def DataV (w : World) (F : Nat → Prop) (n : Nat) (v : Value) (l : List UInt8) : Prop :=
  ∃ k, v = .slice (some ⟨k, 0, none⟩) n n ∧ F k ∧ Blk w k (By l) 5 ∧ l.length = n
/-- A row of the durable contents: nil stands for zeros. -/
def RowV (w : World) (F : Nat → Prop) (n : Nat) (v : Value) (l : List UInt8) : Prop :=
  (v = .slice none 0 0 ∧ l = List.replicate n 0) ∨ DataV w F n v l
def pcells (pvs : List (Nat × Value)) : List Value := pvs.flatMap fun p => [.int .i64 (p.1 : Int), p.2]
def MapRel (D : DataW Unit) (pend : List (Nat × List UInt8)) : Prop :=
  IsMap D ∧ ∀ k : Nat, k < 65536 → match DSt.lastIdx k pend 0 with
    | none => Maps.has D (.int .i64 (k : Int)) = false
    | some j => Maps.has D (.int .i64 (k : Int)) = true ∧ ∀ z, D.atKey (.int .i64 (k : Int)) z = .lit (.int .i64 (j : Int))

structure DiskRep (w : World) (s : DSt) (b : Nat) (F : Nat → Prop) (bd bm : Nat) (dvs : List Value) (pv : Value) (pvs : List (Nat × Value)) (D : DataW Unit) : Prop where
  ok : s.Ok
  inn : Inn F w
  Fb : F b
  Fbd : F bd
  Fbm : F bm
  Fpv : ∀ g, pv.ownBlock = some g → F g
  cells : Blk w b [.int .i64 (s.size : Int), .slice (some ⟨bd, 0, none⟩) s.dur.length s.dur.length, pv, .map (some bm), .int .i64 s.after, .bool s.down] 52
  durs : Blk w bd dvs 39
  dur : All2 (RowV w F s.size) dvs s.dur
  pend : w.ownsRow 0 65 2 pv s.pend.length (pcells pvs)
  pvs : All2 (fun p q => p.1 = q.1 ∧ DataV w F s.size p.2 q.2) pvs s.pend
  map : w.ownsMap Tryd.prog 3 (plainElem Tryd.prog 3) bm s.pend.length D
  rel : MapRel D s.pend

/-- At block b of w lies a disk in the state s; all of its blocks are of F. -/
def DiskAt (w : World) (s : DSt) (b : Nat) (F : Nat → Prop) : Prop := ∃ bd bm dvs pv pvs D, DiskRep w s b F bd bm dvs pv pvs D

section
variable {w w' : World} {s : DSt} {b : Nat} {F G : Nat → Prop} {bd bm n : Nat} {dvs : List Value} {pv v : Value} {pvs : List (Nat × Value)} {D : DataW Unit} {l : List UInt8}
theorem DataV.same (h : DataV w F n v l) (hs : Same F w w') : DataV w' F n v l := by
  obtain ⟨k, e, hk, hb, hl⟩ := h; exact ⟨k, e, hk, hs.blk hk hb, hl⟩
theorem DataV.mono (h : DataV w F n v l) (hs : ∀ k, F k → G k) : DataV w G n v l := by
  obtain ⟨k, e, hk, hb, hl⟩ := h; exact ⟨k, e, hs k hk, hb, hl⟩
theorem RowV.same (h : RowV w F n v l) (hs : Same F w w') : RowV w' F n v l := h.imp id (·.same hs)
theorem RowV.mono (h : RowV w F n v l) (hs : ∀ k, F k → G k) : RowV w G n v l := h.imp id (·.mono hs)
theorem DataV.bv (h : DataV w F n v l) (hn : n ≤ 4096) : BV w F v l := by
  obtain ⟨k, rfl, hk, hb, rfl⟩ := h
  exact (BV.of_blk hb (by rw [List.take_of_length_le (by simp)]) (Nat.le_refl _) (by unfold maxLen; omega)).mono (fun _ e => e ▸ hk)
/-- What 'filled' makes of bytes. -/
def fill (n : Nat) (l : List UInt8) : List UInt8 := l.take n ++ List.replicate (n - l.length) 0
theorem fill_length (n : Nat) (l : List UInt8) : (fill n l).length = n := by simp [fill]; omega
theorem fill_self (l : List UInt8) : fill l.length l = l := by simp [fill]
theorem fill_nil (n : Nat) : fill n [] = List.replicate n 0 := by simp [fill]
/-- A row of the durable contents as 'filled' sees it. -/
theorem RowV.fills (h : RowV w F n v l) (hn : n ≤ 4096) : ∃ l', BV w F v l' ∧ l'.length ≤ n ∧ fill n l' = l := by
  rcases h with ⟨rfl, rfl⟩ | h
  · exact ⟨[], BV.nil w F, by simp, fill_nil n⟩
  · have hb := h.bv hn
    obtain ⟨k, _, _, _, rfl⟩ := h
    exact ⟨l, hb, Nat.le_refl _, fill_self l⟩
theorem ownsMap_same {R : Value → Option (DataW Unit × List MemPlace)} {P : Program} {k : TypeId} {m : Nat} (h : w.ownsMap P k R bm m D) (e : w'.heap[bm]? = w.heap[bm]?) : w'.ownsMap P k R bm m D := by
  obtain ⟨es, clock, hb, r⟩ := h
  exact ⟨es, clock, e.trans hb, r⟩
theorem pcells_length (pvs : List (Nat × Value)) : (pcells pvs).length = pvs.length * 2 := by
  induction pvs with
  | nil => rfl
  | cons p ps ih => simp only [pcells, List.flatMap_cons, List.length_append, List.length_cons, List.length_nil] at *; omega
theorem pcells_snoc (pvs : List (Nat × Value)) (p : Nat × Value) : pcells (pvs ++ [p]) = pcells pvs ++ [.int .i64 (p.1 : Int), p.2] := by simp [pcells]
theorem pcells_get (pvs : List (Nat × Value)) : ∀ (j : Nat) (p : Nat × Value), pvs[j]? = some p → (pcells pvs)[j * 2]? = some (.int .i64 (p.1 : Int)) ∧ (pcells pvs)[j * 2 + 1]? = some p.2 := by
  induction pvs with
  | nil => intro j p h; simp at h
  | cons q qs ih =>
    intro j p h
    cases j with
    | zero => simp at h; subst h; simp [pcells]
    | succ j =>
      have := ih j p (by simpa using h)
      rw [show (j + 1) * 2 = j * 2 + 2 from by omega]
      simpa [pcells] using this
theorem DiskRep.same (h : DiskRep w s b F bd bm dvs pv pvs D) (hs : Same F w w') (hw : w.heap.size ≤ w'.heap.size) : DiskRep w' s b F bd bm dvs pv pvs D :=
  ⟨h.ok, fun k hk => Nat.lt_of_lt_of_le (h.inn k hk) hw, h.Fb, h.Fbd, h.Fbm, h.Fpv, hs.blk h.Fb h.cells, hs.blk h.Fbd h.durs, h.dur.mono (fun _ _ r => r.same hs),
    hs.row h.pend h.Fpv, h.pvs.mono (fun _ _ r => ⟨r.1, r.2.same hs⟩), ownsMap_same h.map (hs bm h.Fbm), h.rel⟩
theorem DiskRep.mono (h : DiskRep w s b F bd bm dvs pv pvs D) (hs : ∀ k, F k → G k) (hG : Inn G w) : DiskRep w s b G bd bm dvs pv pvs D :=
  ⟨h.ok, hG, hs _ h.Fb, hs _ h.Fbd, hs _ h.Fbm, fun g hg => hs _ (h.Fpv g hg), h.cells, h.durs, h.dur.mono (fun _ _ r => r.mono hs), h.pend, h.pvs.mono (fun _ _ r => ⟨r.1, r.2.mono hs⟩), h.map, h.rel⟩
theorem DiskAt.same (h : DiskAt w s b F) (hs : Same F w w') (hw : w.heap.size ≤ w'.heap.size) : DiskAt w' s b F := by
  obtain ⟨bd, bm, dvs, pv, pvs, D, h⟩ := h; exact ⟨bd, bm, dvs, pv, pvs, D, h.same hs hw⟩
theorem DiskAt.mono (h : DiskAt w s b F) (hs : ∀ k, F k → G k) (hG : Inn G w) : DiskAt w s b G := by
  obtain ⟨bd, bm, dvs, pv, pvs, D, h⟩ := h; exact ⟨bd, bm, dvs, pv, pvs, D, h.mono hs hG⟩
theorem DiskAt.inn (h : DiskAt w s b F) : Inn F w := by obtain ⟨bd, bm, dvs, pv, pvs, D, h⟩ := h; exact h.inn
theorem DiskAt.ok (h : DiskAt w s b F) : s.Ok := by obtain ⟨bd, bm, dvs, pv, pvs, D, h⟩ := h; exact h.ok
theorem DiskAt.Fb (h : DiskAt w s b F) : F b := by obtain ⟨bd, bm, dvs, pv, pvs, D, h⟩ := h; exact h.Fb
theorem DiskRep.ne_b (h : DiskRep w s b F bd bm dvs pv pvs D) {k : Nat} {L : List Value} {T : TypeId} (hk : Blk w k L T) (hT : T ≠ 52) : k ≠ b := fun e => by subst e; exact hT (hk.inj h.cells).2
theorem DiskRep.bm_ne (h : DiskRep w s b F bd bm dvs pv pvs D) {k : Nat} {L : List Value} {T : TypeId} (hk : Blk w k L T) : bm ≠ k := fun e => by
  obtain ⟨es, clock, hb, _⟩ := h.map
  unfold Blk at hk
  rw [e, hk] at hb
  cases hb
theorem ownsRow_blk {base : Nat} {T : TypeId} {size n : Nat} {xs : List Value} (h : w.ownsRow base T size v n xs) {g : Nat} (hg : v.ownBlock = some g) : ∃ cur, Blk w g cur T := by
  rcases h.2 with ⟨e, _⟩ | ⟨g', cap, cur, e, _, hb, _⟩
  · rw [e] at hg; cases hg
  · rw [e] at hg
    simp only [Value.ownBlock, Option.some.injEq] at hg
    subst hg
    exact ⟨cur.toList, by simpa [Blk] using hb⟩
theorem DiskRep.pv_ne_b (h : DiskRep w s b F bd bm dvs pv pvs D) {g : Nat} (hg : pv.ownBlock = some g) : g ≠ b := by
  obtain ⟨cur, hb⟩ := ownsRow_blk h.pend hg
  exact h.ne_b hb (by decide)
/-- Only the disk's own block has turned, in its plain cells (after, down). -/
theorem DiskRep.turn (h : DiskRep w s b F bd bm dvs pv pvs D) (hh : ∀ k, k ≠ b → w'.heap[k]? = w.heap[k]?) (hsz : w.heap.size ≤ w'.heap.size) (a : Int) (d : Bool) (ha : -1 ≤ a) (ha2 : a ≤ 9223372036854775807)
    (hb : Blk w' b [.int .i64 (s.size : Int), .slice (some ⟨bd, 0, none⟩) s.dur.length s.dur.length, pv, .map (some bm), .int .i64 a, .bool d] 52) :
    DiskRep w' { s with after := a, down := d } b F bd bm dvs pv pvs D := by
  have hdv : ∀ {n v l}, DataV w F n v l → DataV w' F n v l := fun hv => by
    obtain ⟨k, e, hk, hb, hl⟩ := hv
    exact ⟨k, e, hk, hb.of_same (hh k (h.ne_b hb (by decide))), hl⟩
  refine ⟨⟨h.ok.size1, h.ok.size2, h.ok.n1, h.ok.n2, h.ok.dur, h.ok.pend, ha, ha2⟩, fun k hk => Nat.lt_of_lt_of_le (h.inn k hk) hsz, h.Fb, h.Fbd, h.Fbm, h.Fpv, hb, ?_, h.dur.mono (fun _ _ r => r.imp id hdv), ?_, h.pvs.mono (fun _ _ r => ⟨r.1, hdv r.2⟩), ?_, h.rel⟩
  · exact h.durs.of_same (hh bd (h.ne_b h.durs (by decide)))
  · exact Same.row (G := fun k => k ≠ b) hh h.pend (fun g hg => h.pv_ne_b hg)
  · exact ownsMap_same h.map (hh bm (h.bm_ne h.cells))
end
end Go.Proofs.YtcpcnfedbffecaaDoor
