/- The package's tables out of the row's condition; a slice of one string. -/
import Derived.Test.YtcpcnfedbffecaaDoorShaN
import Derived.Test.YtcpcnfedbffecaaDoorRows
import Derived.ProofKit
import Derived.Lib.LaidTab
import Derived.Lib.LaidU8
namespace Go.Proofs.YtcpcnfedbffecaaDoor
open Go.RowKit
theorem str_back (s : ByteArray) {l : List UInt8} (h : l = s.data.toList) : (⟨l.toArray⟩ : ByteArray) = s := by
  subst h; rfl
theorem StringsV.one (W : World) (s : ByteArray) : StringsV (W.alloc (.cells #[.string s] 9)) (fun k => k < (W.alloc (.cells #[.string s] 9)).heap.size) (.slice (some ⟨W.heap.size, 0, none⟩) 1 1) [s] := by
  refine ⟨_, 1, rfl, by simp, by unfold maxLen; omega, (fun e => by cases e), fun _ => ⟨W.heap.size, 0, rfl, by simp, fun i hi => ?_⟩⟩
  have h0 : i = 0 := by simp at hi; omega
  subst h0
  exact (Blk.new W [.string s] 9).cell rfl
theorem Tryd.gIv : Tryd.prog.globalNamed "kinkeep/sha256.initial" = some 0 := by kernel_rfl
theorem Tryd.gK : Tryd.prog.globalNamed "kinkeep/sha256.constants" = some 1 := by kernel_rfl
theorem Tryd.gIvType : (Tryd.prog.globals[0]?).map (·.type) = some 94 := by kernel_rfl
theorem Tryd.gKType : (Tryd.prog.globals[1]?).map (·.type) = some 99 := by kernel_rfl
theorem tab_of_reads {P : Program} {W : World} {name : String} {k : IntKind} {zs : List Int} {d : DataW Unit} {g : Nat} {t e : TypeId} {n : Nat} (hd : d = Lib.tabData k zs)
    (hg : P.globalNamed name = some g) (hty : (P.globals[g]?).map (·.type) = some t) (ht : P.underlying t = some (.array n e)) (he : P.underlying e = some (.int k)) (hce : P.cellsOf e = 1) (hct : P.cellsOf t = n)
    (h : Lib.VarReads P W name d) : Lib.TabIs P W name k zs := by
  subst hd
  obtain ⟨g', t', cs, fuel, p, hg', ht', hvar, hd⟩ := h
  obtain rfl := Option.some.inj (hg.symm.trans hg')
  obtain rfl := Option.some.inj (hty.symm.trans ht')
  unfold Lib.TabIs
  rw [hvar, ← Lib.cells_of_tab ht he hce hct hd]
theorem glob_of_laid {W : World} (h : laidMet Tryd.prog [("kinkeep/sha256.initial", Rows.laid_kinkeep_sha256_initial), ("kinkeep/sha256.constants", Rows.laid_kinkeep_sha256_constants)
    ] W) : Glob W := by
  have t0 := tab_of_reads (zs := Sha.H0.map fun x => (x.toNat : Int)) (by kernel_rfl) Tryd.gIv Tryd.gIvType Tryd.underlying94 Tryd.underlying93 (by kernel_rfl) (by kernel_rfl) (Lib.laidMet.reads h (.head _))
  have t1 := tab_of_reads (zs := Sha.K.map fun x => (x.toNat : Int)) (by kernel_rfl) Tryd.gK Tryd.gKType Tryd.underlying99 Tryd.underlying93 (by kernel_rfl) (by kernel_rfl) (Lib.laidMet.reads h (.tail _ (.head _)))
  have gd : ∀ (l : List UInt32) i, (l.map fun x => (x.toNat : Int)).getD i 0 = ((l.getD i 0).toNat : Int) := fun l i => by
    simp only [List.getD, List.getElem?_map]
    cases l[i]? <;> rfl
  refine ⟨fun i hi => ?_, fun i hi => ?_,
    ⟨by omega, ?_⟩⟩
  · rw [t0.cell Tryd.gIv i (by simpa [Sha.H0] using hi), gd]
  · rw [t1.cell Tryd.gK i (by simpa [Sha.K] using hi), gd]
  · have := block_lt_of_cell (t1.cell Tryd.gK 0 (by simp [Sha.K]))
    exact this
def layTab (h : Array Obj) (g : Nat) (cs : List Value) : Array Obj := h.modify g fun
  | .cells _ t frozen => .cells cs.toArray t frozen
  | o => o
/-- A world for the witness: the settled one, the tables holding what their initialisers lay. -/
noncomputable def laidWorld (os : Os) : World := { World.holding Tryd.prog os ⟨#[], #[], []⟩ with heap := layTab (layTab (World.holding Tryd.prog os ⟨#[], #[], []⟩).heap 0 (Ws Sha.H0)) 1 (Ws Sha.K) }
end Go.Proofs.YtcpcnfedbffecaaDoor
