/- Plain laws on digits; the package's tables out of the row's condition. -/
import Derived.Test.YtiakmpnmooobbaaDoorShaK
import Derived.Test.YtiakmpnmooobbaaDoorRows
import Derived.ProofKit
import Derived.Lib.LaidTab
import Derived.Lib.LaidU8
namespace Go.Proofs.YtiakmpnmooobbaaDoor
open Go.RowKit
namespace Sha
theorem dig_all : ∀ n, n < 256 → isDig (UInt8.ofNat n) = true → hexd.getD (dig (UInt8.ofNat n)).toNat 0 = UInt8.ofNat n ∧ (dig (UInt8.ofNat n)).toNat < 16 := by decide +kernel
theorem pair_all : ∀ x, x < 16 → ∀ y, y < 16 → ((UInt8.ofNat x <<< 4) ||| UInt8.ofNat y).toNat = 16 * x + y := by decide +kernel
theorem dig_ok (c : UInt8) (h : isDig c = true) : hexd.getD (dig c).toNat 0 = c ∧ (dig c).toNat < 16 := by
  have := dig_all c.toNat c.toNat_lt
  rw [UInt8.ofNat_toNat] at this
  exact this h
theorem pair_ok (x y : UInt8) (hx : x.toNat < 16) (hy : y.toNat < 16) : ((x <<< 4) ||| y).toNat = 16 * x.toNat + y.toNat := by
  have := pair_all x.toNat hx y.toNat hy
  rwa [UInt8.ofNat_toNat, UInt8.ofNat_toNat] at this
theorem unhex_get (l : List UInt8) (j : Nat) (hj : j < l.length / 2) : (unhex l).getD j 0 = (digAt l (2 * j) <<< 4) ||| digAt l (2 * j + 1) := by
  unfold unhex vals
  simp only [List.getD, List.getElem?_map, List.getElem?_range hj, Option.map_some, Option.getD_some]
  unfold valAt
  rw [if_pos (by omega)]
theorem hex_unhex_take (l : List UInt8) (h : hexOk l = true) : ∀ k, k ≤ l.length / 2 → hex ((unhex l).take k) = l.take (2 * k)
  | 0, _ => by simp [hex]
  | k + 1, hk => by
    unfold hexOk at h
    rw [Bool.and_eq_true] at h
    obtain ⟨he, ha⟩ := h
    have he2 : l.length % 2 = 0 := by simpa using he
    have hul : (unhex l).length = l.length / 2 := vals_length l _
    rw [hex_take _ _ (by omega), hex_unhex_take l (by unfold hexOk; rw [Bool.and_eq_true]; exact ⟨he, ha⟩) k (by omega), unhex_get l k (by omega)]
    have h1 : 2 * k < l.length := by omega
    have h2 : 2 * k + 1 < l.length := by omega
    have d1 := dig_ok (l.getD (2 * k) 0) (by have := List.all_eq_true.1 ha _ (List.getElem_mem h1); simpa [List.getD, h1] using this)
    have d2 := dig_ok (l.getD (2 * k + 1) 0) (by have := List.all_eq_true.1 ha _ (List.getElem_mem h2); simpa [List.getD, h2] using this)
    unfold digAt
    rw [pair_ok _ _ d1.2 d2.2]
    rw [show (16 * (dig (l.getD (2 * k) 0)).toNat + (dig (l.getD (2 * k + 1) 0)).toNat) / 16 = (dig (l.getD (2 * k) 0)).toNat from by have := d2.2; omega,
      show (16 * (dig (l.getD (2 * k) 0)).toNat + (dig (l.getD (2 * k + 1) 0)).toNat) % 16 = (dig (l.getD (2 * k + 1) 0)).toNat from by have := d2.2; omega, d1.1, d2.1]
    rw [show 2 * (k + 1) = 2 * k + 1 + 1 from by omega, List.take_succ_eq_append_getElem h2, List.take_succ_eq_append_getElem h1, List.append_assoc]
    simp only [List.getD, List.getElem?_eq_getElem h1, List.getElem?_eq_getElem h2, Option.getD_some, List.cons_append, List.nil_append]
theorem hex_unhex (l : List UInt8) (h : hexOk l = true) : hex (unhex l) = l := by
  have he : l.length % 2 = 0 := by unfold hexOk at h; rw [Bool.and_eq_true] at h; simpa using h.1
  have hul : (unhex l).length = l.length / 2 := vals_length l _
  have := hex_unhex_take l h (l.length / 2) (Nat.le_refl _)
  rwa [List.take_of_length_le (by omega), List.take_of_length_le (by omega)] at this
end Sha
theorem str_back (s : ByteArray) {l : List UInt8} (h : l = s.data.toList) : (⟨l.toArray⟩ : ByteArray) = s := by
  subst h; rfl
theorem StringsV.one (W : World) (s : ByteArray) : StringsV (W.alloc (.cells #[.string s] 9)) (fun k => k < (W.alloc (.cells #[.string s] 9)).heap.size) (.slice (some ⟨W.heap.size, 0, none⟩) 1 1) [s] := by
  refine ⟨_, 1, rfl, by simp, by unfold maxLen; omega, (fun e => by cases e), fun _ => ⟨W.heap.size, 0, rfl, by simp, fun i hi => ?_⟩⟩
  have h0 : i = 0 := by simp at hi; omega
  subst h0
  exact (Blk.new W [.string s] 9).cell rfl
theorem Tryd.gIv : Tryd.prog.globalNamed "kinkeep/sha256.initial" = some 0 := by kernel_rfl
theorem Tryd.gK : Tryd.prog.globalNamed "kinkeep/sha256.constants" = some 1 := by kernel_rfl
theorem Tryd.gIvType : (Tryd.prog.globals[0]?).map (·.type) = some 49 := by kernel_rfl
theorem Tryd.gKType : (Tryd.prog.globals[1]?).map (·.type) = some 58 := by kernel_rfl
theorem tab_of_reads {P : Program} {W : World} {name : String} {k : IntKind} {zs : List Int} {d : DataW Unit} {g : Nat} {t e : TypeId} {n : Nat} (hd : d = Lib.tabData k zs)
    (hg : P.globalNamed name = some g) (hty : (P.globals[g]?).map (·.type) = some t) (ht : P.underlying t = some (.array n e)) (he : P.underlying e = some (.int k)) (hce : P.cellsOf e = 1) (hct : P.cellsOf t = n)
    (h : Lib.VarReads P W name d) : Lib.TabIs P W name k zs := by
  subst hd
  obtain ⟨g', t', cs, fuel, p, hg', ht', hvar, hd⟩ := h
  obtain rfl := Option.some.inj (hg.symm.trans hg')
  obtain rfl := Option.some.inj (hty.symm.trans ht')
  unfold Lib.TabIs
  rw [hvar, ← Lib.cells_of_tab ht he hce hct hd]
theorem glob_of_laid {W : World} (h : laidMet Tryd.prog [("kinkeep/sha256.initial", Rows.laid_kinkeep_sha256_initial), ("kinkeep/sha256.constants", Rows.laid_kinkeep_sha256_constants)] W) : Glob W := by
  have t0 := tab_of_reads (zs := Sha.H0.map fun x => (x.toNat : Int)) (by kernel_rfl) Tryd.gIv Tryd.gIvType Tryd.underlying49 Tryd.underlying48 (by kernel_rfl) (by kernel_rfl) (Lib.laidMet.reads h (.head _))
  have t1 := tab_of_reads (zs := Sha.K.map fun x => (x.toNat : Int)) (by kernel_rfl) Tryd.gK Tryd.gKType Tryd.underlying58 Tryd.underlying48 (by kernel_rfl) (by kernel_rfl) (Lib.laidMet.reads h (.tail _ (.head _)))
  have gd : ∀ (l : List UInt32) i, (l.map fun x => (x.toNat : Int)).getD i 0 = ((l.getD i 0).toNat : Int) := fun l i => by
    simp only [List.getD, List.getElem?_map]
    cases l[i]? <;> rfl
  refine ⟨fun i hi => ?_, fun i hi => ?_, ?_⟩
  · rw [t0.cell Tryd.gIv i (by simpa [Sha.H0] using hi), gd]
  · rw [t1.cell Tryd.gK i (by simpa [Sha.K] using hi), gd]
  · have := block_lt_of_cell (t1.cell Tryd.gK 0 (by simp [Sha.K]))
    exact this
def layTab (h : Array Obj) (g : Nat) (cs : List Value) : Array Obj := h.modify g fun
  | .cells _ t frozen => .cells cs.toArray t frozen
  | o => o
/-- A world for the witness: the settled one, the tables holding what their initialisers lay. -/
noncomputable def laidWorld (os : Os) : World := { World.holding Tryd.prog os ⟨#[], #[], []⟩ with heap := layTab (layTab (World.holding Tryd.prog os ⟨#[], #[], []⟩).heap 0 (Ws Sha.H0)) 1 (Ws Sha.K) }
end Go.Proofs.YtiakmpnmooobbaaDoor
