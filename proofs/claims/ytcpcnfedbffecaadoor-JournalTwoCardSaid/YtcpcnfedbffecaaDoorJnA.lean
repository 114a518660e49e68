/- Lists of records in memory; contracts of bytes.Clone and appendNumber. -/
import Derived.Test.YtcpcnfedbffecaaDoorJnM
import Derived.Test.YtcpcnfedbffecaaDoorDiskS
import Derived.Test.YtcpcnfedbffecaaDoorAppS
import Derived.Test.YtcpcnfedbffecaaDoorShaJ
import Derived.Deep.AppendLies
namespace Go.Proofs.YtcpcnfedbffecaaDoor
open Go.RowKit Go.Maps
set_option linter.unusedSimpArgs false
/-- v is a slice of its own that reads as l; its block is of F. -/
def OwnF (w : World) (F : Nat → Prop) (v : Value) (l : List UInt8) : Prop := OwnB w v l ∧ ∀ g, v.ownBlock = some g → F g
/-- An own list of own byte slices; all blocks are of F. -/
def RecsR (w : World) (F : Nat → Prop) (rv : Value) (rvs : List Value) (l : List (List UInt8)) : Prop :=
  w.ownsRow 0 39 1 rv l.length rvs ∧ All2 (OwnF w F) rvs l ∧ ∀ g, rv.ownBlock = some g → F g
def RecsV (w : World) (F : Nat → Prop) (rv : Value) (l : List (List UInt8)) : Prop := ∃ rvs, RecsR w F rv rvs l
section
variable {w w' w1 w2 w0 : World} {F G : Nat → Prop} {rv v : Value} {rvs : List Value} {l : List (List UInt8)} {x : List UInt8}
theorem OwnF.same (h : OwnF w F v x) (hs : Same F w w') : OwnF w' F v x := ⟨h.1.same hs h.2, h.2⟩
theorem OwnF.mono (h : OwnF w F v x) (hs : ∀ k, F k → G k) : OwnF w G v x := ⟨h.1, fun g hg => hs g (h.2 g hg)⟩
theorem OwnF.bv (h : OwnF w F v x) : BV w F v x := h.1.bv.mono (fun k hk => h.2 k hk)
theorem OwnF.blk (h : OwnF w F v x) {g : Nat} (hg : v.ownBlock = some g) : ∃ cur, Blk w g cur 5 := ownsRow_blk h.1 hg
theorem RecsR.same (h : RecsR w F rv rvs l) (hs : Same F w w') : RecsR w' F rv rvs l := ⟨hs.row h.1 h.2.2, h.2.1.mono (fun _ _ r => r.same hs), h.2.2⟩
theorem RecsR.mono (h : RecsR w F rv rvs l) (hs : ∀ k, F k → G k) : RecsR w G rv rvs l := ⟨h.1, h.2.1.mono (fun _ _ r => r.mono hs), fun g hg => hs g (h.2.2 g hg)⟩
theorem RecsV.same (h : RecsV w F rv l) (hs : Same F w w') : RecsV w' F rv l := by obtain ⟨rvs, h⟩ := h; exact ⟨rvs, h.same hs⟩
theorem RecsV.mono (h : RecsV w F rv l) (hs : ∀ k, F k → G k) : RecsV w G rv l := by obtain ⟨rvs, h⟩ := h; exact ⟨rvs, h.mono hs⟩
theorem RecsV.below (h : RecsV w F rv l) (hI : Inn F w) (hb : Below w.heap.size w w') : RecsV w' F rv l := h.same (fun k hk => hb.block k (hI k hk))
theorem RecsR.below (h : RecsR w F rv rvs l) (hI : Inn F w) (hb : Below w.heap.size w w') : RecsR w' F rv rvs l := h.same (fun k hk => hb.block k (hI k hk))
theorem RecsR.nil : RecsR w F (.slice none 0 0) [] [] := ⟨World.ownsRow_nil _ _ _ _, All2.nil, fun g hg => by cases hg⟩
theorem RecsV.nil : RecsV w F (.slice none 0 0) [] := ⟨[], RecsR.nil⟩
theorem RecsV.form (h : RecsV w F rv l) : ∃ a c, rv = .slice a l.length c ∧ l.length ≤ c ∧ c ≤ maxLen ∧ (0 < l.length → ∃ g, a = some ⟨g, 0, none⟩) := by
  obtain ⟨rvs, h, _⟩ := h
  rcases h.2 with ⟨rfl, h0⟩ | ⟨g, cap, cur, rfl, _, _, h1, h2, _⟩
  · exact ⟨none, 0, by rw [h0], by omega, by unfold maxLen; omega, fun h => by omega⟩
  · exact ⟨_, cap, rfl, h1, h2, fun _ => ⟨g, rfl⟩⟩
theorem RecsV.lv (h : RecsV w F rv l) : LV w F rv l := by
  obtain ⟨rvs, h1, h2, h3⟩ := h
  rcases h1.2 with ⟨rfl, h0⟩ | ⟨g, cap, cur, rfl, hg, hb, c1, c2, hs, ht⟩
  · have hL : l = [] := List.eq_nil_of_length_eq_zero h0
    rw [hL]
    exact ⟨none, 0, rfl, Nat.le_refl _, by unfold maxLen; omega, fun _ => rfl, fun h => absurd h (by simp)⟩
  · refine ⟨_, cap, rfl, c1, c2, (fun e => by cases e), fun _ => ⟨g, 0, rfl, h3 g rfl, fun i hi => ?_⟩⟩
    obtain ⟨x, hx, hv⟩ := h2.get (i := i) (b := l[i]) (by simp [hi])
    refine ⟨x, ?_, hv.bv⟩
    rw [Nat.zero_add, h1.cellAt i (by omega), hx]
/-- Rows more: behind the append (w2) of rows xs that read as m. -/
theorem RecsR.push (h : RecsR w F rv rvs l) {xs : List Value} {m : List (List UInt8)} (hm : All2 (OwnF w F) xs m) {n k gg cap : Nat} (hn : l.length = n) (hk : m.length = k)
    (hown : w2.ownsRow 0 39 1 (.slice (some ⟨gg, 0, none⟩) (n + k) cap) (n + k) (rvs ++ xs)) (hgrow : w.grownBy w2 rv.ownBlock) (hat : rv.ownBlock = some gg ∨ gg = w.heap.size) (hlt : gg < w2.heap.size) :
    Stp (fun g => rv.ownBlock = some g) w w2 ∧ RecsR w2 (Plus F w w2) (.slice (some ⟨gg, 0, none⟩) (n + k) cap) (rvs ++ xs) (l ++ m) := by
  subst hn; subst hk
  have st : Stp (fun g => rv.ownBlock = some g) w w2 := (Stp.refl _ _).grown hgrow (fun x hx => .inl hx)
  have old : ∀ {v' : Value} {l' : List UInt8}, OwnF w F v' l' → OwnF w2 (Plus F w w2) v' l' := fun {v' l'} hv' => by
    refine ⟨hv'.1.same (F := fun g => v'.ownBlock = some g) (fun g hg => ?_) (fun g hg => hg), fun g hg => .inl (hv'.2 g hg)⟩
    obtain ⟨cur, hb⟩ := hv'.blk hg
    exact hgrow.block g hb.lt (fun e => by
      obtain ⟨cur', hb'⟩ := ownsRow_blk h.1 e.symm
      exact absurd (hb.inj hb').2 (by decide))
  refine ⟨st, ?_, ⟨by simp [h.2.1.1, hm.1], fun i a b ha hb => ?_⟩, fun g hg => ?_⟩
  · simpa using hown
  · by_cases hi : i < rvs.length
    · rw [List.getElem?_append_left hi] at ha
      rw [List.getElem?_append_left (by rw [← h.2.1.1]; exact hi)] at hb
      exact old (h.2.1.2 i a b ha hb)
    · rw [List.getElem?_append_right (by omega)] at ha
      rw [List.getElem?_append_right (by rw [← h.2.1.1]; omega), ← h.2.1.1] at hb
      exact old (hm.2 _ a b ha hb)
  · simp only [Value.ownBlock, Option.some.injEq] at hg
    subst hg
    rcases hat with hg | rfl
    · exact .inl (h.2.2 _ hg)
    · exact .inr ⟨Nat.le_refl _, hlt⟩
theorem bytes_not_nil (w : World) (ad : Addr) (n c : Nat) : (binOp .eql 39 (.slice (some ad) n c) (.slice none 0 0)).run Tryd.prog w = .ok (.bool false) w := by kernel_rfl
theorem bytes_nil (w : World) : (binOp .eql 39 (.slice none 0 0) (.slice none 0 0)).run Tryd.prog w = .ok (.bool true) w := by kernel_rfl
theorem num_cells (n : Nat) (hn : n < 2147483648) : By (Jn.num n) = [.int .u8 ((n : Int) / 16777216), .int .u8 ((n : Int) / 65536 % 256), .int .u8 ((n : Int) / 256 % 256), .int .u8 ((n : Int) % 256)] := by
  simp only [By, Jn.num, List.map_cons, List.map_nil, UInt8.toNat_ofNat', List.cons.injEq, Value.int.injEq, true_and, and_true]
  omega
set_option maxRecDepth 100000 in
set_option maxHeartbeats 400000 in
theorem clone_any (hv : BV w F v x) (hl : x.length ≤ 1000000000) : Calls Tryd.prog 29 #[v] w fun e w' => ∃ v', e = .returned v' ∧ NewB w.heap.size w x v' w' := by
  obtain ⟨a, c, e, h1, h2, h3, h4⟩ := id hv
  subst e
  unfold maxLen at h2
  cases a with
  | none =>
    obtain rfl := h3 rfl
    have hx : x = [] := List.eq_nil_of_length_eq_zero (by omega)
    subst hx
    clear h4
    have hq := bytes_nil w
    go_enter Tryd.func29, Tryd.ntmps29
    go_wp2_with fail
    go_ret
    exact ⟨_, rfl, NewB.none w⟩
  | some ad =>
    have HV := Lib.hid hv
    have hO := Lib.hid (NewB.empty w)
    clear hv h4 h3
    have hq := bytes_not_nil w ad x.length c
    go_enter Tryd.func29, Tryd.ntmps29
    go_wp2_with (at_builtin; refine wpList_append_bytes rfl (.tmp 5) (.tmp 6) rfl (.slice (some ⟨w.heap.size, 0, none⟩) 0 0) (.slice (some ad) x.length c) x (by rfl) (by rfl) hO.out.2.1 (HV.out.alloc _) (by rw [List.length_nil]; omega) ?_)
    intro oa oc w3 hO3 hg hat
    have N := Lib.hid (hO.out.push hO3 hg (hat.imp id (fun e => e.trans (by simp))))
    clear hO3 hg hat
    go_wp2_with fail
    go_ret
    refine ⟨_, rfl, ?_⟩
    have := N.out
    rwa [List.nil_append] at this
set_option maxRecDepth 100000 in
set_option maxHeartbeats 400000 in
theorem appnum_any {B : Nat} {acc : List UInt8} {sv : Value} (h : NewB B w0 acc sv w) (n : Nat) (hn : n < 2147483648) (hl : acc.length ≤ 1000000000) :
    Calls Tryd.prog 40 #[sv, .int .i64 (n : Int)] w fun e w' => ∃ sv', e = .returned sv' ∧ NewB B w0 (acc ++ Jn.num n) sv' w' := by
  obtain ⟨a, c, rfl, _⟩ := h.2.1.form
  have H := Lib.hid h; clear h
  go_enter Tryd.func40, Tryd.ntmps40
  have NC := num_cells n hn
  have hb0 := Blk.new w (By (Jn.num n)) 5
  rw [NC] at hb0
  have HX : Hid (BV (w.alloc (.cells #[.int .u8 ((n : Int) / 16777216), .int .u8 ((n : Int) / 65536 % 256), .int .u8 ((n : Int) / 256 % 256), .int .u8 ((n : Int) % 256)] 5)) (· = w.heap.size) (.slice (some ⟨w.heap.size, 0, none⟩) 4 4) (Jn.num n)) := Lib.hid (BV.of_blk (c := 4) (l := Jn.num n) hb0 (by rw [NC]; rfl) (by simp) (by unfold maxLen; omega))
  clear NC hb0
  go_wp2_with (at_builtin; refine wpList_append_bytes rfl (.tmp 5) (.tmp 17) rfl (.slice a acc.length c) (.slice (some ⟨w.heap.size, 0, none⟩) 4 4) (Jn.num n) (by rfl) (by rfl) (H.out.alloc _).2.1 HX.out (by rw [Jn.num_length]; omega) ?_)
  intro oa oc w3 hO3 hg hat
  have N := Lib.hid ((H.out.alloc _).push hO3 hg (hat.imp id (fun e => e.trans (by simp))))
  clear hO3 hg hat
  go_wp2_with fail
  go_ret
  exact ⟨_, rfl, N.out⟩
end
end Go.Proofs.YtcpcnfedbffecaaDoor
