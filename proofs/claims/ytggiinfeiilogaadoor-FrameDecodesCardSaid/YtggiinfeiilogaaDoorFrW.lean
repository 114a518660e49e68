/- Contracts of package wire's UintSize and AppendUint, and of frame's cost, isKind, checksum. -/
import Derived.Test.YtggiinfeiilogaaDoorFrM
import Derived.Test.YtggiinfeiilogaaDoorShaN
import Derived.Test.YtggiinfeiilogaaDoorAppS
import Derived.Lib.Varint
namespace Go.Proofs.YtggiinfeiilogaaDoor
open Go.RowKit
section
variable {w : World}
set_option maxHeartbeats 1000000 in
theorem uintsize_any (w : World) (n : Nat) (hn : n < 2097152) : Calls Tryd.prog 59 #[.int .u64 (n : Int)] w fun e w' => e = .returned (.int .i64 ((Fr.num n).length : Int)) ∧ w = w' := by
  go_enter Tryd.func59, Tryd.ntmps59
  go_wp2_with fail
  go_loopw [0, 3] (fun s0 s3 wr => ∃ m s : Nat, s0 = .int .u64 (m : Int) ∧ s3 = .int .i64 (s : Int) ∧ s + (Fr.num m).length = (Fr.num n).length + 1 ∧ m < 2097152 ∧ 1 ≤ s ∧ wr = w) (fun s0 _ _ => (intOf s0).toNat)
  case atStart => exact ⟨n, 1, rfl, rfl, by omega, hn, by omega, rfl⟩
  case round =>
    obtain ⟨m, s, rfl, rfl, hs, hm, hs1, rfl⟩ := hrel
    have hle := Fr.num_le hn
    by_cases h : m < 128
    · have i1 : ¬ (128 : Int) ≤ (m : Int) := by omega
      have he : s = (Fr.num n).length := by rw [Fr.num1 h] at hs; simp at hs; omega
      have HE := Lib.hid he
      clear hs hle he
      go_wp2_with fail
      go_ret
      exact ⟨ret_int (by rw [HE.out]), rfl⟩
    · have i1 : (128 : Int) ≤ (m : Int) := by omega
      have is : (s : Int) ≤ 4 := by omega
      have he : s + 1 + (Fr.num (m / 128)).length = (Fr.num n).length + 1 := by rw [Fr.numS h] at hs; simp only [List.length_cons] at hs; omega
      have HE := Lib.hid he
      clear hs hle he
      go_wp2_with fail
      go_roundw
      case rel => exact ⟨m / 128, s + 1, by go_num, by go_num, HE.out, by omega, by omega, trivial⟩
      case measure => simp [intOf]; omega
theorem or128 (m : Nat) : bits BinOp.or IntKind.u8 ((m : Int) % 256) 128 = ((UInt8.ofNat (m % 128 + 128)).toNat : Int) := by
  rw [Lib.u8_or128_any _ (by omega) (by omega), Fr.toNat_of (by omega)]; omega
set_option maxHeartbeats 1000000 in
theorem extend_any (w0 w : World) {B : Nat} {l : List UInt8} {sv : Value} (hN : NewB B w0 l sv w) (n : Nat) (hn : n < 2097152) (hl : l.length ≤ 1000000000) :
    Calls Tryd.prog 58 #[sv, .int .u64 (n : Int)] w fun e w' => ∃ sv', e = .returned sv' ∧ NewB B w0 (l ++ Fr.num n) sv' w' := by
  go_enter Tryd.func58, Tryd.ntmps58
  go_wp2_with fail
  go_loopw [0, 1] (fun s0 s1 wr => ∃ (m : Nat) (acc : List UInt8), s1 = .int .u64 (m : Int) ∧ acc ++ Fr.num m = l ++ Fr.num n ∧ m < 2097152 ∧ NewB B w0 acc s0 wr) (fun _ s1 _ => (intOf s1).toNat)
  case atStart => exact ⟨n, l, rfl, rfl, hn, hN⟩
  case round =>
    obtain ⟨m, acc, rfl, hs, hm, hR⟩ := hrel
    have hle := Fr.num_le hn
    have hal : acc.length ≤ 1000000010 := by have := congrArg List.length hs; simp only [List.length_append] at this; omega
    obtain ⟨a, c, rfl, _, _, _, _⟩ := hR.2.1.form
    have HR := Lib.hid hR
    have HAL := Lib.hid hal
    clear hR hN hle hal
    by_cases h : m < 128
    · rw [Fr.num1 h] at hs
      obtain ⟨y, hy⟩ : ∃ y : UInt8, y.toNat = m := ⟨UInt8.ofNat m, Fr.toNat_of (by omega)⟩
      subst hy
      rw [show UInt8.ofNat y.toNat = y from UInt8.toNat_inj.1 (Fr.toNat_of (by omega))] at hs
      have i1 : ¬ (128 : Int) ≤ (y.toNat : Int) := by omega
      have HS := Lib.hid hs
      have HX := Lib.hid (BV.lits wr #[.int .u8 (y.toNat : Int)] [y] 1 rfl (by simp [By]) (by omega))
      clear hs h
      go_wp2_with (at_builtin; refine wpList_append_bytes rfl (.tmp 15) (.tmp 18) rfl (.slice a acc.length c) _ [y] (by rfl) (by rfl) (HR.out.alloc _).2.1 HX.out (by have := HAL.out; simp; omega) ?_; intro a5 c5 w5 hO5 hg5 ho5; have R5 := Lib.hid ((HR.out.alloc _).push hO5 hg5 ho5); clear hO5 hg5 ho5)
      go_ret
      exact ⟨_, rfl, by rw [← HS.out]; exact R5.out⟩
    · have i1 : (128 : Int) ≤ (m : Int) := by omega
      rw [Fr.numS h] at hs
      have HS := Lib.hid hs
      clear hs
      have hb := or128 m
      obtain ⟨y, hy⟩ : ∃ y : UInt8, UInt8.ofNat (m % 128 + 128) = y := ⟨_, rfl⟩
      rw [hy] at hb HS
      have HX := Lib.hid (BV.lits wr #[.int .u8 (y.toNat : Int)] [y] 1 rfl (by simp [By]) (by omega))
      clear hy
      go_wp2_with (at_builtin; refine wpList_append_bytes rfl (.tmp 7) (.tmp 11) rfl (.slice a acc.length c) _ [y] (by rfl) (by rfl) (HR.out.alloc _).2.1 HX.out (by have := HAL.out; simp; omega) ?_; intro a5 c5 w5 hO5 hg5 ho5; have R5 := Lib.hid ((HR.out.alloc _).push hO5 hg5 ho5); clear hO5 hg5 ho5)
      refine ⟨⟨m / 128, acc ++ [y], by go_num, by rw [← HS.out]; simp, by omega, R5.out⟩, by simp [intOf]; omega⟩
set_option maxHeartbeats 1000000 in
theorem appenduint_any (w : World) {F : Nat → Prop} {x : Value} {l : List UInt8} (hx : BV w F x l) (n : Nat) (hn : n < 2097152) (hl : l.length ≤ 100000000) :
    Calls Tryd.prog 45 #[x, .int .u64 (n : Int)] w fun e w' => ∃ sv', e = .returned sv' ∧ NewB w.heap.size w (l ++ Fr.num n) sv' w' := by
  obtain ⟨xa, xc, rfl, xc1, xc2, _⟩ := hx.get
  have N0 := Lib.hid (NewB.made w (l.length + 10) (by omega))
  have HX := Lib.hid (hx.grow ((Below.refl w.heap.size w).alloc (Nat.le_refl _) (.cells (List.replicate (l.length + 10) (.int .u8 0)).toArray 5)))
  clear hx
  go_enter Tryd.func45, Tryd.ntmps45
  go_wp2_with (first | at_make; refine wpList_make_n rfl _ _ _ rfl 5 (.int .u8 0) 1 0 (l.length + 10) Tryd.underlying30 Tryd.infoB rfl rfl rfl (by omega) (by omega) (by unfold maxLen; omega) ?_; generalize w.alloc (.cells (List.replicate (l.length + 10) (.int .u8 0)).toArray 5) = w1 at *; generalize hg0 : w.heap.size = g0 at *; have HG0 := Lib.hid hg0; clear hg0 | at_builtin; refine wpList_append_bytes rfl (.tmp 8) (.tmp 9) rfl (.slice (some ⟨g0, 0, none⟩) 0 (l.length + 10)) _ l (by rfl) (by rfl) N0.out.2.1 HX.out (by simp; omega) ?_; intro a5 c5 w5 hO5 hg5 ho5; rw [List.length_nil, Nat.zero_add, List.nil_append] at hO5; rw [List.length_nil, Nat.zero_add] at ho5 ⊢; have R5 := Lib.hid (N0.out.push (m := l) hO5 hg5 ho5); clear hO5 hg5 ho5)
  refine (extend_any w w5 R5.out n hn (by simp only [List.nil_append]; omega)).mono ?_
  rintro e w6 ⟨sv', rfl, hN6⟩
  rw [List.nil_append, ← HG0.out] at hN6
  have N6 := Lib.hid hN6
  clear hN6
  go_wp2_with fail
  go_ret
  exact ⟨_, rfl, N6.out⟩
end
section
variable {w : World}
set_option maxHeartbeats 1000000 in
theorem fkind_any (w : World) (k : Int) : Calls Tryd.prog 44 #[.int .i64 k] w fun e w' => e = .returned (.bool (decide (0 ≤ k ∧ k ≤ 255))) ∧ w = w' := by
  by_cases h0 : 0 ≤ k
  · by_cases h1 : k ≤ 255
    · go_enter Tryd.func44, Tryd.ntmps44
      go_wp2_with fail
      go_ret
      exact ⟨ret_bool (decide_eq_true ⟨h0, h1⟩).symm, rfl⟩
    · go_enter Tryd.func44, Tryd.ntmps44
      go_wp2_with fail
      go_ret
      exact ⟨ret_bool (decide_eq_false (by omega)).symm, rfl⟩
  · go_enter Tryd.func44, Tryd.ntmps44
    go_wp2_with fail
    go_ret
    exact ⟨ret_bool (by rw [decide_eq_false (show ¬ 0 ≤ k by omega)]; rfl), rfl⟩
set_option maxHeartbeats 1000000 in
theorem fcost_any (w : World) (n : Nat) (hn : n ≤ 1000000) : Calls Tryd.prog 49 #[.int .i64 (n : Int)] w fun e w' => e = .returned (.int .i64 (Fr.cost n : Int)) ∧ w = w' := by
  have hle := Fr.num_le (n := n) (by omega)
  go_enter Tryd.func49, Tryd.ntmps49
  go_wp2_with fail
  refine (uintsize_any w n (by omega)).mono ?_
  rintro e w' ⟨rfl, rfl⟩
  go_wp2_with fail
  go_ret
  exact ⟨ret_int (by unfold Fr.cost; push_cast; rfl), rfl⟩
set_option maxHeartbeats 1000000 in
theorem fCost_any (w : World) (n : Int) : Calls Tryd.prog 28 #[.int .i64 n] w fun e w' => e = .returned (if n < 0 then .tuple #[.int .i64 0, .int .i64 1] else if 65536 < n then .tuple #[.int .i64 0, .int .i64 2] else .tuple #[.int .i64 (Fr.cost n.toNat : Int), .int .i64 0]) ∧ w = w' := by
  by_cases h0 : n < 0
  · rw [if_pos h0]
    go_enter Tryd.func28, Tryd.ntmps28
    go_wp2_with fail
    go_ret2
    exact ⟨rfl, rfl⟩
  rw [if_neg h0]
  by_cases h1 : 65536 < n
  · rw [if_pos h1]
    go_enter Tryd.func28, Tryd.ntmps28
    go_wp2_with fail
    go_ret2
    exact ⟨rfl, rfl⟩
  rw [if_neg h1]
  obtain ⟨m, rfl⟩ := Int.eq_ofNat_of_zero_le (by omega : 0 ≤ n)
  have i1 : (m : Int) ≤ 65536 := by omega
  have i0 : (0 : Int) ≤ (m : Int) := by omega
  clear h0 h1
  go_enter Tryd.func28, Tryd.ntmps28
  go_wp2_with fail
  refine (fcost_any w m (by omega)).mono ?_
  rintro e w' ⟨rfl, rfl⟩
  go_wp2_with fail
  go_ret2
  exact ⟨rfl, rfl⟩
theorem extract8 (l : List UInt8) : (⟨l.toArray⟩ : ByteArray).extract 0 8 = ⟨(l.take 8).toArray⟩ := by
  apply ByteArray.ext
  simp [ByteArray.data_extract]
set_option maxHeartbeats 1000000 in
theorem fchk_any {xv : Value} {x : List UInt8} (hx : BV w (fun k => k < w.heap.size) xv x) (hg : Glob w) (hlen : x.length ≤ 1000000000) :
    Calls Tryd.prog 46 #[xv] w fun e w' => e = .returned (.string ⟨(Fr.chk x).toArray⟩) ∧ Below w.heap.size w w' := by
  go_enter Tryd.func46, Tryd.ntmps46
  go_wp2_with fail
  refine (shaof_any hx hg hlen).mono ?_
  rintro e w' ⟨rfl, hb⟩
  obtain ⟨V, hV⟩ : ∃ V : ByteArray, (⟨(Sha.sum x).toArray⟩ : ByteArray) = V := ⟨_, rfl⟩
  rw [hV]
  have hsz : V.size = 32 := by rw [← hV]; exact Fr.sum_len x
  have HV := Lib.hid hV
  have HB := Lib.hid hb
  clear hV hb hx hg
  go_wp2_with fail
  go_ret
  refine ⟨?_, HB.out⟩
  rw [← HV.out, extract8]
  rfl
theorem NewB.rebase {w w2 w3 : World} {B : Nat} {acc : List UInt8} {sv : Value} (hb : Below B w w2) (hB : B ≤ w2.heap.size) (h : NewB w2.heap.size w2 acc sv w3) : NewB B w acc sv w3 :=
  ⟨hb.trans (h.1.mono hB), h.2.1, Nat.le_trans hB h.2.2.1, fun g e => Nat.le_trans hB (h.2.2.2 g e)⟩
theorem NewB.later {w w3 w4 : World} {B : Nat} {acc : List UInt8} {sv : Value} (h : NewB B w acc sv w3) (hb : Below w3.heap.size w3 w4) : NewB B w acc sv w4 :=
  ⟨h.1.trans (hb.mono h.2.2.1), h.2.1.grow hb, Nat.le_trans h.2.2.1 hb.size, h.2.2.2⟩
theorem NewB.bvs {w w3 : World} {B : Nat} {acc : List UInt8} {sv : Value} (h : NewB B w acc sv w3) : BV w3 (fun k => k < w3.heap.size) sv acc := h.2.1.bv.mono (fun k hk => h.2.1.lt k hk)
/-- What Encode returns. -/
def encErr (k : Int) (body : List UInt8) : Int := if 0 ≤ k ∧ k ≤ 255 then (if body.length ≤ 65536 then 0 else 2) else 1
theorem encErr_ok {k : Int} {body : List UInt8} : encErr k body = 0 ↔ Fr.ok (k, body) := by
  unfold encErr Fr.ok
  simp only
  split <;> rename_i h
  · split <;> rename_i h2
    · exact ⟨fun _ => ⟨h.1, h.2, h2⟩, fun _ => rfl⟩
    · exact ⟨fun e => by simp at e, fun e => absurd e.2.2 h2⟩
  · exact ⟨fun e => by simp at e, fun e => absurd ⟨e.1, e.2.1⟩ h⟩
set_option maxRecDepth 100000 in
set_option maxHeartbeats 4000000 in
theorem fenc_any {F : Nat → Prop} {xv : Value} {k : Int} {body : List UInt8} (hx : BV w F xv body) (hF : ∀ k, F k → k < w.heap.size) (hg : Glob w) :
    Calls Tryd.prog 18 #[.agg #[.int .i64 k, xv]] w fun e w' => ∃ sv, e = .returned (.tuple #[sv, .int .i64 (encErr k body)]) ∧ NewB w.heap.size w (if encErr k body = 0 then Fr.encM (k, body) else []) sv w' := by
  have HG := Lib.hid hg; clear hg
  have HX := Lib.hid (hx.mono hF); clear hx hF
  obtain ⟨xa, xc, rfl, xc1, xc2, _⟩ := HX.out.get
  obtain ⟨w1, hw1⟩ : ∃ w1, w.alloc (.cells #[.int .i64 k, .slice xa body.length xc] 32) = w1 := ⟨_, rfl⟩
  have hbk : Blk w1 w.heap.size [.int .i64 k, .slice xa body.length xc] 32 := by rw [← hw1]; exact Blk.new w _ _
  have c0 : w1.cell? ⟨w.heap.size, 0, none⟩ = some (.int .i64 k) := hbk.cell rfl
  have c1 : w1.cell? ⟨w.heap.size, 1, none⟩ = some (.slice xa body.length xc) := hbk.cell rfl
  have hs1 : w1.heap.size = w.heap.size + 1 := by rw [← hw1]; simp
  have B1 : Hid (Below w.heap.size w w1) := Lib.hid (by rw [← hw1]; exact (Below.refl _ _).alloc (Nat.le_refl _) _)
  have X1 := Lib.hid (HX.out.grow B1.out)
  have HBK := Lib.hid hbk
  have HS1 := Lib.hid hs1
  have N1 := Lib.hid (show NewB w.heap.size w [] (.slice none 0 0) w1 from ⟨B1.out, (NewB.none w1).2.1, by omega, fun g e => by cases e⟩)
  obtain ⟨g, hgg⟩ : ∃ g, w.heap.size = g := ⟨_, rfl⟩
  have HGG := Lib.hid hgg
  rw [hgg] at c0 c1
  clear hbk hs1
  by_cases hk : 0 ≤ k ∧ k ≤ 255
  · have hd : (decide (0 ≤ k) && decide (k ≤ 255)) = true := by rw [decide_eq_true hk.1, decide_eq_true hk.2]; rfl
    obtain ⟨k0, k1⟩ := hk
    by_cases hb : body.length ≤ 65536
    · have he : encErr k body = 0 := encErr_ok.2 ⟨k0, k1, hb⟩
      rw [he, if_pos rfl]
      have ib : (body.length : Int) ≤ 65536 := by omega
      obtain ⟨y, hy⟩ : ∃ y : UInt8, y = Fr.kb k := ⟨_, rfl⟩
      have hyk : (y.toNat : Int) = k := by rw [hy]; exact Fr.kb_toNat k0 k1
      have HEN : Hid (Fr.encM (k, body) = ([y] ++ Fr.num body.length ++ body) ++ Fr.chk ([y] ++ Fr.num body.length ++ body)) := Lib.hid (by rw [hy]; simp [Fr.encM, Fr.enc, Fr.head])
      subst hyk
      clear hy hb he
      go_enter Tryd.func18, Tryd.ntmps18
      go_wp2_with fail
      clear hw1 hgg
      refine (fkind_any w1 (y.toNat : Int)).mono ?_
      rintro e w' ⟨rfl, rfl⟩
      rw [decide_eq_true (show (0 : Int) ≤ (y.toNat : Int) ∧ (y.toNat : Int) ≤ 255 from ⟨k0, k1⟩)]
      rw [HGG.out] at HBK HS1
      have c1b : (w1.alloc (.cells #[.int .u8 (y.toNat : Int)] 5)).cell? ⟨g, 1, none⟩ = some (.slice xa body.length xc) := (HBK.out.alloc _).cell rfl
      have L2 := Lib.hid (BV.lits w1 #[.int .u8 (y.toNat : Int)] [y] 1 rfl (by simp [By]) (by omega))
      have X2 := Lib.hid (X1.out.alloc (.cells #[.int .u8 (y.toNat : Int)] 5))
      have B2 : Hid (Below w.heap.size w (w1.alloc (.cells #[.int .u8 (y.toNat : Int)] 5))) := Lib.hid (B1.out.alloc (by have := HS1.out; have := HGG.out; omega) _)
      have K2 := Lib.hid (HBK.out.alloc (.cells #[.int .u8 (y.toNat : Int)] 5))
      go_wp2_with fail
      generalize w1.alloc (.cells #[.int .u8 (y.toNat : Int)] 5) = w2 at *
      refine (appenduint_any w2 L2.out body.length (by omega) (by simp)).mono ?_
      rintro e w3 ⟨sv, rfl, hN3⟩
      have hs2 : g + 1 ≤ w2.heap.size := K2.out.lt
      have N3 := Lib.hid (hN3.rebase B2.out B2.out.size)
      have K3 := Lib.hid (K2.out.of_same (hN3.1.block g (by omega)))
      have X3 := Lib.hid (X2.out.grow hN3.1)
      have c3 : w3.cell? ⟨g, 1, none⟩ = some (.slice xa body.length xc) := K3.out.cell rfl
      have hl3 : ([y] ++ Fr.num body.length).length ≤ 10 := by have := Fr.num_le (n := body.length) (by omega); simp only [List.length_append, List.length_cons, List.length_nil]; omega
      obtain ⟨h3, hh3⟩ : ∃ h3, [y] ++ Fr.num body.length = h3 := ⟨_, rfl⟩
      rw [hh3] at N3 HEN hl3
      have HL3 := Lib.hid hl3
      obtain ⟨a3, cp3, rfl, _, _, _, _⟩ := N3.out.2.1.form
      clear hN3 L2 X2 B2 K2 c1b hs2 X1 N1 c0 c1 hh3 hl3
      go_wp2_with (at_builtin; refine wpList_append_bytes rfl (.tmp 21) (.tmp 23) rfl (.slice a3 h3.length cp3) _ body (by rfl) (by rfl) N3.out.2.1 X3.out (by have := HL3.out; omega) ?_; intro a5 c5 w5 hO5 hg5 ho5; have N5 := Lib.hid (N3.out.push hO5 hg5 ho5); clear hO5 hg5 ho5)
      have hlen5 : (h3 ++ body).length ≤ 100000 := by have := HL3.out; rw [List.length_append]; omega
      refine (fchk_any N5.out.bvs (HG.out.below N5.out.1 HG.out.lt) (by omega)).mono ?_
      rintro e w6 ⟨rfl, hb6⟩
      have N6 := Lib.hid (N5.out.later hb6)
      obtain ⟨V, hV⟩ : ∃ V : ByteArray, (⟨(Fr.chk (h3 ++ body)).toArray⟩ : ByteArray) = V := ⟨_, rfl⟩
      rw [hV]
      have hVd : V.data.toList = Fr.chk (h3 ++ body) := by rw [← hV]
      have hVs : V.size = 8 := by rw [← hV]; exact Fr.chk_length _
      have HVD := Lib.hid hVd
      have HVS := Lib.hid hVs
      have HL5 := Lib.hid hlen5
      have hsum : h3.length + body.length = (h3 ++ body).length := by rw [List.length_append]
      rw [hsum] at N6 ⊢
      obtain ⟨h5, hh5⟩ : ∃ h5, h3 ++ body = h5 := ⟨_, rfl⟩
      rw [hh5] at N6 HVD HEN HL5 ⊢
      clear hb6 hV hVd hVs hlen5 hsum hh5 N5 N3 X3
      go_wp2_with (at_builtin; refine wpList_append_str rfl (.tmp 25) (.tmp 27) rfl (.slice a5 h5.length c5) V (by rfl) (by rfl) N6.out (by rw [HVS.out]; have := HL5.out; omega) ?_; intro a9 c9 w9 hN9; rw [HVD.out, ← HEN.out] at hN9; have N9 := Lib.hid hN9; clear hN9)
      go_ret2
      exact ⟨_, rfl, N9.out⟩
    · have he : encErr k body = 2 := by unfold encErr; rw [if_pos ⟨k0, k1⟩, if_neg hb]
      rw [he, if_neg (by decide)]
      have ib : (65536 : Int) < (body.length : Int) := by omega
      have hd2 : decide (0 ≤ k ∧ k ≤ 255) = true := decide_eq_true ⟨k0, k1⟩
      have HD2 := Lib.hid hd2
      clear hb he k0 k1 hd hd2
      go_enter Tryd.func18, Tryd.ntmps18
      go_wp2_with fail
      clear hw1 hgg
      refine (fkind_any w1 k).mono ?_
      rintro e w' ⟨rfl, rfl⟩
      rw [HD2.out]
      go_wp2_with fail
      go_ret2
      exact ⟨_, rfl, N1.out⟩
  · have he : encErr k body = 1 := by unfold encErr; rw [if_neg hk]
    rw [he, if_neg (by decide)]
    have hd2 : decide (0 ≤ k ∧ k ≤ 255) = false := decide_eq_false hk
    have HD2 := Lib.hid hd2
    clear he hk hd2
    go_enter Tryd.func18, Tryd.ntmps18
    go_wp2_with fail
    clear hw1 hgg
    refine (fkind_any w1 k).mono ?_
    rintro e w' ⟨rfl, rfl⟩
    rw [HD2.out]
    go_wp2_with fail
    go_ret2
    exact ⟨_, rfl, N1.out⟩
end
end Go.Proofs.YtggiinfeiilogaaDoor
