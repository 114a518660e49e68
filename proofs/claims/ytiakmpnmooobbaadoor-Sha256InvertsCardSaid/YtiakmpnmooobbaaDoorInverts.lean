/- The walk of Sha256Inverts. -/
import Derived.Test.YtiakmpnmooobbaaDoorShaG
namespace Go.Proofs.YtiakmpnmooobbaaDoor
open Go.RowKit
set_option maxRecDepth 100000 in
set_option maxHeartbeats 2000000 in
theorem sha256Inverts_walk (w : World) (hg : Glob w) (s : ByteArray) (_ : s.size ≤ maxLen) :
    Calls Tryd.prog 7 #[.string s] w fun e w' => e = .returned (.bool true) ∧ Below w.heap.size w w' := by
  have HG := Lib.hid hg; clear hg
  by_cases hlen : 300 < s.size
  · have il : (300 : Int) < (s.size : Int) := by omega
    go_enter Tryd.func7, Tryd.ntmps7
    go_wp2_with fail
    refine (awake_any w HG.out).mono ?_
    rintro e w1 ⟨rfl, hb1⟩
    have B1 := Lib.hid hb1; clear hb1
    go_wp2_with fail
    refine (awake_any w1 (HG.out.below B1.out HG.out.lt)).mono ?_
    rintro e w2 ⟨rfl, hb2⟩
    go_wp2_with fail
    go_ret
    exact ⟨rfl, B1.out.trans (hb2.mono B1.out.size)⟩
  have il : (s.size : Int) ≤ 300 := by omega
  obtain ⟨l, hl⟩ : ∃ l, s.data.toList = l := ⟨_, rfl⟩
  have Hl := Lib.hid hl
  have hll : l.length = s.size := by rw [← hl]; rfl
  have Hll := Lib.hid hll
  clear hl hll
  go_enter Tryd.func7, Tryd.ntmps7
  go_wp2_with fail
  refine (awake_any w HG.out).mono ?_
  rintro e w1 ⟨rfl, hb1⟩
  have B1 := Lib.hid hb1; clear hb1
  go_wp2_with fail
  refine (fromhex_any w1 s (by omega)).mono ?_
  rintro e w2 ⟨rfl, hb2⟩
  rw [Hl.out]
  have B2 := Lib.hid (B1.out.trans (hb2.mono B1.out.size))
  clear hb2 B1
  by_cases hok : Sha.hexOk l = true
  · rw [show FromHexV l = .tuple #[.string ⟨(Sha.unhex l).toArray⟩, .int .i64 0] from by unfold FromHexV; rw [if_pos hok]]
    have Hok := Lib.hid hok; clear hok
    have hul : (Sha.unhex l).length ≤ 300 := by unfold Sha.unhex; rw [Sha.vals_length]; have := Hll.out; omega
    obtain ⟨u, hu⟩ : ∃ u : ByteArray, (⟨(Sha.unhex l).toArray⟩ : ByteArray) = u := ⟨_, rfl⟩
    have hud : u.data.toList = Sha.unhex l := by rw [← hu]
    have hus : u.size ≤ 300 := by show u.data.size ≤ 300; rw [← Array.length_toList, hud]; exact hul
    rw [hu]
    have Hud := Lib.hid hud
    have Hus := Lib.hid hus
    clear hu hud hus hul
    go_wp2_with fail
    refine (hex_any w2 u (by have := Hus.out; omega)).mono ?_
    rintro e w3 ⟨rfl, hb3⟩
    rw [Hud.out, str_back s (by rw [Sha.hex_unhex l Hok.out, Hl.out])]
    have B3 := Lib.hid (B2.out.trans (hb3.mono B2.out.size))
    clear hb3 B2
    obtain ⟨c, w4, hconv, hb4, hbv, hsz⟩ := conv_bytes w3 s (by omega)
    have B4 := Lib.hid (B3.out.trans (hb4.mono B3.out.size))
    have BV4 := Lib.hid (hbv.mono (G := fun k => k < w4.heap.size) (fun k hk => by subst hk; omega))
    rw [Hl.out] at BV4
    clear hb4 hbv hsz B3
    go_wp2_with fail
    refine (shaof_any BV4.out (HG.out.below B4.out HG.out.lt) (by have := Hll.out; omega)).mono ?_
    rintro e w5 ⟨rfl, hb5⟩
    obtain ⟨v, hv⟩ : ∃ v : ByteArray, (⟨(Sha.sum l).toArray⟩ : ByteArray) = v := ⟨_, rfl⟩
    have hvs : (v.size : Int) = 32 := by rw [← hv]; rfl
    rw [hv]
    have B5 := Lib.hid (B4.out.trans (hb5.mono B4.out.size))
    clear hb5 B4 BV4 hconv hv
    have SV5 := Lib.hid (StringsV.one w5 s)
    have B6 := Lib.hid (B5.out.alloc B5.out.size (.cells #[.string s] 9))
    go_wp2_with fail
    generalize w5.alloc (.cells #[.string s] 9) = w6 at *
    refine (shajoin_any SV5.out (HG.out.below B6.out HG.out.lt) (by show (Cat [s]).length ≤ _; unfold Cat; simp only [List.flatMap_cons, List.flatMap_nil, List.append_nil]; rw [Hl.out]; have := Hll.out; omega)).mono ?_
    rintro e w7 ⟨rfl, hb7⟩
    obtain ⟨v2, hv2⟩ : ∃ v : ByteArray, (⟨(Sha.sum (Cat [s])).toArray⟩ : ByteArray) = v := ⟨_, rfl⟩
    have hvd : v2.data.toList.length = 32 := by rw [← hv2]; rfl
    rw [hv2]
    have Hvd := Lib.hid hvd
    have B7 := Lib.hid (B6.out.trans (hb7.mono B6.out.size))
    clear hb7 B6 B5 SV5 hv2 hvd
    go_wp2_with fail
    refine (hex_any w7 v2 (by show v2.data.toList.length ≤ _; rw [Hvd.out]; omega)).mono ?_
    rintro e w8 ⟨rfl, hb8⟩
    obtain ⟨v3, hv3⟩ : ∃ v : ByteArray, (⟨(Sha.hex v2.data.toList).toArray⟩ : ByteArray) = v := ⟨_, rfl⟩
    have hv3s : (v3.size : Int) = 64 := by
      rw [← hv3]
      show (((Sha.hex v2.data.toList).length : Nat) : Int) = 64
      rw [hex_length, Hvd.out]; rfl
    rw [hv3]
    have B8 := Lib.hid (B7.out.trans (hb8.mono B7.out.size))
    clear hb8 B7 hv3
    go_wp2_with fail
    go_ret
    exact ⟨rfl, B8.out⟩
  · have hok' : Sha.hexOk l = false := by simpa using hok
    rw [show FromHexV l = .tuple #[.string ⟨#[]⟩, .int .i64 3] from by unfold FromHexV; rw [hok']; rfl]
    clear hok hok'
    have B3 := B2
    clear B2
    obtain ⟨c, w4, hconv, hb4, hbv, hsz⟩ := conv_bytes w2 s (by omega)
    have B4 := Lib.hid (B3.out.trans (hb4.mono B3.out.size))
    have BV4 := Lib.hid (hbv.mono (G := fun k => k < w4.heap.size) (fun k hk => by subst hk; omega))
    rw [Hl.out] at BV4
    clear hb4 hbv hsz B3
    go_wp2_with fail
    refine (shaof_any BV4.out (HG.out.below B4.out HG.out.lt) (by have := Hll.out; omega)).mono ?_
    rintro e w5 ⟨rfl, hb5⟩
    obtain ⟨v, hv⟩ : ∃ v : ByteArray, (⟨(Sha.sum l).toArray⟩ : ByteArray) = v := ⟨_, rfl⟩
    have hvs : (v.size : Int) = 32 := by rw [← hv]; rfl
    rw [hv]
    have B5 := Lib.hid (B4.out.trans (hb5.mono B4.out.size))
    clear hb5 B4 BV4 hconv hv
    have SV5 := Lib.hid (StringsV.one w5 s)
    have B6 := Lib.hid (B5.out.alloc B5.out.size (.cells #[.string s] 9))
    go_wp2_with fail
    generalize w5.alloc (.cells #[.string s] 9) = w6 at *
    refine (shajoin_any SV5.out (HG.out.below B6.out HG.out.lt) (by show (Cat [s]).length ≤ _; unfold Cat; simp only [List.flatMap_cons, List.flatMap_nil, List.append_nil]; rw [Hl.out]; have := Hll.out; omega)).mono ?_
    rintro e w7 ⟨rfl, hb7⟩
    obtain ⟨v2, hv2⟩ : ∃ v : ByteArray, (⟨(Sha.sum (Cat [s])).toArray⟩ : ByteArray) = v := ⟨_, rfl⟩
    have hvd : v2.data.toList.length = 32 := by rw [← hv2]; rfl
    rw [hv2]
    have Hvd := Lib.hid hvd
    have B7 := Lib.hid (B6.out.trans (hb7.mono B6.out.size))
    clear hb7 B6 B5 SV5 hv2 hvd
    go_wp2_with fail
    refine (hex_any w7 v2 (by show v2.data.toList.length ≤ _; rw [Hvd.out]; omega)).mono ?_
    rintro e w8 ⟨rfl, hb8⟩
    obtain ⟨v3, hv3⟩ : ∃ v : ByteArray, (⟨(Sha.hex v2.data.toList).toArray⟩ : ByteArray) = v := ⟨_, rfl⟩
    have hv3s : (v3.size : Int) = 64 := by
      rw [← hv3]
      show (((Sha.hex v2.data.toList).length : Nat) : Int) = 64
      rw [hex_length, Hvd.out]; rfl
    rw [hv3]
    have B8 := Lib.hid (B7.out.trans (hb8.mono B7.out.size))
    clear hb8 B7 hv3
    go_wp2_with fail
    go_ret
    exact ⟨rfl, B8.out⟩
end Go.Proofs.YtiakmpnmooobbaaDoor
