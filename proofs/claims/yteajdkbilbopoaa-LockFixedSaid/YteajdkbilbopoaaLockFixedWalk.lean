/- The walk of the law LockFixed. -/
import Derived.Test.YteajdkbilbopoaaLockBackWalk
import Derived.Test.YteajdkbilbopoaaToken
import Derived.Deep.RegionWith
import Derived.BigRegion
namespace Go.Proofs.Yteajdkbilbopoaa
open Go.ChangeShapes Go.WideShapes Go.ChangeAt Go.RowKit
set_option linter.unusedVariables false

theorem set_same (l : List UInt8) (j : Nat) : l.set j (l.getD j 0) = l := by
  apply List.ext_getElem
  · simp
  · intro i h1 h2
    simp only [List.getElem_set]
    split
    · rename_i h; subst h; simp [List.getD, h2]
    · rfl
theorem xor_zero_u8 (b : UInt8) : bits .xor .u8 (b.toNat : Int) 0 = (b.toNat : Int) := by
  have := u8_xor_nat b.toNat 0 b.toNat_lt (by decide)
  simpa using this

set_option maxRecDepth 100000 in
set_option maxHeartbeats 20000000 in
theorem lockFixed_walk (key n : Int) (a2 : Option Addr) (len2 cap2 : Nat) (z2 : List Int) (a3 : Option Addr) (len3 cap3 : Nat) (z3 : List Int) (at_ by_ : Int) (w : World) (hk : (Lit.int .i64 key).wf = true) (hn : (Lit.int .i64 n).wf = true)
    (h2 : IsRow .u8 w a2 len2 cap2 z2) (hs2 : cap2 * 1 ≤ 140737488351232) (h3 : IsRow .u8 w a3 len3 cap3 z3) (hs3 : cap3 * 1 ≤ 140737488351232) (hat : (Lit.int .i64 at_).wf = true) (hby : (Lit.int .u8 by_).wf = true) :
    Calls Try.prog 14 #[.int .i64 key, .int .i64 n, .slice a2 len2 cap2, .slice a3 len3 cap3, .int .i64 at_, .int .u8 by_] w fun e w' => e = .returned (.bool true) ∧ Below w.heap.size w w' := by
  obtain ⟨p, hl2, hr2, hc2, hm2⟩ := h2.bytes
  obtain ⟨t, hl3, hr3, hc3, hm3⟩ := h3.bytes
  have HL2 := Lib.hid hl2
  have HL3 := Lib.hid hl3
  have rk := wrap_range key
  have bt := i64_bounds hat
  clear h2 h3 hl2 hl3 hk hn hat hby
  go_enter Try.func14, Try.ntmps14
  go_wp2_with fail
  refine (seal_any _ n rk.1 rk.2 a2 a3 p t len2 _ len3 _ HL2.out HL3.out _ hr2 hr3 (by omega) (by omega) _ rfl).mono ?_
  rintro e w1 ⟨A, c, rfl, hO, hc, hb1⟩
  have hcap := hO.cap
  have HSL := Lib.hid (sealB_length (IntKind.u64.wrap key) n p t)
  have HOP := Lib.hid (open_seal (IntKind.u64.wrap key) n p t)
  have hp1 := hr2.below hb1
  generalize sealB (IntKind.u64.wrap key) n p t = sb at *
  rw [HSL.out, HL3.out] at hcap
  obtain ⟨g, rfl, hg, hgl, hcell, hfro, hset⟩ := hO.opened (by rw [HSL.out]; omega)
  have HC := Lib.hid hcell
  have HF := Lib.hid hfro
  have HS := Lib.hid hset
  clear hcell hfro hset hO hr3
  go_wp2_with fail
  refine (picked_ex _ _ bt.1 bt.2 (by omega) (by omega) _).mono ?_
  rintro e w' ⟨k, k0, k1, rfl, rfl⟩
  obtain ⟨j, rfl⟩ := Int.eq_ofNat_of_zero_le k0
  have hcj := HC.out j (by rw [HSL.out, HL3.out]; omega)
  have hf := HF.out j
  have HSAME := Lib.hid (set_same sb j)
  have HSJ : Hid (∀ b, OwnB (w1.setCell ⟨g, j, none⟩ (.int .u8 (b.toNat : Int))) w.heap.size 5 (some ⟨g, 0, none⟩) c (sb.set j b)) := HS.out j
  have hl' : ∀ b, (sb.set j b).length = len3 + 8 := fun b => by rw [List.length_set, HSL.out, HL3.out]
  have HL' := Lib.hid hl'
  generalize (sb.getD j 0) = b0 at *
  obtain ⟨b, hb⟩ := xor_byte (b0.toNat : Int) by_
  have HZ : Hid (by_ = 0 → sb.set j b = sb) := by
    intro h0
    rw [h0, xor_zero_u8] at hb
    have : b = b0 := by apply UInt8.toNat_inj.1; omega
    rw [this]; exact HSAME.out
  clear HC HF HS hl'
  go_wp2_with fail
  have hO2 := HSJ.out b
  have hl2 := HL'.out b
  have hbb : Below w.heap.size w (w1.setCell ⟨g, j, none⟩ (.int .u8 (b.toNat : Int))) := hb1.setCell hg _
  have hp2 : RdB (w1.setCell ⟨g, j, none⟩ (.int .u8 (b.toNat : Int))) a2 p := hr2.below hbb
  generalize w1.setCell ⟨g, j, none⟩ (.int .u8 (b.toNat : Int)) = w2 at *
  generalize hsb' : sb.set j b = b' at *
  have HB' := Lib.hid hl2
  have hR2 := hO2.rd
  clear HSJ HL' hcj hf hb hl2 hb1 hgl hO2 HSAME hsb' hr2 hp1
  refine (open_any _ n rk.1 rk.2 a2 _ p b' len2 _ (len3 + 8) _ HL2.out HB'.out _ hp2 hR2 (by omega) (by omega) (by omega) hcap.1 hc len3 rfl).mono ?_
  rintro e w3 (⟨ht, A2, c2, rfl, hO3, hc2', hb3⟩ | ⟨hf, rfl, hb3⟩)
  · have HSO := Lib.hid (seal_open (IntKind.u64.wrap key) n p b' (by rw [HB'.out]; omega) ht)
    have HTL : Hid ((openT (IntKind.u64.wrap key) n b').length = len3) := by
      show _ = _; unfold openT; rw [turnB_length, List.length_take, HB'.out]; omega
    have hRt := hO3.rd
    have hp3 := hp2.below hb3
    have hR3 := hR2.below hb3
    have hb13 := hbb.trans (hb3.mono hbb.size)
    clear hO3 ht hb3 hbb hp2 hR2
    generalize openT (IntKind.u64.wrap key) n b' = tx at *
    go_wp2_with fail
    go_region_with (first
      | (go_at_call 38
         refine (lockTells_any _).mono ?_
         rintro e w4 ⟨rfl, hb4⟩
         have hp4 : RdB w4 a2 p := RdB.below (w := w3.drew) hp3 hb4
         have hR4 : RdB w4 (some ⟨g, 0, none⟩) b' := RdB.below (w := w3.drew) hR3 hb4
         have hRt4 : RdB w4 A2 tx := RdB.below (w := w3.drew) hRt hb4
         have hb14 : Below w.heap.size w w4 := hb13.drew.trans (hb4.mono hb13.size)
         have s3 := strN (c := c) hR4 HB'.out)
      | (go_at_call 36
         refine (seal_any _ n rk.1 rk.2 a2 A2 p tx len2 _ len3 _ HL2.out HTL.out _ hp4 hRt4 (by omega) (by omega) _ rfl).mono ?_
         rintro e w5 ⟨A5, c5, rfl, hO5, hc5, hb5⟩
         rw [HSO.out] at hO5
         have s1 := strN (c := c5) hO5.rd HB'.out
         have s2 := strN (c := c) (hR4.below hb5) HB'.out
         have fin := hb14.trans (hb5.mono hb14.size)))
    all_goals
      go_wp2_with fail
      go_ret
      exact ⟨by first | rfl | (simp; rfl) | (simp [Frame.put]; done), fin⟩
  · have hne : by_ ≠ 0 := by
      intro h0
      have := HOP.out.2
      rw [← HZ.out h0, hf] at this
      cases this
    have hneb : (by_ != 0) = true := by simpa using hne
    have hb13 := hbb.trans (hb3.mono hbb.size)
    clear hne
    clear hf hb3 hbb hp2 hR2
    go_wp2_with fail
    refine (lockTells_any _).mono ?_
    rintro e w4 ⟨rfl, hb4⟩
    have hb14 := hb13.trans (hb4.mono hb13.size)
    clear hb4 hb13
    go_wp2_with fail
    go_ret
    exact ⟨rfl, hb14⟩
end Go.Proofs.Yteajdkbilbopoaa
