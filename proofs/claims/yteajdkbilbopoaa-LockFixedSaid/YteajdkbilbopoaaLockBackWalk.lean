/- The walk of the law LockBack. -/
import Derived.Test.YteajdkbilbopoaaSealWalk
import Derived.Test.YteajdkbilbopoaaNumWalk
import Derived.Lib.SlBytesConst
namespace Go.Proofs.Yteajdkbilbopoaa
open Go.ChangeShapes Go.WideShapes Go.ChangeAt Go.RowKit
set_option linter.unusedVariables false

set_option maxRecDepth 100000 in
theorem lockTells_any (w : World) :
    Calls Try.prog 38 #[] w fun e w' => e = .returned (.bool true) ∧ Below w.heap.size w w' := by
  have hb0 : Below w.heap.size w (w.alloc (.cells #[.int .u8 97, .int .u8 98, .int .u8 99] 5 (3, 4))) := (Below.refl _ _).alloc (Nat.le_refl _) _
  have hr : RdB (w.alloc (.cells #[.int .u8 97, .int .u8 98, .int .u8 99] 5 (3, 4))) (some ⟨w.heap.size, 0, none⟩) [97, 98, 99] :=
    ⟨rfl, fun _ => ⟨w.heap.size, 0, rfl, fun j u hu => by rw [cell_of_row _ _ _ _ _ (3, 4) (heap_alloc_new w _), Nat.zero_add]; simpa [u8s] using hu⟩⟩
  have hcv := Lib.run_convert_bytes_const (P := Try.prog) w 36 5 #[.int .u8 97, .int .u8 98, .int .u8 99] 3 3 Try.underlying36 Try.underlying5
  go_enter Try.func38, Try.ntmps38
  go_wp2_with fail
  refine (seal_any 1 2 (by decide) (by decide) none _ [] [97, 98, 99] 0 0 3 _ rfl rfl _ Rd.nil hr (by decide) (by decide) 11 rfl).mono ?_
  rintro e w1 ⟨A, c, rfl, hO, hc, hb1⟩
  clear hO
  go_wp2_with fail
  go_ret
  exact ⟨rfl, hb0.trans (hb1.mono (by simp))⟩

set_option maxRecDepth 100000 in
set_option maxHeartbeats 1000000 in
theorem lockBack_walk (key n : Int) (a2 : Option Addr) (len2 cap2 : Nat) (z2 : List Int) (a3 : Option Addr) (len3 cap3 : Nat) (z3 : List Int) (at_ : Int) (w : World) (hk : (Lit.int .i64 key).wf = true) (hn : (Lit.int .i64 n).wf = true)
    (h2 : IsRow .u8 w a2 len2 cap2 z2) (hs2 : cap2 * 1 ≤ 140737488351232) (h3 : IsRow .u8 w a3 len3 cap3 z3) (hs3 : cap3 * 1 ≤ 140737488351232) (hat : (Lit.int .i64 at_).wf = true) :
    Calls Try.prog 13 #[.int .i64 key, .int .i64 n, .slice a2 len2 cap2, .slice a3 len3 cap3, .int .i64 at_] w fun e w' => e = .returned (.bool true) ∧ Below w.heap.size w w' := by
  obtain ⟨p, hl2, hr2, hc2, hm2⟩ := h2.bytes
  obtain ⟨t, hl3, hr3, hc3, hm3⟩ := h3.bytes
  have HL2 := Lib.hid hl2
  have HL3 := Lib.hid hl3
  have rk := wrap_range key
  have bt := i64_bounds hat
  clear h2 h3 hl2 hl3 hk hn hat
  go_enter Try.func13, Try.ntmps13
  go_wp2_with fail
  refine (seal_any _ n rk.1 rk.2 a2 a3 p t len2 _ len3 _ HL2.out HL3.out _ hr2 hr3 (by omega) (by omega) _ rfl).mono ?_
  rintro e w1 ⟨A, c, rfl, hO, hc, hb1⟩
  have hcap := hO.cap
  have HSL := Lib.hid (sealB_length (IntKind.u64.wrap key) n p t)
  have hop := open_seal (IntKind.u64.wrap key) n p t
  have hR := hO.rd
  have hp1 := hr2.below hb1
  have ht1 := hr3.below hb1
  generalize sealB (IntKind.u64.wrap key) n p t = sb at *
  rw [HSL.out, HL3.out] at hcap
  go_wp2_with fail
  refine (open_any _ n rk.1 rk.2 a2 A p sb len2 _ (len3 + 8) _ HL2.out (by rw [HSL.out, HL3.out]) _ hp1 hR (by omega) (by omega) (by omega) hcap.1 hc len3 rfl).mono ?_
  rintro e w2 (⟨_, A2, c2, rfl, hO2, hc2', hb2⟩ | ⟨hf, _⟩)
  · rw [hop.1] at hO2
    have ht2 := ht1.below hb2
    have hRt := hO2.rd
    clear hO hr2 hr3 hop hR hp1 ht1 hO2
    have hb12 := hb1.trans (hb2.mono hb1.size)
    clear hb1 hb2
    go_wp2_with fail
    refine (picked_ex _ _ bt.1 bt.2 (by omega) (by omega) _).mono ?_
    rintro e w' ⟨k, k0, k1, rfl, rfl⟩
    go_wp2_with fail
    refine (open_short _ n a2 A len2 _ k.toNat _ (by omega) _).mono ?_
    rintro e w' ⟨rfl, rfl⟩
    go_wp2_with fail
    refine (lockTells_any _).mono ?_
    rintro e w3 ⟨rfl, hb3⟩
    have s1 := strN (c := c2) (hRt.below hb3) HL3.out
    have s2 := strN (c := cap3) (ht2.below hb3) HL3.out
    have fin := hb12.trans (hb3.mono hb12.size)
    clear hRt ht2 hb12 hb3
    go_wp2_with fail
    go_ret
    exact ⟨rfl, fin⟩
  · rw [hop.2] at hf; cases hf
end Go.Proofs.Yteajdkbilbopoaa
