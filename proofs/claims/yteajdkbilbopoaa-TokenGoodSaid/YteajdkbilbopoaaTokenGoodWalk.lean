/- The walk of the law TokenGood. -/
import Derived.Test.YteajdkbilbopoaaCheckWalk
namespace Go.Proofs.Yteajdkbilbopoaa
open Go.ChangeShapes Go.WideShapes Go.ChangeAt Go.RowKit
set_option linter.unusedVariables false

set_option maxRecDepth 100000 in
theorem tokenGood_walk (s a now_ later : Int) (w : World) (hs : (Lit.int .i64 s).wf = true) (ha : (Lit.int .i64 a).wf = true) (hn : (Lit.int .i64 now_).wf = true) (hl : (Lit.int .i64 later).wf = true) :
    Calls Try.prog 15 #[.int .i64 s, .int .i64 a, .int .i64 now_, .int .i64 later] w fun e w' => e = .returned (.bool true) ∧ Below w.heap.size w w' := by
  have bs := wrap_range s
  have ba := i64_bounds ha
  have bn := i64_bounds hn
  have bl := i64_bounds hl
  clear hs ha hn hl
  go_enter Try.func15, Try.ntmps15
  go_wp2_with fail
  refine (picked_ex _ _ bn.1 bn.2 (by decide) (by decide) _).mono ?_
  rintro e w' ⟨t, t0, t1, rfl, rfl⟩
  go_wp2_with fail
  refine (picked_ex _ _ bl.1 bl.2 (by decide) (by decide) _).mono ?_
  rintro e w' ⟨d, d0, d1, rfl, rfl⟩
  go_wp2_with fail
  refine (make_any _ _ _ bs.1 bs.2 t0 (by omega) _).mono ?_
  rintro e w1 ⟨A1, c1, rfl, hO1, hc1, hb1⟩
  have hR1 := hO1.rd
  have hcap := hO1.cap
  rw [tokB_length] at hcap
  have HK := Lib.hid (chk_tok (IntKind.u64.wrap s) a t d t0 (by omega) d0)
  go_wp2_with fail
  refine (check_any _ _ _ bs.1 bs.2 (by omega) (by omega) _ _ _ (tokB_length _ _ _) _ hR1 hcap.1 hc1).mono ?_
  rintro e w2 ⟨rfl, hb2⟩
  go_wp2_with fail
  refine (check_form _ _ _ (by omega) (by omega) _ _ _ (by decide) _).mono ?_
  rintro e w' ⟨rfl, rfl⟩
  go_wp2_with fail
  refine (make_bad _ _ _ (by decide) _).mono ?_
  rintro e w' ⟨rfl, rfl⟩
  have fin := hb1.trans (hb2.mono hb1.size)
  clear hO1 hR1 hb1 hb2
  by_cases hd : d ≤ 50
  · have hk := HK.out
    rw [if_pos hd] at hk
    go_wp2_with fail
    all_goals (go_ret; exact ⟨rfl, fin⟩)
  · have hk := HK.out
    rw [if_neg hd] at hk
    go_wp2_with fail
    all_goals (go_ret; exact ⟨rfl, fin⟩)
end Go.Proofs.Yteajdkbilbopoaa
