/- The walk of the law NumberShort. -/
import Derived.Test.YteajdkbilbopoaaCutWalk
namespace Go.Proofs.Yteajdkbilbopoaa
open Go.ChangeShapes Go.WideShapes Go.ChangeAt Go.RowKit
set_option linter.unusedVariables false

set_option maxRecDepth 100000 in
theorem numberShort_walk (n far : Int) (w : World) (hn : (Lit.int .i64 n).wf = true) (hf : (Lit.int .i64 far).wf = true) :
    Calls Try.prog 6 #[.int .i64 n, .int .i64 far] w fun e w' => e = .returned (.bool true) ∧ Below w.heap.size w w' := by
  have bn := i64_bounds hn
  have bf := i64_bounds hf
  have r1 := Int.emod_nonneg n (show (1099511627776 : Int) ≠ 0 by decide)
  have r2 := Int.emod_lt_of_pos n (show (0 : Int) < 1099511627776 by decide)
  have r3 := Int.emod_nonneg far (show (2147483648 : Int) ≠ 0 by decide)
  have r4 := Int.emod_lt_of_pos far (show (0 : Int) < 2147483648 by decide)
  go_enter Try.func6, Try.ntmps6
  go_wp2_with fail
  refine (picked_any _ _ bn.1 bn.2 (by decide) (by decide) _).mono ?_
  rintro e w' ⟨rfl, rfl⟩
  generalize n % 1099511627776 = x at *
  go_wp2_with fail
  refine (picked_any _ _ bf.1 bf.2 (by decide) (by decide) _).mono ?_
  rintro e w' ⟨rfl, rfl⟩
  generalize far % 2147483648 = y at *
  go_wp2_with fail
  have hc := cutK_cases (1 + y).toNat
  have he : (8589934592 + x - (8589934592 + x - (1 + y))).toNat = (1 + y).toNat := by omega
  rcases hc with ⟨e, h⟩ | ⟨e, h, h'⟩ | ⟨e, h, h'⟩ | ⟨e, h⟩
  all_goals
    refine (cut_int _ _ (by omega) (by omega) (by omega) (by omega) (by omega) _ (by rw [he, e]) _).mono ?_
    rintro e w' ⟨A, c, rfl, hO, hb⟩
    clear he e
    have h1 : 1 + y = ((1 + y).toNat : Int) := by omega
    have h2 : 1 ≤ y + 1 := by omega
    have h1a := Int.le_of_eq h1
    have h1b := Int.le_of_eq h1.symm
    generalize (1 + y).toNat = z at *
    clear h1
    go_wp2_with fail
    go_ret
    exact ⟨by first | rfl | (simp; omega), hb⟩
end Go.Proofs.Yteajdkbilbopoaa
