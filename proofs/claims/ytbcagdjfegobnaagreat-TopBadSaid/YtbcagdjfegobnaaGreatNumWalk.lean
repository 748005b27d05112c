/- The contracts of number. -/
import Derived.Test.YtbcagdjfegobnaaGreatPickWalk
namespace Go.Proofs.YtbcagdjfegobnaaGreat
open Go.ChangeShapes Go.WideShapes Go.ChangeAt Go.RowKit
set_option linter.unusedVariables false

theorem number_any (n : Int) (w : World) :
    Calls Tryz.prog 63 #[.int .i64 n] w fun e w' => e = .returned (.int .i64 (numI n)) ∧ w = w' := by
  have h := and_maxvar n
  go_enter Tryz.func63, Tryz.ntmps63
  go_wp2
  go_ret
  exact ⟨rfl, rfl⟩

theorem number_nat (n : Int) (w : World) :
    Calls Tryz.prog 63 #[.int .i64 n] w fun e w' => e = .returned (.int .i64 (numN n : Nat)) ∧ w = w' := by
  rw [← numN_eq]; exact number_any n w

end Go.Proofs.YtbcagdjfegobnaaGreat
