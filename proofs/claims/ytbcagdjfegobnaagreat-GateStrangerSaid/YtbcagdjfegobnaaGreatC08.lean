/- Texts of the proof, laid together: NumWalk FlowWalk. -/
import Derived.Test.YtbcagdjfegobnaaGreatC00
/- The contracts of number. -/
namespace Go.Proofs.YtbcagdjfegobnaaGreat
open Go.ChangeShapes Go.WideShapes Go.ChangeAt Go.RowKit
set_option linter.unusedVariables false

theorem number_any (n : Int) (w : World) :
    Calls Tryz.prog 63 #[.int .i64 n] w fun e w' => e = .returned (.int .i64 (numI n)) ∧ w = w' := by
  have h := and_maxvar n
  go_enter Tryz.func63, Tryz.ntmps63
  go_wp2
  go_ret
  exact ⟨rfl, rfl⟩

theorem number_nat (n : Int) (w : World) :
    Calls Tryz.prog 63 #[.int .i64 n] w fun e w' => e = .returned (.int .i64 (numN n : Nat)) ∧ w = w' := by
  rw [← numN_eq]; exact number_any n w

end Go.Proofs.YtbcagdjfegobnaaGreat
/- The contracts of flow.Check, Spend, Grant. -/
namespace Go.Proofs.YtbcagdjfegobnaaGreat
open Go.ChangeShapes Go.WideShapes Go.ChangeAt Go.RowKit
set_option linter.unusedVariables false

theorem flowCheck_ok (m u : Int) (h0 : 0 ≤ u) (h1 : u ≤ m) (h2 : m ≤ 4611686018427387903) (w : World) :
    Calls Tryz.prog 81 #[.agg #[.int .i64 m, .int .i64 u]] w fun e w' => e = .returned (.int .i64 0) ∧ Below w.heap.size w w' := by
  go_enter Tryz.func81, Tryz.ntmps81
  go_wp2
  go_ret
  exact ⟨rfl, (Below.refl _ _).alloc (Nat.le_refl _) _⟩




end Go.Proofs.YtbcagdjfegobnaaGreat
