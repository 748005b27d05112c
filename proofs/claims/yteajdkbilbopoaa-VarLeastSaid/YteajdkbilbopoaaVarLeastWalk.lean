/- The walk of the law VarLeast. -/
import Derived.Test.YteajdkbilbopoaaSizeWalk
namespace Go.Proofs.Yteajdkbilbopoaa
open Go.ChangeShapes Go.WideShapes Go.ChangeAt Go.RowKit
set_option linter.unusedVariables false

set_option maxHeartbeats 4000000 in
theorem varLeast_walk (n m : Int) (w : World) (hn : (Lit.int .i64 n).wf = true) (hm : (Lit.int .i64 m).wf = true) :
    Calls Try.prog 4 #[.int .i64 n, .int .i64 m] w fun e w' => e = .returned (.bool true) ∧ Below w.heap.size w w' := by
  have ra := numI_range n
  have rb := numI_range m
  have ea := sizeE_ok _ ra.1 ra.2
  have eb := sizeE_ok _ rb.1 rb.2
  have em : sizeE (-1) = 6 := by decide
  have hca := sizeI_cases _ ra.1 ra.2
  have hcb := sizeI_cases _ rb.1 rb.2
  rcases Int.le_total (numI n) (numI m) with hab | hab
  all_goals
    rcases hca with ⟨a1, a2⟩ | ⟨a0, a1, a2⟩ | ⟨a0, a1, a2⟩ | ⟨a0, a2⟩ <;> rcases hcb with ⟨b1, b2⟩ | ⟨b0, b1, b2⟩ | ⟨b0, b1, b2⟩ | ⟨b0, b2⟩
  all_goals first
    | omega
    | (go_enter Try.func4, Try.ntmps4
       go_wp2_with (first | (go_at_call 21; go_must (refine (number_any _ _).mono ?_; rintro e w' ⟨rfl, rfl⟩)) | (go_at_call 22; go_must (refine (size_any _ _).mono ?_; rintro e w' ⟨rfl, rfl⟩)))
       all_goals (go_ret; exact ⟨rfl, Below.refl _ _⟩))
end Go.Proofs.Yteajdkbilbopoaa
