/- The contract of varint.Size. -/
import Derived.Test.YtihngonemdaihaaPickWalk
import Derived.Test.YtihngonemdaihaaVar
namespace Go.Proofs.Ytihngonemdaihaa
open Go.ChangeShapes Go.WideShapes Go.ChangeAt Go.RowKit
set_option linter.unusedVariables false

theorem size_any (n : Int) (w : World) :
    Calls Try.prog 41 #[.int .i64 n] w fun e w' => e = .returned (.tuple #[.int .i64 (sizeI n), .int .i64 (sizeE n)]) ∧ w = w' := by
  by_cases h : n < 0 ∨ 4611686018427387903 < n
  · have e1 : sizeI n = 0 := if_pos h
    have e2 : sizeE n = 6 := if_pos h
    rw [e1, e2]
    clear e1 e2
    rcases h with h | h
    all_goals
      go_enter Try.func41, Try.ntmps41
      go_wp2
      go_ret2
      exact ⟨rfl, rfl⟩
  · have h0 : 0 ≤ n := by omega
    have h1 : n ≤ 4611686018427387903 := by omega
    rw [sizeE_ok n h0 h1]
    clear h
    rcases sizeI_cases n h0 h1 with ⟨a, e⟩ | ⟨a, b, e⟩ | ⟨a, b, e⟩ | ⟨a, e⟩
    all_goals
      rw [e]; clear e
      go_enter Try.func41, Try.ntmps41
      go_wp2
      go_ret2
      exact ⟨rfl, rfl⟩
end Go.Proofs.Ytihngonemdaihaa
