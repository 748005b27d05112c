/- The contracts of picked. -/
import Derived.Test.YtihngonemdaihaaRows
import Derived.WalkKit
import Derived.ProofKit
import Derived.OpenShut
import Derived.WalkSpells
import Derived.WalkLawsBesides
import Derived.Outline
import Derived.Test.YtihngonemdaihaaNum
namespace Go.Proofs.Ytihngonemdaihaa
open Go.ChangeShapes Go.WideShapes Go.ChangeAt Go.RowKit
set_option linter.unusedVariables false

theorem picked_any (n m : Int) (h0 : -9223372036854775808 ≤ n) (h1 : n ≤ 9223372036854775807) (hm : 0 < m) (hm1 : m ≤ 9223372036854775807) (w : World) :
    Calls Try.prog 8 #[.int .i64 n, .int .i64 m] w fun e w' => e = .returned (.int .i64 (n % m)) ∧ w = w' := by
  have hlt := Int.tmod_lt_of_pos n hm
  have hgt := Int.lt_tmod_of_pos n hm
  have hz : (m == 0) = false := by simp; omega
  go_enter Try.func8, Try.ntmps8
  go_wp2
  · have h := tmod_neg_add n m hm (by assumption)
    go_ret
    exact ⟨by rw [h]; rfl, rfl⟩
  · have h := tmod_nonneg' n m hm (by assumption)
    go_ret
    exact ⟨by rw [h]; rfl, rfl⟩

/-- picked answers some number below the second one. -/
theorem picked_ex (n m : Int) (h0 : -9223372036854775808 ≤ n) (h1 : n ≤ 9223372036854775807) (hm : 0 < m) (hm1 : m ≤ 9223372036854775807) (w : World) :
    Calls Try.prog 8 #[.int .i64 n, .int .i64 m] w fun e w' => ∃ y, 0 ≤ y ∧ y < m ∧ e = .returned (.int .i64 y) ∧ w = w' :=
  (picked_any n m h0 h1 hm hm1 w).mono fun e w' ⟨he, hw⟩ => ⟨n % m, Int.emod_nonneg n (by omega), Int.emod_lt_of_pos n hm, he, hw⟩
end Go.Proofs.Ytihngonemdaihaa
