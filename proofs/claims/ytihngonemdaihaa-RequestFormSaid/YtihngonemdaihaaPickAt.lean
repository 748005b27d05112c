/- picked, at a number that is known ahead. -/
import Derived.Test.YtihngonemdaihaaPickWalk
import Derived.RowKit
import Derived.Below
import Derived.Lib.Hide
namespace Go.Proofs.Ytihngonemdaihaa
open Go.ChangeShapes Go.WideShapes Go.ChangeAt Go.RowKit
set_option linter.unusedVariables false
theorem picked_at (n m y : Int) (h0 : -9223372036854775808 ≤ n) (h1 : n ≤ 9223372036854775807) (hm : 0 < m) (hm1 : m ≤ 9223372036854775807) (hy : Hid (n % m = y)) (w : World) :
    Calls Try.prog 8 #[.int .i64 n, .int .i64 m] w fun e w' => e = .returned (.int .i64 y) ∧ w = w' := by
  have := hy.out
  subst this
  exact picked_any n m h0 h1 hm hm1 w
theorem mod_ex (n m : Int) (hm : 0 < m) : ∃ y : Int, Hid (n % m = y) ∧ 0 ≤ y ∧ y < m := ⟨n % m, rfl, Int.emod_nonneg n (by omega), Int.emod_lt_of_pos n hm⟩
end Go.Proofs.Ytihngonemdaihaa
