/- The contracts of gate.Session and gate.First. -/
import Derived.Test.YteajdkbilbopoaaMixWalk
import Derived.Test.YteajdkbilbopoaaSession
namespace Go.Proofs.Yteajdkbilbopoaa
open Go.ChangeShapes Go.WideShapes Go.ChangeAt Go.RowKit
set_option linter.unusedVariables false

theorem session_any (a b : Int) (ha0 : 0 ≤ a) (ha1 : a < 18446744073709551616) (hb0 : 0 ≤ b) (hb1 : b < 18446744073709551616) (w : World) :
    Calls Try.prog 23 #[.int .u64 a, .int .u64 b] w fun e w' => e = .returned (.int .u64 (sessI a b)) ∧ w = w' := by
  have hx := xor_range a (mixI b)
  go_enter Try.func23, Try.ntmps23
  go_wp2_with fail
  refine (mix_any _ hb0 hb1 _).mono ?_
  rintro e w' ⟨rfl, rfl⟩
  go_wp2_with fail
  refine (mix_any _ hx.1 hx.2 _).mono ?_
  rintro e w' ⟨rfl, rfl⟩
  go_wp2_with fail
  go_ret
  exact ⟨rfl, rfl⟩

theorem first_any (n : Int) (w : World) :
    Calls Try.prog 25 #[.int .i64 n] w fun e w' => e = .returned (.int .u64 (keyI 1 n)) ∧ w = w' := by
  go_enter Try.func25, Try.ntmps25
  go_wp2_with fail
  refine (key_any 1 n (by decide) (by decide) _).mono ?_
  rintro e w' ⟨rfl, rfl⟩
  go_wp2_with fail
  go_ret
  exact ⟨rfl, rfl⟩

theorem way_true (k : Int) (h0 : 0 ≤ k) (h1 : k < 18446744073709551616) (w : World) :
    Calls Try.prog 24 #[.int .u64 k, .bool true] w fun e w' => e = .returned (.int .u64 (mixI k)) ∧ w = w' := by
  go_enter Try.func24, Try.ntmps24
  go_wp2_with fail
  refine (mix_any _ h0 h1 _).mono ?_
  rintro e w' ⟨rfl, rfl⟩
  go_wp2_with fail
  go_ret
  exact ⟨rfl, rfl⟩

theorem way_false (k : Int) (h0 : 0 ≤ k) (h1 : k < 18446744073709551616) (w : World) :
    Calls Try.prog 24 #[.int .u64 k, .bool false] w fun e w' => e = .returned (.int .u64 (mixI (bits .xor .u64 IntKind.u64.max k))) ∧ w = w' := by
  have hsg : IntKind.u64.signed = false := rfl
  have hx := xor_range IntKind.u64.max k
  go_enter Try.func24, Try.ntmps24
  go_wp2_with fail
  refine (mix_any _ hx.1 hx.2 _).mono ?_
  rintro e w' ⟨rfl, rfl⟩
  go_wp2_with fail
  go_ret
  exact ⟨rfl, rfl⟩
end Go.Proofs.Yteajdkbilbopoaa
