/- The walk of the law MixApart. -/
import Derived.Test.YteajdkbilbopoaaMixWalk
namespace Go.Proofs.Yteajdkbilbopoaa
open Go.ChangeShapes Go.WideShapes Go.ChangeAt Go.RowKit
set_option linter.unusedVariables false

theorem i64_bounds {a : Int} (h : (Lit.int .i64 a).wf = true) : -9223372036854775808 ≤ a ∧ a ≤ 9223372036854775807 := by
  simpa [Lit.wf, IntKind.min, IntKind.max, IntKind.signed, IntKind.bits] using h

theorem mixApart_walk (a b s : Int) (w : World) (ha : (Lit.int .i64 a).wf = true) (hb : (Lit.int .i64 b).wf = true) (hs : (Lit.int .i64 s).wf = true) :
    Calls Try.prog 3 #[.int .i64 a, .int .i64 b, .int .i64 s] w fun e w' => e = .returned (.bool true) ∧ Below w.heap.size w w' := by
  have ba := i64_bounds ha
  have bb := i64_bounds hb
  have e1 := mixI_beq a b ba.1 ba.2 bb.1 bb.2
  have e2 := keyI_beq (IntKind.u64.wrap s) a b ba.1 ba.2 bb.1 bb.2
  have ra := wrap_range a
  have rb := wrap_range b
  have rs := wrap_range s
  have e3 := mixI_zero
  go_enter Try.func3, Try.ntmps3
  go_wp2_with (first | (go_at_call 19; go_must (refine (mix_any _ (by omega) (by omega) _).mono ?_; rintro e w' ⟨rfl, rfl⟩)) | (go_at_call 20; go_must (refine (key_any _ _ (by omega) (by omega) _).mono ?_; rintro e w' ⟨rfl, rfl⟩)))
  go_ret
  exact ⟨rfl, Below.refl _ _⟩
end Go.Proofs.Yteajdkbilbopoaa
