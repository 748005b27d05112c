/- The walk of the law SessionApart. -/
import Derived.Test.YteajdkbilbopoaaSessionWalk
namespace Go.Proofs.Yteajdkbilbopoaa
open Go.ChangeShapes Go.WideShapes Go.ChangeAt Go.RowKit
set_option linter.unusedVariables false

theorem sessionApart_walk (a b c d : Int) (w : World) (ha : (Lit.int .i64 a).wf = true) (hb : (Lit.int .i64 b).wf = true) (hc : (Lit.int .i64 c).wf = true) (hd : (Lit.int .i64 d).wf = true) :
    Calls Try.prog 5 #[.int .i64 a, .int .i64 b, .int .i64 c, .int .i64 d] w fun e w' => e = .returned (.bool true) ∧ Below w.heap.size w w' := by
  have ba := i64_bounds ha
  have bb := i64_bounds hb
  have bc := i64_bounds hc
  have bd := i64_bounds hd
  have ra := wrap_range a
  have rb := wrap_range b
  have rc := wrap_range c
  have rd := wrap_range d
  have rk := sessI_range (IntKind.u64.wrap a) (IntKind.u64.wrap c)
  have rl := sessI_range (IntKind.u64.wrap b) (IntKind.u64.wrap c)
  have e1 := sessI_left a b (IntKind.u64.wrap c) ba.1 ba.2 bb.1 bb.2
  have e2 := sessI_right (IntKind.u64.wrap a) c d ra.1 ra.2 bc.1 bc.2 bd.1 bd.2
  have e3 := way_apart _ rk.1 rk.2
  have e4 := mixI_sess a b (IntKind.u64.wrap c) ba.1 ba.2 bb.1 bb.2
  have e5 := keyI_beq 1 a b ba.1 ba.2 bb.1 bb.2
  clear ba bb bc bd ha hb hc hd
  go_enter Try.func5, Try.ntmps5
  go_wp2_with (first
    | (go_at_call 23; go_must (refine (session_any _ _ (by omega) (by omega) (by omega) (by omega) _).mono ?_; rintro e w' ⟨rfl, rfl⟩))
    | (go_at_call 25; go_must (refine (first_any _ _).mono ?_; rintro e w' ⟨rfl, rfl⟩))
    | (go_at_call 24; first | (with_reducible refine (way_true _ (by omega) (by omega) _).mono ?_) | (with_reducible refine (way_false _ (by omega) (by omega) _).mono ?_)
       rintro e w' ⟨rfl, rfl⟩))
  go_ret
  exact ⟨rfl, Below.refl _ _⟩
end Go.Proofs.Yteajdkbilbopoaa
