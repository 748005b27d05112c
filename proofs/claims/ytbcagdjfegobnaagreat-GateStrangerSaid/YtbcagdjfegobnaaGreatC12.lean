/- Texts of the proof, laid together: TallyWalk. -/
import Derived.Test.YtbcagdjfegobnaaGreatC00
import Derived.Test.YtbcagdjfegobnaaGreatC06
/- The contracts of tally.Check, Got, Send, Know. -/
namespace Go.Proofs.YtbcagdjfegobnaaGreat
open Go.ChangeShapes Go.WideShapes Go.ChangeAt Go.RowKit
set_option linter.unusedVariables false


theorem tallyCheck_f (g s : Int) (h0 : 0 ≤ g) (h1 : g ≤ 1099511627776) (h2 : 0 ≤ s) (h3 : s ≤ 1099511627776) (h4 : s ≤ 3 * g) (w : World) :
    Calls Tryz.prog 48 #[.agg #[.bool false, .int .i64 g, .int .i64 s]] w fun e w' => e = .returned (.int .i64 0) ∧ Below w.heap.size w w' := by
  go_enter Tryz.func48, Tryz.ntmps48
  go_wp2
  go_ret
  exact ⟨rfl, (Below.refl _ _).alloc (Nat.le_refl _) _⟩

theorem tallyCheck_t (g s : Int) (h0 : 0 ≤ g) (h1 : g ≤ 1099511627776) (h2 : 0 ≤ s) (h3 : s ≤ 1099511627776) (w : World) :
    Calls Tryz.prog 48 #[.agg #[.bool true, .int .i64 g, .int .i64 s]] w fun e w' => e = .returned (.int .i64 0) ∧ Below w.heap.size w w' := by
  go_enter Tryz.func48, Tryz.ntmps48
  go_wp2
  go_ret
  exact ⟨rfl, (Below.refl _ _).alloc (Nat.le_refl _) _⟩

theorem tallyGot_f (g s n : Int) (h0 : 0 ≤ g) (h1 : g ≤ 1099511627376) (h2 : 0 ≤ s) (h3 : s ≤ 1099511627376) (h4 : s ≤ 3 * g) (n0 : 0 ≤ n) (n1 : n ≤ 400)  (w : World) :
    Calls Tryz.prog 59 #[.agg #[.bool false, .int .i64 g, .int .i64 s], .int .i64 n] w fun e w' => e = .returned (.tuple #[.agg #[.bool false, .int .i64 (g + n), .int .i64 s], .int .i64 0]) ∧ Below w.heap.size w w' := by
  go_enter Tryz.func59, Tryz.ntmps59
  go_wp2
  all_goals
    refine bodyPost_ret (v := .tuple #[.agg #[.bool false, .int .i64 (g + n), .int .i64 s], .int .i64 0]) ?_ rfl ⟨rfl, ?_⟩
    · simp [results, Tryz.results59, go_sem]
    · repeat (first | exact Below.refl _ _ | refine Below.alloc ?_ (by simp; try omega) _)


theorem tallySend_f (g s n : Int) (h0 : 0 ≤ g) (h1 : g ≤ 1099511627376) (h2 : 0 ≤ s) (h3 : s ≤ 1099511627376) (h4 : s ≤ 3 * g) (n0 : 0 ≤ n) (n1 : n ≤ 400) (h5 : s + n ≤ 3 * g)  (w : World) :
    Calls Tryz.prog 129 #[.agg #[.bool false, .int .i64 g, .int .i64 s], .int .i64 n] w fun e w' => e = .returned (.tuple #[.agg #[.bool false, .int .i64 g, .int .i64 (s + n)], .int .i64 0]) ∧ Below w.heap.size w w' := by
  go_enter Tryz.func129, Tryz.ntmps129
  go_wp2
  all_goals
    refine bodyPost_ret (v := .tuple #[.agg #[.bool false, .int .i64 g, .int .i64 (s + n)], .int .i64 0]) ?_ rfl ⟨rfl, ?_⟩
    · simp [results, Tryz.results129, go_sem]
    · repeat (first | exact Below.refl _ _ | refine Below.alloc ?_ (by simp; try omega) _)


theorem tallySend_t (g s n : Int) (h0 : 0 ≤ g) (h1 : g ≤ 1099511627376) (h2 : 0 ≤ s) (h3 : s ≤ 1099511627376) (n0 : 0 ≤ n) (n1 : n ≤ 400)  (w : World) :
    Calls Tryz.prog 129 #[.agg #[.bool true, .int .i64 g, .int .i64 s], .int .i64 n] w fun e w' => e = .returned (.tuple #[.agg #[.bool true, .int .i64 g, .int .i64 (s + n)], .int .i64 0]) ∧ Below w.heap.size w w' := by
  go_enter Tryz.func129, Tryz.ntmps129
  go_wp2
  all_goals
    refine bodyPost_ret (v := .tuple #[.agg #[.bool true, .int .i64 g, .int .i64 (s + n)], .int .i64 0]) ?_ rfl ⟨rfl, ?_⟩
    · simp [results, Tryz.results129, go_sem]
    · repeat (first | exact Below.refl _ _ | refine Below.alloc ?_ (by simp; try omega) _)

end Go.Proofs.YtbcagdjfegobnaaGreat
