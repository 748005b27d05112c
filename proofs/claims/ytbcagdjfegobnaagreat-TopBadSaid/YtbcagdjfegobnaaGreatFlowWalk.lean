/- The contracts of flow.Check, Spend, Grant. -/
import Derived.Test.YtbcagdjfegobnaaGreatNumWalk
import Derived.Test.YtbcagdjfegobnaaGreatMem
namespace Go.Proofs.YtbcagdjfegobnaaGreat
open Go.ChangeShapes Go.WideShapes Go.ChangeAt Go.RowKit
set_option linter.unusedVariables false

theorem flowCheck_ok (m u : Int) (h0 : 0 ≤ u) (h1 : u ≤ m) (h2 : m ≤ 4611686018427387903) (w : World) :
    Calls Tryz.prog 81 #[.agg #[.int .i64 m, .int .i64 u]] w fun e w' => e = .returned (.int .i64 0) ∧ Below w.heap.size w w' := by
  go_enter Tryz.func81, Tryz.ntmps81
  go_wp2
  go_ret
  exact ⟨rfl, (Below.refl _ _).alloc (Nat.le_refl _) _⟩

theorem flowCheck_bad (m u : Int) (h1 : m < u) (w : World) :
    Calls Tryz.prog 81 #[.agg #[.int .i64 m, .int .i64 u]] w fun e w' => e = .returned (.int .i64 9) ∧ Below w.heap.size w w' := by
  go_enter Tryz.func81, Tryz.ntmps81
  go_wp2
  all_goals go_ret
  all_goals exact ⟨rfl, (Below.refl _ _).alloc (Nat.le_refl _) _⟩

theorem spend_ok (m u n : Int) (h0 : 0 ≤ u) (h1 : u ≤ m) (h2 : m ≤ 4611686018427387903) (hn : 0 ≤ n) (hn1 : n ≤ m - u) (w : World) :
    Calls Tryz.prog 165 #[.agg #[.int .i64 m, .int .i64 u], .int .i64 n] w fun e w' => e = .returned (.tuple #[.agg #[.int .i64 m, .int .i64 (u + n)], .int .i64 0]) ∧ Below w.heap.size w w' := by
  go_enter Tryz.func165, Tryz.ntmps165
  go_wp2
  exact bodyPost_ret (v := .tuple #[.agg #[.int .i64 m, .int .i64 (u + n)], .int .i64 0]) (by simp [results, Tryz.results165, go_sem]) rfl
    ⟨rfl, by repeat (first | exact Below.refl _ _ | refine Below.alloc ?_ (by simp; try omega) _)⟩

theorem spend_more (m u n : Int) (h0 : 0 ≤ u) (h1 : u ≤ m) (h2 : m ≤ 4611686018427387903) (hn : 0 ≤ n) (hn1 : m - u < n) (w : World) :
    Calls Tryz.prog 165 #[.agg #[.int .i64 m, .int .i64 u], .int .i64 n] w fun e w' => e = .returned (.tuple #[.agg #[.int .i64 0, .int .i64 0], .int .i64 11]) ∧ Below w.heap.size w w' := by
  go_enter Tryz.func165, Tryz.ntmps165
  go_wp2
  exact bodyPost_ret (v := .tuple #[.agg #[.int .i64 0, .int .i64 0], .int .i64 11]) (by simp [results, Tryz.results165, go_sem]) rfl
    ⟨rfl, by repeat (first | exact Below.refl _ _ | refine Below.alloc ?_ (by simp; try omega) _)⟩

theorem grant_ok (m u n M : Int) (h0 : 0 ≤ u) (h1 : u ≤ m) (h2 : m ≤ 4611686018427387903) (hn : 0 ≤ n) (hn1 : n ≤ 4611686018427387903) (hM : max m n = M) (w : World) :
    Calls Tryz.prog 150 #[.agg #[.int .i64 m, .int .i64 u], .int .i64 n] w fun e w' => e = .returned (.tuple #[.agg #[.int .i64 M, .int .i64 u], .int .i64 0]) ∧ Below w.heap.size w w' := by
  subst hM
  rcases Int.lt_or_le m n with h | h
  · rw [Int.max_eq_right (by omega)]
    go_enter Tryz.func150, Tryz.ntmps150
    go_wp2
    all_goals
      refine bodyPost_ret (v := .tuple #[.agg #[.int .i64 n, .int .i64 u], .int .i64 0]) ?_ rfl ⟨rfl, ?_⟩
      · simp [results, Tryz.results150, go_sem]
      · repeat (first | exact Below.refl _ _ | refine Below.alloc ?_ (by simp; try omega) _)
  · rw [Int.max_eq_left (by omega)]
    go_enter Tryz.func150, Tryz.ntmps150
    go_wp2
    all_goals
      refine bodyPost_ret (v := .tuple #[.agg #[.int .i64 m, .int .i64 u], .int .i64 0]) ?_ rfl ⟨rfl, ?_⟩
      · simp [results, Tryz.results150, go_sem]
      · repeat (first | exact Below.refl _ _ | refine Below.alloc ?_ (by simp; try omega) _)
end Go.Proofs.YtbcagdjfegobnaaGreat
