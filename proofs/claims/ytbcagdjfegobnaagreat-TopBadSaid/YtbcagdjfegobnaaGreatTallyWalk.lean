/- The contracts of tally.Check, Got, Send, Know. -/
import Derived.Test.YtbcagdjfegobnaaGreatPickWalk
import Derived.Test.YtbcagdjfegobnaaGreatRawOpen
namespace Go.Proofs.YtbcagdjfegobnaaGreat
open Go.ChangeShapes Go.WideShapes Go.ChangeAt Go.RowKit
set_option linter.unusedVariables false

/-- A block of three cells. -/
theorem Blk.three {w : World} {g : Nat} {t : TypeId} {x y z : Value} (h : Blk w g t #[x, y, z]) : w.cell? ⟨g, 0, none⟩ = some x ∧ w.cell? ⟨g, 1, none⟩ = some y ∧ w.cell? ⟨g, 2, none⟩ = some z ∧ w.frozen? ⟨g, 0, none⟩ = false ∧ w.frozen? ⟨g, 1, none⟩ = false ∧ w.frozen? ⟨g, 2, none⟩ = false :=
  ⟨by rw [h.cell]; rfl, by rw [h.cell]; rfl, by rw [h.cell]; rfl, h.frozen 0, h.frozen 1, h.frozen 2⟩
theorem Blk.set3 {w : World} {g : Nat} {t : TypeId} {x y z : Value} (h : Blk w g t #[x, y, z]) (u v s : Value) : Blk (((w.setCell ⟨g, 0, none⟩ u).setCell ⟨g, 1, none⟩ v).setCell ⟨g, 2, none⟩ s) g t #[u, v, s] := ((h.set_ 0 u).set_ 1 v).set_ 2 s

theorem tallyCheck_f (g s : Int) (h0 : 0 ≤ g) (h1 : g ≤ 1099511627776) (h2 : 0 ≤ s) (h3 : s ≤ 1099511627776) (h4 : s ≤ 3 * g) (w : World) :
    Calls Tryz.prog 48 #[.agg #[.bool false, .int .i64 g, .int .i64 s]] w fun e w' => e = .returned (.int .i64 0) ∧ Below w.heap.size w w' := by
  go_enter Tryz.func48, Tryz.ntmps48
  go_wp2
  go_ret
  exact ⟨rfl, (Below.refl _ _).alloc (Nat.le_refl _) _⟩

theorem tallyCheck_t (g s : Int) (h0 : 0 ≤ g) (h1 : g ≤ 1099511627776) (h2 : 0 ≤ s) (h3 : s ≤ 1099511627776) (w : World) :
    Calls Tryz.prog 48 #[.agg #[.bool true, .int .i64 g, .int .i64 s]] w fun e w' => e = .returned (.int .i64 0) ∧ Below w.heap.size w w' := by
  go_enter Tryz.func48, Tryz.ntmps48
  go_wp2
  go_ret
  exact ⟨rfl, (Below.refl _ _).alloc (Nat.le_refl _) _⟩

theorem tallyGot_f (g s n : Int) (h0 : 0 ≤ g) (h1 : g ≤ 1099511627376) (h2 : 0 ≤ s) (h3 : s ≤ 1099511627376) (h4 : s ≤ 3 * g) (n0 : 0 ≤ n) (n1 : n ≤ 400)  (w : World) :
    Calls Tryz.prog 59 #[.agg #[.bool false, .int .i64 g, .int .i64 s], .int .i64 n] w fun e w' => e = .returned (.tuple #[.agg #[.bool false, .int .i64 (g + n), .int .i64 s], .int .i64 0]) ∧ Below w.heap.size w w' := by
  go_enter Tryz.func59, Tryz.ntmps59
  go_wp2
  all_goals
    refine bodyPost_ret (v := .tuple #[.agg #[.bool false, .int .i64 (g + n), .int .i64 s], .int .i64 0]) ?_ rfl ⟨rfl, ?_⟩
    · simp [results, Tryz.results59, go_sem]
    · repeat (first | exact Below.refl _ _ | refine Below.alloc ?_ (by simp; try omega) _)

theorem tallyGot_bad (g s n : Int) (h0 : 0 ≤ g) (h1 : g ≤ 1099511627376) (h2 : 0 ≤ s) (h3 : s ≤ 1099511627376) (h4 : s ≤ 3 * g) (n0 : n < 0)  (w : World) :
    Calls Tryz.prog 59 #[.agg #[.bool false, .int .i64 g, .int .i64 s], .int .i64 n] w fun e w' => e = .returned (.tuple #[.agg #[.bool false, .int .i64 0, .int .i64 0], .int .i64 6]) ∧ Below w.heap.size w w' := by
  go_enter Tryz.func59, Tryz.ntmps59
  go_wp2
  all_goals
    refine bodyPost_ret (v := .tuple #[.agg #[.bool false, .int .i64 0, .int .i64 0], .int .i64 6]) ?_ rfl ⟨rfl, ?_⟩
    · simp [results, Tryz.results59, go_sem]
    · repeat (first | exact Below.refl _ _ | refine Below.alloc ?_ (by simp; try omega) _)

theorem tallySend_f (g s n : Int) (h0 : 0 ≤ g) (h1 : g ≤ 1099511627376) (h2 : 0 ≤ s) (h3 : s ≤ 1099511627376) (h4 : s ≤ 3 * g) (n0 : 0 ≤ n) (n1 : n ≤ 400) (h5 : s + n ≤ 3 * g)  (w : World) :
    Calls Tryz.prog 129 #[.agg #[.bool false, .int .i64 g, .int .i64 s], .int .i64 n] w fun e w' => e = .returned (.tuple #[.agg #[.bool false, .int .i64 g, .int .i64 (s + n)], .int .i64 0]) ∧ Below w.heap.size w w' := by
  go_enter Tryz.func129, Tryz.ntmps129
  go_wp2
  all_goals
    refine bodyPost_ret (v := .tuple #[.agg #[.bool false, .int .i64 g, .int .i64 (s + n)], .int .i64 0]) ?_ rfl ⟨rfl, ?_⟩
    · simp [results, Tryz.results129, go_sem]
    · repeat (first | exact Below.refl _ _ | refine Below.alloc ?_ (by simp; try omega) _)

theorem tallySend_amp (g s n : Int) (h0 : 0 ≤ g) (h1 : g ≤ 1099511627376) (h2 : 0 ≤ s) (h3 : s ≤ 1099511627376) (h4 : s ≤ 3 * g) (n0 : 0 ≤ n) (n1 : n ≤ 400) (h5 : 3 * g < s + n)  (w : World) :
    Calls Tryz.prog 129 #[.agg #[.bool false, .int .i64 g, .int .i64 s], .int .i64 n] w fun e w' => e = .returned (.tuple #[.agg #[.bool false, .int .i64 0, .int .i64 0], .int .i64 15]) ∧ Below w.heap.size w w' := by
  go_enter Tryz.func129, Tryz.ntmps129
  go_wp2
  all_goals
    refine bodyPost_ret (v := .tuple #[.agg #[.bool false, .int .i64 0, .int .i64 0], .int .i64 15]) ?_ rfl ⟨rfl, ?_⟩
    · simp [results, Tryz.results129, go_sem]
    · repeat (first | exact Below.refl _ _ | refine Below.alloc ?_ (by simp; try omega) _)

theorem tallySend_t (g s n : Int) (h0 : 0 ≤ g) (h1 : g ≤ 1099511627376) (h2 : 0 ≤ s) (h3 : s ≤ 1099511627376) (n0 : 0 ≤ n) (n1 : n ≤ 400)  (w : World) :
    Calls Tryz.prog 129 #[.agg #[.bool true, .int .i64 g, .int .i64 s], .int .i64 n] w fun e w' => e = .returned (.tuple #[.agg #[.bool true, .int .i64 g, .int .i64 (s + n)], .int .i64 0]) ∧ Below w.heap.size w w' := by
  go_enter Tryz.func129, Tryz.ntmps129
  go_wp2
  all_goals
    refine bodyPost_ret (v := .tuple #[.agg #[.bool true, .int .i64 g, .int .i64 (s + n)], .int .i64 0]) ?_ rfl ⟨rfl, ?_⟩
    · simp [results, Tryz.results129, go_sem]
    · repeat (first | exact Below.refl _ _ | refine Below.alloc ?_ (by simp; try omega) _)

theorem tallyKnow_f (g s : Int) (h0 : 0 ≤ g) (h1 : g ≤ 1099511627376) (h2 : 0 ≤ s) (h3 : s ≤ 1099511627376) (h4 : s ≤ 3 * g)  (w : World) :
    Calls Tryz.prog 99 #[.agg #[.bool false, .int .i64 g, .int .i64 s]] w fun e w' => e = .returned (.tuple #[.agg #[.bool true, .int .i64 g, .int .i64 s], .int .i64 0]) ∧ Below w.heap.size w w' := by
  go_enter Tryz.func99, Tryz.ntmps99
  go_wp2
  all_goals
    refine bodyPost_ret (v := .tuple #[.agg #[.bool true, .int .i64 g, .int .i64 s], .int .i64 0]) ?_ rfl ⟨rfl, ?_⟩
    · simp [results, Tryz.results99, go_sem]
    · repeat (first | exact Below.refl _ _ | refine Below.alloc ?_ (by simp; try omega) _)
end Go.Proofs.YtbcagdjfegobnaaGreat
