/- Plain numbers in bytes: their sizes. -/
import Derived.Test.YteajdkbilbopoaaNum
namespace Go.Proofs.Yteajdkbilbopoaa
open Go.RowKit
set_option linter.unusedVariables false

/-- How many bytes a number has (0: it is none). -/
def sizeI (n : Int) : Int := if n < 0 ∨ 4611686018427387903 < n then 0 else if n < 64 then 1 else if n < 16384 then 2 else if n < 1073741824 then 4 else 8
/-- What is wrong with it. -/
def sizeE (n : Int) : Int := if n < 0 ∨ 4611686018427387903 < n then 6 else 0

theorem sizeI_cases (n : Int) (h0 : 0 ≤ n) (h1 : n ≤ 4611686018427387903) :
    (n < 64 ∧ sizeI n = 1) ∨ (64 ≤ n ∧ n < 16384 ∧ sizeI n = 2) ∨ (16384 ≤ n ∧ n < 1073741824 ∧ sizeI n = 4) ∨ (1073741824 ≤ n ∧ sizeI n = 8) := by
  unfold sizeI; rw [if_neg (by omega)]
  by_cases a : n < 64
  · exact .inl ⟨a, if_pos a⟩
  · rw [if_neg a]
    by_cases b : n < 16384
    · exact .inr (.inl ⟨by omega, b, if_pos b⟩)
    · rw [if_neg b]
      by_cases c : n < 1073741824
      · exact .inr (.inr (.inl ⟨by omega, c, if_pos c⟩))
      · exact .inr (.inr (.inr ⟨by omega, if_neg c⟩))
theorem sizeE_ok (n : Int) (h0 : 0 ≤ n) (h1 : n ≤ 4611686018427387903) : sizeE n = 0 := by
  unfold sizeE; rw [if_neg (by omega)]
end Go.Proofs.Yteajdkbilbopoaa
