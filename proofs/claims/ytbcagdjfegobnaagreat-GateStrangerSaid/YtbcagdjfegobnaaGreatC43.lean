/- Texts of the proof, laid together: SomeWalk. -/
import Derived.Test.YtbcagdjfegobnaaGreatC00
/- The contract of some. -/
namespace Go.Proofs.YtbcagdjfegobnaaGreat
open Go.ChangeShapes Go.WideShapes Go.ChangeAt Go.RowKit
set_option linter.unusedVariables false

theorem some_any (A : Option Addr) (len cap k : Nat) (m : Int) (hl : len ≤ cap) (hc : cap ≤ 9223372036854775807) (hm0 : 0 ≤ m) (hm : m ≤ 9223372036854775807) (hk : min (len : Int) m = k) (w : World) :
    Calls Tryz.prog 20 #[.slice A len cap, .int .i64 m] w fun e w' => e = .returned (.slice A k cap) ∧ w = w' := by
  obtain ⟨M, rfl⟩ := Int.eq_ofNat_of_zero_le hm0
  rcases Nat.lt_trichotomy len M with h | h | h
  · obtain rfl : k = len := by omega
    clear hk
    go_enter Tryz.func20, Tryz.ntmps20
    go_wp2_with fail
    all_goals (go_ret; exact ⟨rfl, rfl⟩)
  · subst h
    obtain rfl : k = len := by omega
    clear hk
    go_enter Tryz.func20, Tryz.ntmps20
    go_wp2_with fail
    all_goals (go_ret; exact ⟨rfl, rfl⟩)
  · obtain rfl : k = M := by omega
    clear hk
    go_enter Tryz.func20, Tryz.ntmps20
    go_wp2_with fail
    all_goals (go_ret; exact ⟨rfl, rfl⟩)
end Go.Proofs.YtbcagdjfegobnaaGreat
