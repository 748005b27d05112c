/- The contract of cut. -/
import Derived.Test.YtdmonacekjcedaaPickWalk
import Derived.Lib.Hide
namespace Go.Proofs.Ytdmonacekjcedaa
open Go.ChangeShapes Go.WideShapes Go.ChangeAt Go.RowKit
set_option linter.unusedVariables false

/-- The first bytes of a text. -/
def cutS (s : ByteArray) (m : Nat) : ByteArray := s.extract 0 (min s.size m)
theorem cutS_size (s : ByteArray) (m : Nat) : (cutS s m).size ≤ m := by unfold cutS; simp; omega
theorem extract_whole (s : ByteArray) : s.extract 0 s.size = s := by
  apply ByteArray.ext; simp
theorem cut_any (s : ByteArray) (m : Nat) (hs : s.size ≤ 9223372036854775807) (hm : m ≤ 9223372036854775807) (w : World) :
    Calls Try.prog 30 #[.string s, .int .i64 (m : Int)] w fun e w' => e = .returned (.string (cutS s m)) ∧ w = w' := by
  rcases Nat.lt_trichotomy s.size m with h | h | h
  · have e : cutS s m = s := by unfold cutS; rw [Nat.min_eq_left (by omega)]; exact extract_whole s
    rw [e]; clear e
    go_enter Try.func30, Try.ntmps30
    go_wp2_with fail
    all_goals (go_ret; exact ⟨rfl, rfl⟩)
  · have e : cutS s m = s := by unfold cutS; rw [Nat.min_eq_left (by omega)]; exact extract_whole s
    rw [e]; clear e
    subst h
    go_enter Try.func30, Try.ntmps30
    go_wp2_with fail
    all_goals (go_ret; exact ⟨rfl, rfl⟩)
  · have e : cutS s m = s.extract 0 m := by unfold cutS; rw [Nat.min_eq_right (by omega)]
    rw [e]; clear e
    go_enter Try.func30, Try.ntmps30
    go_wp2_with fail
    all_goals (go_ret; exact ⟨rfl, rfl⟩)
end Go.Proofs.Ytdmonacekjcedaa
