/- Plain: what is made whole is near. -/
import Derived.Test.YteajdkbilbopoaaVar
namespace Go.Proofs.Yteajdkbilbopoaa
open Go.RowKit
theorem whole_near (t win low : Int) (h0 : 0 ≤ t) (h1 : t < 1152921504606846976) (hw : win = 256 ∨ win = 65536 ∨ win = 16777216 ∨ win = 4294967296) (hl0 : 0 ≤ low) (hl1 : low < win) :
    0 ≤ wholeN (t + 1) win low ∧ wholeN (t + 1) win low % win = low ∧ wholeN (t + 1) win low ≤ t + 1 + win ∧ (t + 1 - win / 2 ≤ wholeN (t + 1) win low ∨ wholeN (t + 1) win low - low = 0) ∧ (wholeN (t + 1) win low ≤ t + 1 + win / 2 ∨ wholeN (t + 1) win low < win) := by
  unfold wholeN
  rcases hw with rfl | rfl | rfl | rfl <;> (split <;> (try split) <;> omega)
theorem pow_win (K : Nat) (h1 : 1 ≤ K) (h4 : K ≤ 4) : ∃ W : Int, ((256 ^ K : Nat) : Int) = W ∧ wrap64 (2 ^ (8 * K)) = W ∧ (W = 256 ∨ W = 65536 ∨ W = 16777216 ∨ W = 4294967296) := by
  have : K = 1 ∨ K = 2 ∨ K = 3 ∨ K = 4 := by omega
  rcases this with rfl | rfl | rfl | rfl
  · exact ⟨256, rfl, by simp [wrap64], by simp⟩
  · exact ⟨65536, rfl, by simp [wrap64], by simp⟩
  · exact ⟨16777216, rfl, by simp [wrap64], by simp⟩
  · exact ⟨4294967296, rfl, by simp [wrap64], by simp⟩
theorem low_lt (bs : List UInt8) (K : Nat) (W : Int) (hl : bs.length = K) (hW : ((256 ^ K : Nat) : Int) = W) : (valB bs 0 : Int) < W := by
  have := valB_lt bs 0 1 (by decide)
  rw [hl, Nat.one_mul] at this
  rw [← hW]; exact Int.ofNat_lt.2 this
end Go.Proofs.Yteajdkbilbopoaa
