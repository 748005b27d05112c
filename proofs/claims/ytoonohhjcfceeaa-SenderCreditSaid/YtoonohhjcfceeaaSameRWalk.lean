/- The contracts of set, sameRanges, rangesTell. -/
import Derived.Test.YtoonohhjcfceeaaSetBWalk
namespace Go.Proofs.Ytoonohhjcfceeaa
open Go.ChangeShapes Go.WideShapes Go.ChangeAt Go.RowKit
set_option linter.unusedVariables false

set_option maxHeartbeats 1000000 in
theorem sameRanges_eq (A B : Option Addr) (n c d : Nat) (l : List Rng) (hn : l.length = n) (hnc : n ≤ c) (hnd : n ≤ d) (hcm : c ≤ 9223372036854775807) (hdm : d ≤ 9223372036854775807) (w : World) (hA : RdX rcells 2 w A l) (hB : RdX rcells 2 w B l) :
    Calls Try.prog 46 #[.slice A n c, .slice B n d] w fun e w' => e = .returned (.bool true) ∧ Below w.heap.size w w' := by
  have HN := Lib.hid hn
  have HA := Lib.hid hA
  have HB := Lib.hid hB
  clear hn hA hB
  go_enter Try.func46, Try.ntmps46
  go_wp2_with fail
  go_loopw [5, 6] (fun ok i wr => ∃ k : Nat, k ≤ n ∧ i = .int .i64 k ∧ ok = .bool true ∧ Below w.heap.size w wr) (fun _ i _ => n - (intOf i).toNat)
  case atStart => exact ⟨0, Nat.zero_le _, rfl, by simp, Below.refl _ _⟩
  case round =>
    obtain ⟨k, hk, rfl, rfl, hb⟩ := hrel
    by_cases hlt : k < n
    · have hlen := HN.out
      obtain ⟨b, off, rfl, hcell⟩ := (RdX.below HA.out hb).rcell (by omega)
      obtain ⟨b', off', rfl, hcell'⟩ := (RdX.below HB.out hb).rcell (by omega)
      obtain ⟨c0, c1⟩ := hcell k (by omega)
      obtain ⟨d0, d1⟩ := hcell' k (by omega)
      obtain ⟨x1, x2, hx⟩ : ∃ x1 x2, l.getD k (0, 0) = (x1, x2) := ⟨_, _, rfl⟩
      rw [hx] at c0 c1 d0 d1
      have hk0 : (0 : Int) ≤ (k : Int) := by omega
      have hk1 : (k : Int) < (n : Int) := by omega
      clear hx hlen hcell hcell'
      go_upto_region 5 with (fail)
      go_quiet (fail)
      have hb2 : Below w.heap.size w (wr.drewN nq) := ⟨hb.os, hb.tape, hb.output, hb.size, hb.block⟩
      go_wp2_with fail
      go_roundw
      case rel => exact ⟨k + 1, by omega, by go_num, by simp, hb2⟩
      case measure => simp [intOf]; omega
    · go_wp2_with fail
      go_ret
      exact ⟨rfl, hb⟩

end Go.Proofs.Ytoonohhjcfceeaa
