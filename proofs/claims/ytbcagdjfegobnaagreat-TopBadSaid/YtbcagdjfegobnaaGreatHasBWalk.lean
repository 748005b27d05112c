/- The contracts of ranges.Has, and of the laws' has, sameRanges, rangesTell. -/
import Derived.Test.YtbcagdjfegobnaaGreatRCutWalk
namespace Go.Proofs.YtbcagdjfegobnaaGreat
open Go.ChangeShapes Go.WideShapes Go.ChangeAt Go.RowKit
set_option linter.unusedVariables false

/-- Is a number in one of the ranges? -/
def hasB (l : List Rng) (n : Int) : Bool := l.any fun x => decide (x.1 ≤ n ∧ n ≤ x.2)
theorem hasB_iff (l : List Rng) (n : Int) : hasB l n = true ↔ memR l n := by
  simp [hasB, memR]
theorem hasB_congr {l m : List Rng} {a b : Int} (h : memR l a ↔ memR m b) : hasB l a = hasB m b := by
  rw [Bool.eq_iff_iff, hasB_iff, hasB_iff, h]
theorem hasB_take (l : List Rng) (k : Nat) (n : Int) (hk : k < l.length) : hasB (l.take (k + 1)) n = (hasB (l.take k) n || decide ((l.getD k (0, 0)).1 ≤ n ∧ n ≤ (l.getD k (0, 0)).2)) := by
  rw [List.take_succ_eq_append_getElem hk, hasB, hasB, List.any_append]
  simp [List.getD, hk]
theorem hasB_of_take {l : List Rng} {k : Nat} {n : Int} (h : hasB (l.take k) n = true) : hasB l n = true := by
  rw [hasB_iff] at h ⊢
  obtain ⟨x, hx, h1⟩ := h
  exact ⟨x, List.mem_of_mem_take hx, h1⟩

set_option maxRecDepth 100000 in
theorem rHas_any (A : Option Addr) (n c : Nat) (l : List Rng) (hn : l.length = n) (hl : goodFrom 0 l) (hnc : n ≤ c) (hcm : c ≤ 9223372036854775807) (v : Int) (B : Bool) (hB : hasB l v = B) (w : World) (hr : RdX rcells 2 w A l) :
    Calls Tryz.prog 168 #[.slice A n c, .int .i64 v] w fun e w' => e = .returned (.tuple #[.bool B, .int .i64 0]) ∧ Below w.heap.size w w' := by
  have HN := Lib.hid hn
  have HL := Lib.hid hl
  have HR := Lib.hid hr
  have HB := Lib.hid hB
  clear hn hl hr hB
  go_enter Tryz.func168, Tryz.ntmps168
  go_wp2_with fail
  refine (rCheck_ok A n c l HN.out HL.out hnc hcm _ HR.out).mono ?_
  rintro e w1 ⟨rfl, hb⟩
  go_wp2_with fail
  go_loopw [16] (fun i wr => ∃ k : Nat, k ≤ n ∧ i = .int .i64 k ∧ Hid (hasB (l.take k) v = false) ∧ Below w.heap.size w wr) (fun i _ => n - (intOf i).toNat)
  case atStart => exact ⟨0, Nat.zero_le _, rfl, rfl, hb⟩
  case round =>
    obtain ⟨k, hk, rfl, HT, hb⟩ := hrel
    by_cases hlt : k < n
    · have hlen := HN.out
      obtain ⟨b, off, rfl, hcell⟩ := (RdX.below HR.out hb).rcell (by omega)
      obtain ⟨c0, c1⟩ := hcell k (by omega)
      have HK := Lib.hid (hasB_take l k v (by omega))
      obtain ⟨x1, x2, hx⟩ : ∃ x1 x2, l.getD k (0, 0) = (x1, x2) := ⟨_, _, rfl⟩
      rw [hx] at c0 c1 HK
      clear hx hlen hcell
      by_cases h1 : x1 ≤ v ∧ v ≤ x2
      · obtain ⟨h1, h2⟩ := h1
        have hBt : B = true := by
          rw [← HB.out]; refine hasB_of_take (k := k + 1) ?_
          rw [HK.out]; simp [h1, h2]
        subst hBt
        go_wp2_with fail
        go_ret2
        exact ⟨rfl, hb.alloc hb.size _⟩
      · have HT2 : Hid (hasB (l.take (k + 1)) v = false) := by
          have := HK.out; rw [HT.out] at this; unfold Hid; rw [this]; simp; omega
        rcases (by omega : ¬ x1 ≤ v ∨ (x1 ≤ v ∧ ¬ v ≤ x2)) with h2 | ⟨h2, h3⟩
        all_goals
          clear h1
          go_wp2_with fail
          go_roundw
          case rel => exact ⟨k + 1, by omega, by go_num, HT2, hb.alloc hb.size _⟩
          case measure => simp [intOf]; omega
    · obtain rfl : k = n := by omega
      have hBt : B = false := by
        rw [← HB.out, ← HT.out, List.take_of_length_le (by have := HN.out; omega)]
      subst hBt
      go_wp2_with fail
      go_ret2
      exact ⟨rfl, hb⟩
end Go.Proofs.YtbcagdjfegobnaaGreat
