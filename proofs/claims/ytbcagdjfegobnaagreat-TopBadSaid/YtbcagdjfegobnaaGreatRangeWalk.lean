/- The contract of ranges.fault. -/
import Derived.Test.YtbcagdjfegobnaaGreatRangeBWalk
namespace Go.Proofs.YtbcagdjfegobnaaGreat
open Go.ChangeShapes Go.WideShapes Go.ChangeAt Go.RowKit
set_option linter.unusedVariables false

theorem rFault_ok (A : Option Addr) (n c : Nat) (l : List Rng) (hn : l.length = n) (hl : goodFrom 0 l) (hnc : n ≤ c) (hcm : c ≤ 9223372036854775807) (lo hi : Int) (h0 : 0 ≤ lo) (h1 : lo ≤ hi) (h2 : hi ≤ 4611686018427387903) (w : World) (hr : RdX rcells 2 w A l) :
    Calls Tryz.prog 187 #[.slice A n c, .agg #[.int .i64 lo, .int .i64 hi]] w fun e w' => e = .returned (.int .i64 0) ∧ Below w.heap.size w w' := by
  have HN := Lib.hid hn
  have HL := Lib.hid hl
  have HR := Lib.hid hr
  clear hn hl hr
  go_enter Tryz.func187, Tryz.ntmps187
  go_wp2_with fail
  refine (rCheck_ok A n c l HN.out HL.out hnc hcm _ (HR.out.alloc _)).mono ?_
  rintro e w1 ⟨rfl, hb1⟩
  have hB := (Blk.new w 116 #[.int .i64 lo, .int .i64 hi]).carry hb1
  have hb : Below w.heap.size w w1 := ((Below.refl _ _).alloc (Nat.le_refl _) _).trans (hb1.mono (by simp))
  have FB := hB.two
  clear hb1 hB
  go_wp2_with fail
  refine (rgood_ok lo hi h0 h1 h2 _).mono ?_
  rintro e w2 ⟨rfl, hb2⟩
  go_wp2_with fail
  go_ret
  exact ⟨rfl, hb.trans (hb2.mono hb.size)⟩
end Go.Proofs.YtbcagdjfegobnaaGreat
