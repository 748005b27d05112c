/- Texts of the proof, laid together: PaceWalk. -/
import Derived.Test.YtbcagdjfegobnaaGreatC00
import Derived.Test.YtbcagdjfegobnaaGreatC06
import Derived.Test.YtbcagdjfegobnaaGreatC01
import Derived.BigRegion
import Derived.BigQuiet
import Derived.StillTailTactics
import Derived.Outline
import Derived.Deep.Cut
import Derived.Deep.CutBlock
import Derived.Deep.CutRange
import Derived.Deep.QuietTactic
/- The contracts of pace.Begin, Check, fault, Send, Heard, Lost. -/
namespace Go.Proofs.YtbcagdjfegobnaaGreat
open Go.ChangeShapes Go.WideShapes Go.ChangeAt Go.RowKit
set_option linter.unusedVariables false

theorem paceBegin_any (w : World) : Calls Tryz.prog 108 #[] w fun e w' => e = .returned (.agg #[.int .i64 400, .int .i64 0, .int .i64 0, .int .i64 (-1)]) ∧ Below w.heap.size w w' := by
  go_enter Tryz.func108, Tryz.ntmps108
  go_wp2
  exact bodyPost_ret (v := .agg #[.int .i64 400, .int .i64 0, .int .i64 0, .int .i64 (-1)]) (by simp [results, Tryz.results108, go_sem]) rfl ⟨rfl, (Below.refl _ _).alloc (Nat.le_refl _) _⟩

theorem paceCheck_ok (W T F S : Int) (h0 : 200 ≤ W) (h1 : W ≤ 1099511627776) (h2 : 0 ≤ T) (h3 : T ≤ 1099511627776) (h4 : 0 ≤ F) (h5 : F ≤ 1099511627776) (h6 : -1 ≤ S) (h7 : S ≤ 1099511627776) (w : World) :
    Calls Tryz.prog 80 #[.agg #[.int .i64 W, .int .i64 T, .int .i64 F, .int .i64 S]] w fun e w' => e = .returned (.int .i64 0) ∧ Below w.heap.size w w' := by
  go_enter Tryz.func80, Tryz.ntmps80
  go_wp2
  go_ret
  exact ⟨rfl, (Below.refl _ _).alloc (Nat.le_refl _) _⟩







end Go.Proofs.YtbcagdjfegobnaaGreat
