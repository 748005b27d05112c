/- Texts of the proof, laid together: CheckWalk. -/
import Derived.Test.YtbcagdjfegobnaaGreatC31
/- The contract of token.Check. -/
namespace Go.Proofs.YtbcagdjfegobnaaGreat
open Go.ChangeShapes Go.WideShapes Go.ChangeAt Go.RowKit
set_option linter.unusedVariables false


end Go.Proofs.YtbcagdjfegobnaaGreat
