/- Texts of the proof, laid together: EightWalk. -/
import Derived.Test.YtbcagdjfegobnaaGreatC08
import Derived.Test.YtbcagdjfegobnaaGreatC14
import Derived.Test.YtbcagdjfegobnaaGreatC00
/- The contract of token.eight. -/
namespace Go.Proofs.YtbcagdjfegobnaaGreat
open Go.ChangeShapes Go.WideShapes Go.ChangeAt Go.RowKit
set_option linter.unusedVariables false

theorem u8_info8 : (Tryz.prog.info? 5).map (fun i => (i.zero, i.size, i.bytes)) = some (some (.int .u8 0), 1, 1) := by kernel_rfl


end Go.Proofs.YtbcagdjfegobnaaGreat
