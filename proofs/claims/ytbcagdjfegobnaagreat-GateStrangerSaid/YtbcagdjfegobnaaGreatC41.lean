/- Texts of the proof, laid together: RawArg. -/
import Derived.Test.YtbcagdjfegobnaaGreatC06
/- A raw thing that came in as_v an argument, opened. -/
namespace Go.Proofs.YtbcagdjfegobnaaGreat
open Go.ChangeShapes Go.WideShapes Go.Deep Go.RowKit
set_option linter.unusedVariables false

def rawV (r : RawD) : Value := .agg #[.int .i64 r.kind, .int .i64 r.a, .int .i64 r.b, .string r.text]


end Go.Proofs.YtbcagdjfegobnaaGreat
