/- Texts of the proof, laid together: Token MakeWalk. -/
import Derived.Test.YtbcagdjfegobnaaGreatC25
import Derived.Test.YtbcagdjfegobnaaGreatC14
import Derived.Test.YtbcagdjfegobnaaGreatC29
/- Plain: what a token is. -/
namespace Go.Proofs.YtbcagdjfegobnaaGreat
open Go.RowKit
set_option linter.unusedVariables false

/-- The bytes of a token: its time, and a seal. -/
def tokB (s a t : Int) : List UInt8 := beB 8 t.toNat ++ beB 8 (mixI (bits .xor .u64 (keyI s a) (mixI t))).toNat





/-- What a look at sixteen bytes tells of a token. -/
def chkI (s a now : Int) (bs : List UInt8) : Int :=
  if 1099511627776 < valB (bs.take 8) 0 then 10 else if tokB s a (valB (bs.take 8) 0) = bs then (if now < valB (bs.take 8) 0 ∨ 50 < now - valB (bs.take 8) 0 then 16 else 0) else 10



end Go.Proofs.YtbcagdjfegobnaaGreat
/- The contract of token.Make. -/
namespace Go.Proofs.YtbcagdjfegobnaaGreat
open Go.ChangeShapes Go.WideShapes Go.ChangeAt Go.RowKit
set_option linter.unusedVariables false


end Go.Proofs.YtbcagdjfegobnaaGreat
