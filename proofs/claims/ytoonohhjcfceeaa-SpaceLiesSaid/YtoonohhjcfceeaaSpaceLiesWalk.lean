/- The walk of the law SpaceLies: who tells of a packet that was never sent is found out. -/
import Derived.Test.YtoonohhjcfceeaaSpacedWalk
import Derived.Test.YtoonohhjcfceeaaSpaceLiesOf
namespace Go.Proofs.Ytoonohhjcfceeaa
open Go.ChangeShapes Go.WideShapes Go.ChangeAt Go.RowKit
theorem spaceLies_walk (a : Option Addr) (len cap : Nat) (rs : List RawD) (far : Int) (w : World) (h : IsRaws w a len cap rs) (hf : (Lit.int .i64 far).wf = true) :
    Calls Try.prog 7 #[.slice a len cap, .int .i64 far] w fun e' w' => e' = .returned (.bool true) ∧ Below w.heap.size w w' :=
  spaceLies_of spaced_any a len cap rs far w h hf
end Go.Proofs.Ytoonohhjcfceeaa
