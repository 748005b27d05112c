/- The walk of the law SpaceOnce: a packet is heard of, or lost, once. -/
import Derived.Test.YtoonohhjcfceeaaSpacedWalk
import Derived.Test.YtoonohhjcfceeaaSpaceOnceOf
namespace Go.Proofs.Ytoonohhjcfceeaa
open Go.ChangeShapes Go.WideShapes Go.ChangeAt Go.RowKit
theorem spaceOnce_walk (a : Option Addr) (len cap : Nat) (rs : List RawD) (w : World) (h : IsRaws w a len cap rs) :
    Calls Try.prog 4 #[.slice a len cap] w fun e' w' => e' = .returned (.bool true) ∧ Below w.heap.size w w' :=
  spaceOnce_of spaced_any a len cap rs w h
end Go.Proofs.Ytoonohhjcfceeaa
