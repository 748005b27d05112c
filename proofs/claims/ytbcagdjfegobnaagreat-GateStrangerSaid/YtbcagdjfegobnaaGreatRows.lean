/-
  No cell of these rows narrows 'for every input' (looked for: loops, veiled, ifaces, maps, wideKeys, modest, calm, conditions, laid).
  DERIVED. THE GIVEN ROWS OF THIS SEAT. 12 by the template 'for every input the law returns true; each argument reads behind the call as it read before'; 0 by the template 'total and deterministic' (their statements: YtbcagdjfegobnaaGreatTotals.lean).
  GIVEN WITH THE SEED: the statements are not yours to turn. If you find one false, say at which input.
  Laid BY PROGRAM, IN A SANDBOX (cutbox-rows.mjs): the forced cells as the released guide's own fill.sh prints them over the translation 2bb2e0c124126097… (all of the seat's roots in one cut). By AI agents, Wed Nov 11 2026. No macro, syntax, notation, axiom, sorry.
-/
import Derived.Test.YtbcagdjfegobnaaGreatChecked
import GoSem.Claim
import GoSem.ClaimJoined
import GoSem.ClaimMapViews
import Derived.JoinedTies
import Derived.KernelRfl
namespace Go.Proofs.YtbcagdjfegobnaaGreat
/- THE CELL 'sum', in the pinned program and in every row, IS THE sha256 OF THE DUMP (.gsa) THAT YtbcagdjfegobnaaGreatProg.lean LOADS. Nothing in Lean hashes anything: it is a label: what it is worth is what the hold of that sum in a sandbox is worth. -/
noncomputable def Tryz.pinned : Pinned := { name := "ytbcagdjfegobnaagreat", sum := "2bb2e0c1241260977769c3dc255652cd9ab93d63db8a62a5141353ce053077ed", checked := Tryz.checked }
namespace Rows
def none {H : Type} : Left H := { results := [], args := [] }

/-- 'spillwaykeep.GateGreets': WHATEVER THE INPUT: true; the input reads as it did. -/
def gateGreetsSpec : ChangeSpec := { name := "gateGreets", fn := fun _ => fun
  | [d1, d2, d3] => { results := [.lit (.bool true)], args := [d1, d2, d3] }
  | _ => none }
def gateGreetsRow : OpenClaim := { program := "ytbcagdjfegobnaagreat", sum := "2bb2e0c1241260977769c3dc255652cd9ab93d63db8a62a5141353ce053077ed", func := "spillway/spillwaykeep.GateGreets", spec := "gateGreets", unfollowed := true, recurses := true, apart := false }
def GateGreetsSaid : Prop := gateGreetsRow.holds Tryz.pinned (OpenSpec.ofChange gateGreetsSpec)

/-- ITS FALSE NEIGHBOUR: 'it returns false'. Refute it at one input. -/
def gateGreetsWrong : ChangeSpec := { name := "gateGreets", fn := fun _ => fun
  | [d1, d2, d3] => { results := [.lit (.bool false)], args := [d1, d2, d3] }
  | _ => none }
def GateGreetsWrongFalsely : Prop := gateGreetsRow.holds Tryz.pinned (OpenSpec.ofChange gateGreetsWrong)

/-- 'spillwaykeep.GateGood': WHATEVER THE INPUT: true; the input reads as it did. -/
def gateGoodSpec : ChangeSpec := { name := "gateGood", fn := fun _ => fun
  | [d1, d2, d3] => { results := [.lit (.bool true)], args := [d1, d2, d3] }
  | _ => none }
def gateGoodRow : OpenClaim := { program := "ytbcagdjfegobnaagreat", sum := "2bb2e0c1241260977769c3dc255652cd9ab93d63db8a62a5141353ce053077ed", func := "spillway/spillwaykeep.GateGood", spec := "gateGood", unfollowed := true, recurses := true, apart := false }
def GateGoodSaid : Prop := gateGoodRow.holds Tryz.pinned (OpenSpec.ofChange gateGoodSpec)

/-- ITS FALSE NEIGHBOUR: 'it returns false'. Refute it at one input. -/
def gateGoodWrong : ChangeSpec := { name := "gateGood", fn := fun _ => fun
  | [d1, d2, d3] => { results := [.lit (.bool false)], args := [d1, d2, d3] }
  | _ => none }
def GateGoodWrongFalsely : Prop := gateGoodRow.holds Tryz.pinned (OpenSpec.ofChange gateGoodWrong)

/-- 'spillwaykeep.GateRoom': WHATEVER THE INPUT: true; the input reads as it did. -/
def gateRoomSpec : ChangeSpec := { name := "gateRoom", fn := fun _ => fun
  | [d1, d2] => { results := [.lit (.bool true)], args := [d1, d2] }
  | _ => none }
def gateRoomRow : OpenClaim := { program := "ytbcagdjfegobnaagreat", sum := "2bb2e0c1241260977769c3dc255652cd9ab93d63db8a62a5141353ce053077ed", func := "spillway/spillwaykeep.GateRoom", spec := "gateRoom", unfollowed := true, recurses := true, apart := false }
def GateRoomSaid : Prop := gateRoomRow.holds Tryz.pinned (OpenSpec.ofChange gateRoomSpec)

/-- ITS FALSE NEIGHBOUR: 'it returns false'. Refute it at one input. -/
def gateRoomWrong : ChangeSpec := { name := "gateRoom", fn := fun _ => fun
  | [d1, d2] => { results := [.lit (.bool false)], args := [d1, d2] }
  | _ => none }
def GateRoomWrongFalsely : Prop := gateRoomRow.holds Tryz.pinned (OpenSpec.ofChange gateRoomWrong)

/-- 'spillwaykeep.GateStranger': WHATEVER THE INPUT: true; the input reads as it did. -/
def gateStrangerSpec : ChangeSpec := { name := "gateStranger", fn := fun _ => fun
  | [d1, d2] => { results := [.lit (.bool true)], args := [d1, d2] }
  | _ => none }
def gateStrangerRow : OpenClaim := { program := "ytbcagdjfegobnaagreat", sum := "2bb2e0c1241260977769c3dc255652cd9ab93d63db8a62a5141353ce053077ed", func := "spillway/spillwaykeep.GateStranger", spec := "gateStranger", unfollowed := true, recurses := true, apart := false }
def GateStrangerSaid : Prop := gateStrangerRow.holds Tryz.pinned (OpenSpec.ofChange gateStrangerSpec)

/-- ITS FALSE NEIGHBOUR: 'it returns false'. Refute it at one input. -/
def gateStrangerWrong : ChangeSpec := { name := "gateStranger", fn := fun _ => fun
  | [d1, d2] => { results := [.lit (.bool false)], args := [d1, d2] }
  | _ => none }
def GateStrangerWrongFalsely : Prop := gateStrangerRow.holds Tryz.pinned (OpenSpec.ofChange gateStrangerWrong)

/-- 'spillwaykeep.PacketBack': WHATEVER THE INPUT: true; the input reads as it did. -/
def packetBackSpec : ChangeSpec := { name := "packetBack", fn := fun _ => fun
  | [d1, d2, d3, d4, d5] => { results := [.lit (.bool true)], args := [d1, d2, d3, d4, d5] }
  | _ => none }
def packetBackRow : OpenClaim := { program := "ytbcagdjfegobnaagreat", sum := "2bb2e0c1241260977769c3dc255652cd9ab93d63db8a62a5141353ce053077ed", func := "spillway/spillwaykeep.PacketBack", spec := "packetBack", unfollowed := true, recurses := true, apart := false }
def PacketBackSaid : Prop := packetBackRow.holds Tryz.pinned (OpenSpec.ofChange packetBackSpec)

/-- ITS FALSE NEIGHBOUR: 'it returns false'. Refute it at one input. -/
def packetBackWrong : ChangeSpec := { name := "packetBack", fn := fun _ => fun
  | [d1, d2, d3, d4, d5] => { results := [.lit (.bool false)], args := [d1, d2, d3, d4, d5] }
  | _ => none }
def PacketBackWrongFalsely : Prop := packetBackRow.holds Tryz.pinned (OpenSpec.ofChange packetBackWrong)

/-- 'spillwaykeep.ClientTokens': WHATEVER THE INPUT: true; the input reads as it did. -/
def clientTokensSpec : ChangeSpec := { name := "clientTokens", fn := fun _ => fun
  | [d1, d2, d3, d4] => { results := [.lit (.bool true)], args := [d1, d2, d3, d4] }
  | _ => none }
def clientTokensRow : OpenClaim := { program := "ytbcagdjfegobnaagreat", sum := "2bb2e0c1241260977769c3dc255652cd9ab93d63db8a62a5141353ce053077ed", func := "spillway/spillwaykeep.ClientTokens", spec := "clientTokens", unfollowed := true, recurses := true, apart := false }
def ClientTokensSaid : Prop := clientTokensRow.holds Tryz.pinned (OpenSpec.ofChange clientTokensSpec)

/-- ITS FALSE NEIGHBOUR: 'it returns false'. Refute it at one input. -/
def clientTokensWrong : ChangeSpec := { name := "clientTokens", fn := fun _ => fun
  | [d1, d2, d3, d4] => { results := [.lit (.bool false)], args := [d1, d2, d3, d4] }
  | _ => none }
def ClientTokensWrongFalsely : Prop := clientTokensRow.holds Tryz.pinned (OpenSpec.ofChange clientTokensWrong)

/-- 'spillwaytop.TopTwo': WHATEVER THE INPUT: true; the input reads as it did. -/
def topTwoSpec : ChangeSpec := { name := "topTwo", fn := fun _ => fun
  | [d1, d2, d3, d4, d5, d6] => { results := [.lit (.bool true)], args := [d1, d2, d3, d4, d5, d6] }
  | _ => none }
def topTwoRow : OpenClaim := { program := "ytbcagdjfegobnaagreat", sum := "2bb2e0c1241260977769c3dc255652cd9ab93d63db8a62a5141353ce053077ed", func := "spillway/spillwaytop.TopTwo", spec := "topTwo", unfollowed := true, recurses := true, apart := false }
def TopTwoSaid : Prop := topTwoRow.holds Tryz.pinned (OpenSpec.ofChange topTwoSpec)

/-- ITS FALSE NEIGHBOUR: 'it returns false'. Refute it at one input. -/
def topTwoWrong : ChangeSpec := { name := "topTwo", fn := fun _ => fun
  | [d1, d2, d3, d4, d5, d6] => { results := [.lit (.bool false)], args := [d1, d2, d3, d4, d5, d6] }
  | _ => none }
def TopTwoWrongFalsely : Prop := topTwoRow.holds Tryz.pinned (OpenSpec.ofChange topTwoWrong)

/-- 'spillwaytop.TopIdle': WHATEVER THE INPUT: true; the input reads as it did. -/
def topIdleSpec : ChangeSpec := { name := "topIdle", fn := fun _ => fun
  | [d1, d2, d3] => { results := [.lit (.bool true)], args := [d1, d2, d3] }
  | _ => none }
def topIdleRow : OpenClaim := { program := "ytbcagdjfegobnaagreat", sum := "2bb2e0c1241260977769c3dc255652cd9ab93d63db8a62a5141353ce053077ed", func := "spillway/spillwaytop.TopIdle", spec := "topIdle", unfollowed := true, recurses := true, apart := false }
def TopIdleSaid : Prop := topIdleRow.holds Tryz.pinned (OpenSpec.ofChange topIdleSpec)

/-- ITS FALSE NEIGHBOUR: 'it returns false'. Refute it at one input. -/
def topIdleWrong : ChangeSpec := { name := "topIdle", fn := fun _ => fun
  | [d1, d2, d3] => { results := [.lit (.bool false)], args := [d1, d2, d3] }
  | _ => none }
def TopIdleWrongFalsely : Prop := topIdleRow.holds Tryz.pinned (OpenSpec.ofChange topIdleWrong)

/-- 'spillwaytop.TopTokens': WHATEVER THE INPUT: true; the input reads as it did. -/
def topTokensSpec : ChangeSpec := { name := "topTokens", fn := fun _ => fun
  | [d1, d2, d3, d4] => { results := [.lit (.bool true)], args := [d1, d2, d3, d4] }
  | _ => none }
def topTokensRow : OpenClaim := { program := "ytbcagdjfegobnaagreat", sum := "2bb2e0c1241260977769c3dc255652cd9ab93d63db8a62a5141353ce053077ed", func := "spillway/spillwaytop.TopTokens", spec := "topTokens", unfollowed := true, recurses := true, apart := false }
def TopTokensSaid : Prop := topTokensRow.holds Tryz.pinned (OpenSpec.ofChange topTokensSpec)

/-- ITS FALSE NEIGHBOUR: 'it returns false'. Refute it at one input. -/
def topTokensWrong : ChangeSpec := { name := "topTokens", fn := fun _ => fun
  | [d1, d2, d3, d4] => { results := [.lit (.bool false)], args := [d1, d2, d3, d4] }
  | _ => none }
def TopTokensWrongFalsely : Prop := topTokensRow.holds Tryz.pinned (OpenSpec.ofChange topTokensWrong)

/-- 'spillwaytop.TopCloses': WHATEVER THE INPUT: true; the input reads as it did. -/
def topClosesSpec : ChangeSpec := { name := "topCloses", fn := fun _ => fun
  | [d1, d2, d3] => { results := [.lit (.bool true)], args := [d1, d2, d3] }
  | _ => none }
def topClosesRow : OpenClaim := { program := "ytbcagdjfegobnaagreat", sum := "2bb2e0c1241260977769c3dc255652cd9ab93d63db8a62a5141353ce053077ed", func := "spillway/spillwaytop.TopCloses", spec := "topCloses", unfollowed := true, recurses := true, apart := false }
def TopClosesSaid : Prop := topClosesRow.holds Tryz.pinned (OpenSpec.ofChange topClosesSpec)

/-- ITS FALSE NEIGHBOUR: 'it returns false'. Refute it at one input. -/
def topClosesWrong : ChangeSpec := { name := "topCloses", fn := fun _ => fun
  | [d1, d2, d3] => { results := [.lit (.bool false)], args := [d1, d2, d3] }
  | _ => none }
def TopClosesWrongFalsely : Prop := topClosesRow.holds Tryz.pinned (OpenSpec.ofChange topClosesWrong)

/-- 'spillwaytop.TopAgain': WHATEVER THE INPUT: true; the input reads as it did. -/
def topAgainSpec : ChangeSpec := { name := "topAgain", fn := fun _ => fun
  | [d1, d2, d3, d4] => { results := [.lit (.bool true)], args := [d1, d2, d3, d4] }
  | _ => none }
def topAgainRow : OpenClaim := { program := "ytbcagdjfegobnaagreat", sum := "2bb2e0c1241260977769c3dc255652cd9ab93d63db8a62a5141353ce053077ed", func := "spillway/spillwaytop.TopAgain", spec := "topAgain", unfollowed := true, recurses := true, apart := false }
def TopAgainSaid : Prop := topAgainRow.holds Tryz.pinned (OpenSpec.ofChange topAgainSpec)

/-- ITS FALSE NEIGHBOUR: 'it returns false'. Refute it at one input. -/
def topAgainWrong : ChangeSpec := { name := "topAgain", fn := fun _ => fun
  | [d1, d2, d3, d4] => { results := [.lit (.bool false)], args := [d1, d2, d3, d4] }
  | _ => none }
def TopAgainWrongFalsely : Prop := topAgainRow.holds Tryz.pinned (OpenSpec.ofChange topAgainWrong)

/-- 'spillwaytop.TopBad': WHATEVER THE INPUT: true; the input reads as it did. -/
def topBadSpec : ChangeSpec := { name := "topBad", fn := fun _ => fun
  | [d1, d2, d3] => { results := [.lit (.bool true)], args := [d1, d2, d3] }
  | _ => none }
def topBadRow : OpenClaim := { program := "ytbcagdjfegobnaagreat", sum := "2bb2e0c1241260977769c3dc255652cd9ab93d63db8a62a5141353ce053077ed", func := "spillway/spillwaytop.TopBad", spec := "topBad", unfollowed := true, recurses := true, apart := false }
def TopBadSaid : Prop := topBadRow.holds Tryz.pinned (OpenSpec.ofChange topBadSpec)

/-- ITS FALSE NEIGHBOUR: 'it returns false'. Refute it at one input. -/
def topBadWrong : ChangeSpec := { name := "topBad", fn := fun _ => fun
  | [d1, d2, d3] => { results := [.lit (.bool false)], args := [d1, d2, d3] }
  | _ => none }
def TopBadWrongFalsely : Prop := topBadRow.holds Tryz.pinned (OpenSpec.ofChange topBadWrong)

/- THE SECOND FORM. 'bulk': how many values and letters a reading holds, each counted each time it is reached (what is shared counts as often as it is met; a slice's spare places count too). A statement '..UptoSaid' is the law's where the arguments, and the package variables that the reading takes, are together of bulk at most 1048576: NARROWER than '..Said'. Prove '..Said' where nothing that the law and all that it calls make is longer than what came in: it says more and counts as full. Else prove '..UptoSaid'. A law counts once. -/
mutual
def uptoBulk {H : Type} : DataW H → Nat
  | .lit (.string bytes) => bytes.length + 1
  | .lit _ => 1
  | .nil => 1
  | .ptr d => uptoBulk d + 1
  | .slice elems spare => uptoBulkAll elems + uptoBulkAll spare + 1
  | .agg parts => uptoBulkAll parts + 1
  | .iface _ d => uptoBulk d + 1
  | .map entries => uptoBulkEntries entries + 1
  | .held _ => 1
def uptoBulkAll {H : Type} : List (DataW H) → Nat
  | [] => 0
  | d :: r => uptoBulk d + uptoBulkAll r
def uptoBulkEntries {H : Type} : List (Lit × DataW H) → Nat
  | [] => 0
  | x :: r => uptoBulkEntry x + uptoBulkEntries r
def uptoBulkEntry {H : Type} : Lit × DataW H → Nat
  | (.string bytes, d) => bytes.length + uptoBulk d + 1
  | (_, d) => uptoBulk d + 1
 end
def uptoSmall : (H : Type) → List (DataW H) → Bool := fun _ ds => decide (uptoBulkAll ds ≤ 1048576)
def OpenSpec.upto (s : _root_.Go.ChangeSpec) : _root_.Go.OpenSpec := { _root_.Go.OpenSpec.ofChange s with cond := some uptoSmall }

/-- 'spillwaykeep.GateGreets', WHERE WHAT IT READS IS OF BULK AT MOST 1048576: true; the input reads as it did. -/
def gateGreetsUptoRow : OpenClaim := { program := "ytbcagdjfegobnaagreat", sum := "2bb2e0c1241260977769c3dc255652cd9ab93d63db8a62a5141353ce053077ed", func := "spillway/spillwaykeep.GateGreets", spec := "gateGreets", unfollowed := true, recurses := true, apart := false, narrowed := true }
def GateGreetsUptoSaid : Prop := gateGreetsUptoRow.holds Tryz.pinned (OpenSpec.upto gateGreetsSpec)

/-- 'spillwaykeep.GateGood', WHERE WHAT IT READS IS OF BULK AT MOST 1048576: true; the input reads as it did. -/
def gateGoodUptoRow : OpenClaim := { program := "ytbcagdjfegobnaagreat", sum := "2bb2e0c1241260977769c3dc255652cd9ab93d63db8a62a5141353ce053077ed", func := "spillway/spillwaykeep.GateGood", spec := "gateGood", unfollowed := true, recurses := true, apart := false, narrowed := true }
def GateGoodUptoSaid : Prop := gateGoodUptoRow.holds Tryz.pinned (OpenSpec.upto gateGoodSpec)

/-- 'spillwaykeep.GateRoom', WHERE WHAT IT READS IS OF BULK AT MOST 1048576: true; the input reads as it did. -/
def gateRoomUptoRow : OpenClaim := { program := "ytbcagdjfegobnaagreat", sum := "2bb2e0c1241260977769c3dc255652cd9ab93d63db8a62a5141353ce053077ed", func := "spillway/spillwaykeep.GateRoom", spec := "gateRoom", unfollowed := true, recurses := true, apart := false, narrowed := true }
def GateRoomUptoSaid : Prop := gateRoomUptoRow.holds Tryz.pinned (OpenSpec.upto gateRoomSpec)

/-- 'spillwaykeep.GateStranger', WHERE WHAT IT READS IS OF BULK AT MOST 1048576: true; the input reads as it did. -/
def gateStrangerUptoRow : OpenClaim := { program := "ytbcagdjfegobnaagreat", sum := "2bb2e0c1241260977769c3dc255652cd9ab93d63db8a62a5141353ce053077ed", func := "spillway/spillwaykeep.GateStranger", spec := "gateStranger", unfollowed := true, recurses := true, apart := false, narrowed := true }
def GateStrangerUptoSaid : Prop := gateStrangerUptoRow.holds Tryz.pinned (OpenSpec.upto gateStrangerSpec)

/-- 'spillwaykeep.PacketBack', WHERE WHAT IT READS IS OF BULK AT MOST 1048576: true; the input reads as it did. -/
def packetBackUptoRow : OpenClaim := { program := "ytbcagdjfegobnaagreat", sum := "2bb2e0c1241260977769c3dc255652cd9ab93d63db8a62a5141353ce053077ed", func := "spillway/spillwaykeep.PacketBack", spec := "packetBack", unfollowed := true, recurses := true, apart := false, narrowed := true }
def PacketBackUptoSaid : Prop := packetBackUptoRow.holds Tryz.pinned (OpenSpec.upto packetBackSpec)

/-- 'spillwaykeep.ClientTokens', WHERE WHAT IT READS IS OF BULK AT MOST 1048576: true; the input reads as it did. -/
def clientTokensUptoRow : OpenClaim := { program := "ytbcagdjfegobnaagreat", sum := "2bb2e0c1241260977769c3dc255652cd9ab93d63db8a62a5141353ce053077ed", func := "spillway/spillwaykeep.ClientTokens", spec := "clientTokens", unfollowed := true, recurses := true, apart := false, narrowed := true }
def ClientTokensUptoSaid : Prop := clientTokensUptoRow.holds Tryz.pinned (OpenSpec.upto clientTokensSpec)

/-- 'spillwaytop.TopTwo', WHERE WHAT IT READS IS OF BULK AT MOST 1048576: true; the input reads as it did. -/
def topTwoUptoRow : OpenClaim := { program := "ytbcagdjfegobnaagreat", sum := "2bb2e0c1241260977769c3dc255652cd9ab93d63db8a62a5141353ce053077ed", func := "spillway/spillwaytop.TopTwo", spec := "topTwo", unfollowed := true, recurses := true, apart := false, narrowed := true }
def TopTwoUptoSaid : Prop := topTwoUptoRow.holds Tryz.pinned (OpenSpec.upto topTwoSpec)

/-- 'spillwaytop.TopIdle', WHERE WHAT IT READS IS OF BULK AT MOST 1048576: true; the input reads as it did. -/
def topIdleUptoRow : OpenClaim := { program := "ytbcagdjfegobnaagreat", sum := "2bb2e0c1241260977769c3dc255652cd9ab93d63db8a62a5141353ce053077ed", func := "spillway/spillwaytop.TopIdle", spec := "topIdle", unfollowed := true, recurses := true, apart := false, narrowed := true }
def TopIdleUptoSaid : Prop := topIdleUptoRow.holds Tryz.pinned (OpenSpec.upto topIdleSpec)

/-- 'spillwaytop.TopTokens', WHERE WHAT IT READS IS OF BULK AT MOST 1048576: true; the input reads as it did. -/
def topTokensUptoRow : OpenClaim := { program := "ytbcagdjfegobnaagreat", sum := "2bb2e0c1241260977769c3dc255652cd9ab93d63db8a62a5141353ce053077ed", func := "spillway/spillwaytop.TopTokens", spec := "topTokens", unfollowed := true, recurses := true, apart := false, narrowed := true }
def TopTokensUptoSaid : Prop := topTokensUptoRow.holds Tryz.pinned (OpenSpec.upto topTokensSpec)

/-- 'spillwaytop.TopCloses', WHERE WHAT IT READS IS OF BULK AT MOST 1048576: true; the input reads as it did. -/
def topClosesUptoRow : OpenClaim := { program := "ytbcagdjfegobnaagreat", sum := "2bb2e0c1241260977769c3dc255652cd9ab93d63db8a62a5141353ce053077ed", func := "spillway/spillwaytop.TopCloses", spec := "topCloses", unfollowed := true, recurses := true, apart := false, narrowed := true }
def TopClosesUptoSaid : Prop := topClosesUptoRow.holds Tryz.pinned (OpenSpec.upto topClosesSpec)

/-- 'spillwaytop.TopAgain', WHERE WHAT IT READS IS OF BULK AT MOST 1048576: true; the input reads as it did. -/
def topAgainUptoRow : OpenClaim := { program := "ytbcagdjfegobnaagreat", sum := "2bb2e0c1241260977769c3dc255652cd9ab93d63db8a62a5141353ce053077ed", func := "spillway/spillwaytop.TopAgain", spec := "topAgain", unfollowed := true, recurses := true, apart := false, narrowed := true }
def TopAgainUptoSaid : Prop := topAgainUptoRow.holds Tryz.pinned (OpenSpec.upto topAgainSpec)

/-- 'spillwaytop.TopBad', WHERE WHAT IT READS IS OF BULK AT MOST 1048576: true; the input reads as it did. -/
def topBadUptoRow : OpenClaim := { program := "ytbcagdjfegobnaagreat", sum := "2bb2e0c1241260977769c3dc255652cd9ab93d63db8a62a5141353ce053077ed", func := "spillway/spillwaytop.TopBad", spec := "topBad", unfollowed := true, recurses := true, apart := false, narrowed := true }
def TopBadUptoSaid : Prop := topBadUptoRow.holds Tryz.pinned (OpenSpec.upto topBadSpec)

end Rows
end Go.Proofs.YtbcagdjfegobnaaGreat
