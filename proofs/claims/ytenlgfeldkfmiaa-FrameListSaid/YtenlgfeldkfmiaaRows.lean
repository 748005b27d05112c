/-
  No cell of these rows narrows 'for every input' (looked for: loops, veiled, ifaces, maps, wideKeys, modest, calm, conditions, laid).
  DERIVED. THE GIVEN ROWS OF THIS SEAT. 6 by the template 'for every input the law returns true; each argument reads behind the call as it read before'; 0 by the template 'total and deterministic' (their statements: YtenlgfeldkfmiaaTotals.lean).
  GIVEN WITH THE SEED: the statements are not yours to turn. If you find one false, say at which input.
  Laid BY PROGRAM, IN A SANDBOX (cutbox-rows.mjs): the forced cells as the released guide's own fill.sh prints them over the translation 1b46bfb11f0089e3… (all of the seat's roots in one cut). By AI agents, Wed Nov 11 2026. No macro, syntax, notation, axiom, sorry.
-/
import Derived.Test.YtenlgfeldkfmiaaChecked
import GoSem.Claim
import GoSem.ClaimJoined
import GoSem.ClaimMapViews
import Derived.JoinedTies
import Derived.KernelRfl
namespace Go.Proofs.Ytenlgfeldkfmiaa
/- THE CELL 'sum', in the pinned program and in every row, IS THE sha256 OF THE DUMP (.gsa) THAT YtenlgfeldkfmiaaProg.lean LOADS. Nothing in Lean hashes anything: it is a label: what it is worth is what the hold of that sum in a sandbox is worth. -/
noncomputable def Try.pinned : Pinned := { name := "ytenlgfeldkfmiaa", sum := "1b46bfb11f0089e3d3b8287c5349f7076a728b7a45f2bfee5d71ac5577542c9a", checked := Try.checked }
namespace Rows
def none {H : Type} : Left H := { results := [], args := [] }

/-- 'spillwaykeep.HeadBack': WHATEVER THE INPUT: true; the input reads as it did. -/
def headBackSpec : ChangeSpec := { name := "headBack", fn := fun _ => fun
  | [d1, d2, d3] => { results := [.lit (.bool true)], args := [d1, d2, d3] }
  | _ => none }
def headBackRow : OpenClaim := { program := "ytenlgfeldkfmiaa", sum := "1b46bfb11f0089e3d3b8287c5349f7076a728b7a45f2bfee5d71ac5577542c9a", func := "spillway/spillwaykeep.HeadBack", spec := "headBack", unfollowed := true, recurses := true, apart := false }
def HeadBackSaid : Prop := headBackRow.holds Try.pinned (OpenSpec.ofChange headBackSpec)

/-- ITS FALSE NEIGHBOUR: 'it returns false'. Refute it at one input. -/
def headBackWrong : ChangeSpec := { name := "headBack", fn := fun _ => fun
  | [d1, d2, d3] => { results := [.lit (.bool false)], args := [d1, d2, d3] }
  | _ => none }
def HeadBackWrongFalsely : Prop := headBackRow.holds Try.pinned (OpenSpec.ofChange headBackWrong)

/-- 'spillwaykeep.HeadAny': WHATEVER THE INPUT: true; the input reads as it did. -/
def headAnySpec : ChangeSpec := { name := "headAny", fn := fun _ => fun
  | [d] => { results := [.lit (.bool true)], args := [d] }
  | _ => none }
def headAnyRow : OpenClaim := { program := "ytenlgfeldkfmiaa", sum := "1b46bfb11f0089e3d3b8287c5349f7076a728b7a45f2bfee5d71ac5577542c9a", func := "spillway/spillwaykeep.HeadAny", spec := "headAny", unfollowed := true, recurses := true, apart := false }
def HeadAnySaid : Prop := headAnyRow.holds Try.pinned (OpenSpec.ofChange headAnySpec)

/-- ITS FALSE NEIGHBOUR: 'it returns false'. Refute it at one input. -/
def headAnyWrong : ChangeSpec := { name := "headAny", fn := fun _ => fun
  | [d] => { results := [.lit (.bool false)], args := [d] }
  | _ => none }
def HeadAnyWrongFalsely : Prop := headAnyRow.holds Try.pinned (OpenSpec.ofChange headAnyWrong)

/-- 'spillwaykeep.FrameApart': WHATEVER THE INPUT: true; the input reads as it did. -/
def frameApartSpec : ChangeSpec := { name := "frameApart", fn := fun _ => fun
  | [d1, d2] => { results := [.lit (.bool true)], args := [d1, d2] }
  | _ => none }
def frameApartRow : OpenClaim := { program := "ytenlgfeldkfmiaa", sum := "1b46bfb11f0089e3d3b8287c5349f7076a728b7a45f2bfee5d71ac5577542c9a", func := "spillway/spillwaykeep.FrameApart", spec := "frameApart", apart := false }
def FrameApartSaid : Prop := frameApartRow.holds Try.pinned (OpenSpec.ofChange frameApartSpec)

/-- ITS FALSE NEIGHBOUR: 'it returns false'. Refute it at one input. -/
def frameApartWrong : ChangeSpec := { name := "frameApart", fn := fun _ => fun
  | [d1, d2] => { results := [.lit (.bool false)], args := [d1, d2] }
  | _ => none }
def FrameApartWrongFalsely : Prop := frameApartRow.holds Try.pinned (OpenSpec.ofChange frameApartWrong)

/-- 'spillwaykeep.FrameBack': WHATEVER THE INPUT: true; the input reads as it did. -/
def frameBackSpec : ChangeSpec := { name := "frameBack", fn := fun _ => fun
  | [d1, d2, d3] => { results := [.lit (.bool true)], args := [d1, d2, d3] }
  | _ => none }
def frameBackRow : OpenClaim := { program := "ytenlgfeldkfmiaa", sum := "1b46bfb11f0089e3d3b8287c5349f7076a728b7a45f2bfee5d71ac5577542c9a", func := "spillway/spillwaykeep.FrameBack", spec := "frameBack", apart := false }
def FrameBackSaid : Prop := frameBackRow.holds Try.pinned (OpenSpec.ofChange frameBackSpec)

/-- ITS FALSE NEIGHBOUR: 'it returns false'. Refute it at one input. -/
def frameBackWrong : ChangeSpec := { name := "frameBack", fn := fun _ => fun
  | [d1, d2, d3] => { results := [.lit (.bool false)], args := [d1, d2, d3] }
  | _ => none }
def FrameBackWrongFalsely : Prop := frameBackRow.holds Try.pinned (OpenSpec.ofChange frameBackWrong)

/-- 'spillwaykeep.FrameAny': WHATEVER THE INPUT: true; the input reads as it did. -/
def frameAnySpec : ChangeSpec := { name := "frameAny", fn := fun _ => fun
  | [d] => { results := [.lit (.bool true)], args := [d] }
  | _ => none }
def frameAnyRow : OpenClaim := { program := "ytenlgfeldkfmiaa", sum := "1b46bfb11f0089e3d3b8287c5349f7076a728b7a45f2bfee5d71ac5577542c9a", func := "spillway/spillwaykeep.FrameAny", spec := "frameAny", apart := false }
def FrameAnySaid : Prop := frameAnyRow.holds Try.pinned (OpenSpec.ofChange frameAnySpec)

/-- ITS FALSE NEIGHBOUR: 'it returns false'. Refute it at one input. -/
def frameAnyWrong : ChangeSpec := { name := "frameAny", fn := fun _ => fun
  | [d] => { results := [.lit (.bool false)], args := [d] }
  | _ => none }
def FrameAnyWrongFalsely : Prop := frameAnyRow.holds Try.pinned (OpenSpec.ofChange frameAnyWrong)

/-- 'spillwaykeep.FrameList': WHATEVER THE INPUT: true; the input reads as it did. -/
def frameListSpec : ChangeSpec := { name := "frameList", fn := fun _ => fun
  | [d] => { results := [.lit (.bool true)], args := [d] }
  | _ => none }
def frameListRow : OpenClaim := { program := "ytenlgfeldkfmiaa", sum := "1b46bfb11f0089e3d3b8287c5349f7076a728b7a45f2bfee5d71ac5577542c9a", func := "spillway/spillwaykeep.FrameList", spec := "frameList", apart := false }
def FrameListSaid : Prop := frameListRow.holds Try.pinned (OpenSpec.ofChange frameListSpec)

/-- ITS FALSE NEIGHBOUR: 'it returns false'. Refute it at one input. -/
def frameListWrong : ChangeSpec := { name := "frameList", fn := fun _ => fun
  | [d] => { results := [.lit (.bool false)], args := [d] }
  | _ => none }
def FrameListWrongFalsely : Prop := frameListRow.holds Try.pinned (OpenSpec.ofChange frameListWrong)

/- THE SECOND FORM. 'bulk': how many values and letters a reading holds, each counted each time it is reached (what is shared counts as often as it is met; a slice's spare places count too). A statement '..UptoSaid' is the law's where the arguments, and the package variables that the reading takes, are together of bulk at most 1048576: NARROWER than '..Said'. Prove '..Said' where nothing that the law and all that it calls make is longer than what came in: it says more and counts as full. Else prove '..UptoSaid'. A law counts once. -/
mutual
def uptoBulk {H : Type} : DataW H → Nat
  | .lit (.string bytes) => bytes.length + 1
  | .lit _ => 1
  | .nil => 1
  | .ptr d => uptoBulk d + 1
  | .slice elems spare => uptoBulkAll elems + uptoBulkAll spare + 1
  | .agg parts => uptoBulkAll parts + 1
  | .iface _ d => uptoBulk d + 1
  | .map entries => uptoBulkEntries entries + 1
  | .held _ => 1
def uptoBulkAll {H : Type} : List (DataW H) → Nat
  | [] => 0
  | d :: r => uptoBulk d + uptoBulkAll r
def uptoBulkEntries {H : Type} : List (Lit × DataW H) → Nat
  | [] => 0
  | x :: r => uptoBulkEntry x + uptoBulkEntries r
def uptoBulkEntry {H : Type} : Lit × DataW H → Nat
  | (.string bytes, d) => bytes.length + uptoBulk d + 1
  | (_, d) => uptoBulk d + 1
 end
def uptoSmall : (H : Type) → List (DataW H) → Bool := fun _ ds => decide (uptoBulkAll ds ≤ 1048576)
def OpenSpec.upto (s : _root_.Go.ChangeSpec) : _root_.Go.OpenSpec := { _root_.Go.OpenSpec.ofChange s with cond := some uptoSmall }

/-- 'spillwaykeep.HeadBack', WHERE WHAT IT READS IS OF BULK AT MOST 1048576: true; the input reads as it did. -/
def headBackUptoRow : OpenClaim := { program := "ytenlgfeldkfmiaa", sum := "1b46bfb11f0089e3d3b8287c5349f7076a728b7a45f2bfee5d71ac5577542c9a", func := "spillway/spillwaykeep.HeadBack", spec := "headBack", unfollowed := true, recurses := true, apart := false, narrowed := true }
def HeadBackUptoSaid : Prop := headBackUptoRow.holds Try.pinned (OpenSpec.upto headBackSpec)

/-- 'spillwaykeep.HeadAny', WHERE WHAT IT READS IS OF BULK AT MOST 1048576: true; the input reads as it did. -/
def headAnyUptoRow : OpenClaim := { program := "ytenlgfeldkfmiaa", sum := "1b46bfb11f0089e3d3b8287c5349f7076a728b7a45f2bfee5d71ac5577542c9a", func := "spillway/spillwaykeep.HeadAny", spec := "headAny", unfollowed := true, recurses := true, apart := false, narrowed := true }
def HeadAnyUptoSaid : Prop := headAnyUptoRow.holds Try.pinned (OpenSpec.upto headAnySpec)

/-- 'spillwaykeep.FrameApart', WHERE WHAT IT READS IS OF BULK AT MOST 1048576: true; the input reads as it did. -/
def frameApartUptoRow : OpenClaim := { program := "ytenlgfeldkfmiaa", sum := "1b46bfb11f0089e3d3b8287c5349f7076a728b7a45f2bfee5d71ac5577542c9a", func := "spillway/spillwaykeep.FrameApart", spec := "frameApart", apart := false, narrowed := true }
def FrameApartUptoSaid : Prop := frameApartUptoRow.holds Try.pinned (OpenSpec.upto frameApartSpec)

/-- 'spillwaykeep.FrameBack', WHERE WHAT IT READS IS OF BULK AT MOST 1048576: true; the input reads as it did. -/
def frameBackUptoRow : OpenClaim := { program := "ytenlgfeldkfmiaa", sum := "1b46bfb11f0089e3d3b8287c5349f7076a728b7a45f2bfee5d71ac5577542c9a", func := "spillway/spillwaykeep.FrameBack", spec := "frameBack", apart := false, narrowed := true }
def FrameBackUptoSaid : Prop := frameBackUptoRow.holds Try.pinned (OpenSpec.upto frameBackSpec)

/-- 'spillwaykeep.FrameAny', WHERE WHAT IT READS IS OF BULK AT MOST 1048576: true; the input reads as it did. -/
def frameAnyUptoRow : OpenClaim := { program := "ytenlgfeldkfmiaa", sum := "1b46bfb11f0089e3d3b8287c5349f7076a728b7a45f2bfee5d71ac5577542c9a", func := "spillway/spillwaykeep.FrameAny", spec := "frameAny", apart := false, narrowed := true }
def FrameAnyUptoSaid : Prop := frameAnyUptoRow.holds Try.pinned (OpenSpec.upto frameAnySpec)

/-- 'spillwaykeep.FrameList', WHERE WHAT IT READS IS OF BULK AT MOST 1048576: true; the input reads as it did. -/
def frameListUptoRow : OpenClaim := { program := "ytenlgfeldkfmiaa", sum := "1b46bfb11f0089e3d3b8287c5349f7076a728b7a45f2bfee5d71ac5577542c9a", func := "spillway/spillwaykeep.FrameList", spec := "frameList", apart := false, narrowed := true }
def FrameListUptoSaid : Prop := frameListUptoRow.holds Try.pinned (OpenSpec.upto frameListSpec)

end Rows
end Go.Proofs.Ytenlgfeldkfmiaa
