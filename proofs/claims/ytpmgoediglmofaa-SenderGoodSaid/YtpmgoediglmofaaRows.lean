/-
  No cell of these rows narrows 'for every input' (looked for: loops, veiled, ifaces, maps, wideKeys, modest, calm, conditions, laid).
  DERIVED. THE GIVEN ROWS OF THIS SEAT. 3 by the template 'for every input the law returns true; each argument reads behind the call as it read before'; 0 by the template 'total and deterministic' (their statements: YtpmgoediglmofaaTotals.lean).
  GIVEN WITH THE SEED: the statements are not yours to turn. If you find one false, say at which input.
  Laid BY PROGRAM, IN A SANDBOX (cutbox-rows.mjs): the forced cells as the released guide's own fill.sh prints them over the translation 569db1ecc91491a3… (all of the seat's roots in one cut). By AI agents, Wed Nov 11 2026. No macro, syntax, notation, axiom, sorry.
-/
import Derived.Test.YtpmgoediglmofaaChecked
import GoSem.Claim
import GoSem.ClaimJoined
import GoSem.ClaimMapViews
import Derived.JoinedTies
import Derived.KernelRfl
namespace Go.Proofs.Ytpmgoediglmofaa
/- THE CELL 'sum', in the pinned program and in every row, IS THE sha256 OF THE DUMP (.gsa) THAT YtpmgoediglmofaaProg.lean LOADS. Nothing in Lean hashes anything: it is a label: what it is worth is what the hold of that sum in a sandbox is worth. -/
noncomputable def Try.pinned : Pinned := { name := "ytpmgoediglmofaa", sum := "569db1ecc91491a302d3c1607af9b33e5eb2681535f18a8823e679471c3ad699", checked := Try.checked }
namespace Rows
def none {H : Type} : Left H := { results := [], args := [] }

/-- 'spillwaykeep.SpaceLate': WHATEVER THE INPUT: true; the input reads as it did. -/
def spaceLateSpec : ChangeSpec := { name := "spaceLate", fn := fun _ => fun
  | [d1, d2] => { results := [.lit (.bool true)], args := [d1, d2] }
  | _ => none }
def spaceLateRow : OpenClaim := { program := "ytpmgoediglmofaa", sum := "569db1ecc91491a302d3c1607af9b33e5eb2681535f18a8823e679471c3ad699", func := "spillway/spillwaykeep.SpaceLate", spec := "spaceLate", unfollowed := true, recurses := true, apart := false }
def SpaceLateSaid : Prop := spaceLateRow.holds Try.pinned (OpenSpec.ofChange spaceLateSpec)

/-- ITS FALSE NEIGHBOUR: 'it returns false'. Refute it at one input. -/
def spaceLateWrong : ChangeSpec := { name := "spaceLate", fn := fun _ => fun
  | [d1, d2] => { results := [.lit (.bool false)], args := [d1, d2] }
  | _ => none }
def SpaceLateWrongFalsely : Prop := spaceLateRow.holds Try.pinned (OpenSpec.ofChange spaceLateWrong)

/-- 'spillwaykeep.SpaceTells': WHATEVER THE INPUT: true; the input reads as it did. -/
def spaceTellsSpec : ChangeSpec := { name := "spaceTells", fn := fun _ => fun
  | [d] => { results := [.lit (.bool true)], args := [d] }
  | _ => none }
def spaceTellsRow : OpenClaim := { program := "ytpmgoediglmofaa", sum := "569db1ecc91491a302d3c1607af9b33e5eb2681535f18a8823e679471c3ad699", func := "spillway/spillwaykeep.SpaceTells", spec := "spaceTells", apart := false }
def SpaceTellsSaid : Prop := spaceTellsRow.holds Try.pinned (OpenSpec.ofChange spaceTellsSpec)

/-- ITS FALSE NEIGHBOUR: 'it returns false'. Refute it at one input. -/
def spaceTellsWrong : ChangeSpec := { name := "spaceTells", fn := fun _ => fun
  | [d] => { results := [.lit (.bool false)], args := [d] }
  | _ => none }
def SpaceTellsWrongFalsely : Prop := spaceTellsRow.holds Try.pinned (OpenSpec.ofChange spaceTellsWrong)

/-- 'spillwaykeep.SenderGood': WHATEVER THE INPUT: true; the input reads as it did. -/
def senderGoodSpec : ChangeSpec := { name := "senderGood", fn := fun _ => fun
  | [d] => { results := [.lit (.bool true)], args := [d] }
  | _ => none }
def senderGoodRow : OpenClaim := { program := "ytpmgoediglmofaa", sum := "569db1ecc91491a302d3c1607af9b33e5eb2681535f18a8823e679471c3ad699", func := "spillway/spillwaykeep.SenderGood", spec := "senderGood", apart := false }
def SenderGoodSaid : Prop := senderGoodRow.holds Try.pinned (OpenSpec.ofChange senderGoodSpec)

/-- ITS FALSE NEIGHBOUR: 'it returns false'. Refute it at one input. -/
def senderGoodWrong : ChangeSpec := { name := "senderGood", fn := fun _ => fun
  | [d] => { results := [.lit (.bool false)], args := [d] }
  | _ => none }
def SenderGoodWrongFalsely : Prop := senderGoodRow.holds Try.pinned (OpenSpec.ofChange senderGoodWrong)

/- THE SECOND FORM. 'bulk': how many values and letters a reading holds, each counted each time it is reached (what is shared counts as often as it is met; a slice's spare places count too). A statement '..UptoSaid' is the law's where the arguments, and the package variables that the reading takes, are together of bulk at most 1048576: NARROWER than '..Said'. Prove '..Said' where nothing that the law and all that it calls make is longer than what came in: it says more and counts as full. Else prove '..UptoSaid'. A law counts once. -/
mutual
def uptoBulk {H : Type} : DataW H → Nat
  | .lit (.string bytes) => bytes.length + 1
  | .lit _ => 1
  | .nil => 1
  | .ptr d => uptoBulk d + 1
  | .slice elems spare => uptoBulkAll elems + uptoBulkAll spare + 1
  | .agg parts => uptoBulkAll parts + 1
  | .iface _ d => uptoBulk d + 1
  | .map entries => uptoBulkEntries entries + 1
  | .held _ => 1
def uptoBulkAll {H : Type} : List (DataW H) → Nat
  | [] => 0
  | d :: r => uptoBulk d + uptoBulkAll r
def uptoBulkEntries {H : Type} : List (Lit × DataW H) → Nat
  | [] => 0
  | x :: r => uptoBulkEntry x + uptoBulkEntries r
def uptoBulkEntry {H : Type} : Lit × DataW H → Nat
  | (.string bytes, d) => bytes.length + uptoBulk d + 1
  | (_, d) => uptoBulk d + 1
 end
def uptoSmall : (H : Type) → List (DataW H) → Bool := fun _ ds => decide (uptoBulkAll ds ≤ 1048576)
def OpenSpec.upto (s : _root_.Go.ChangeSpec) : _root_.Go.OpenSpec := { _root_.Go.OpenSpec.ofChange s with cond := some uptoSmall }

/-- 'spillwaykeep.SpaceLate', WHERE WHAT IT READS IS OF BULK AT MOST 1048576: true; the input reads as it did. -/
def spaceLateUptoRow : OpenClaim := { program := "ytpmgoediglmofaa", sum := "569db1ecc91491a302d3c1607af9b33e5eb2681535f18a8823e679471c3ad699", func := "spillway/spillwaykeep.SpaceLate", spec := "spaceLate", unfollowed := true, recurses := true, apart := false, narrowed := true }
def SpaceLateUptoSaid : Prop := spaceLateUptoRow.holds Try.pinned (OpenSpec.upto spaceLateSpec)

/-- 'spillwaykeep.SpaceTells', WHERE WHAT IT READS IS OF BULK AT MOST 1048576: true; the input reads as it did. -/
def spaceTellsUptoRow : OpenClaim := { program := "ytpmgoediglmofaa", sum := "569db1ecc91491a302d3c1607af9b33e5eb2681535f18a8823e679471c3ad699", func := "spillway/spillwaykeep.SpaceTells", spec := "spaceTells", apart := false, narrowed := true }
def SpaceTellsUptoSaid : Prop := spaceTellsUptoRow.holds Try.pinned (OpenSpec.upto spaceTellsSpec)

/-- 'spillwaykeep.SenderGood', WHERE WHAT IT READS IS OF BULK AT MOST 1048576: true; the input reads as it did. -/
def senderGoodUptoRow : OpenClaim := { program := "ytpmgoediglmofaa", sum := "569db1ecc91491a302d3c1607af9b33e5eb2681535f18a8823e679471c3ad699", func := "spillway/spillwaykeep.SenderGood", spec := "senderGood", apart := false, narrowed := true }
def SenderGoodUptoSaid : Prop := senderGoodUptoRow.holds Try.pinned (OpenSpec.upto senderGoodSpec)

end Rows
end Go.Proofs.Ytpmgoediglmofaa
