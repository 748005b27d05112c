/-
  No cell of these rows narrows 'for every input' (looked for: loops, veiled, ifaces, maps, wideKeys, modest, calm, conditions, laid).
  DERIVED. THE GIVEN ROWS OF THIS SEAT. 3 by the template 'for every input the law returns true; each argument reads behind the call as it read before'; 0 by the template 'total and deterministic' (their statements: YtihngonemdaihaaTotals.lean).
  GIVEN WITH THE SEED: the statements are not yours to turn. If you find one false, say at which input.
  Laid BY PROGRAM, IN A SANDBOX (cutbox-rows.mjs): the forced cells as the released guide's own fill.sh prints them over the translation eb22c0ad2ad92d42… (all of the seat's roots in one cut). By AI agents, Wed Nov 11 2026. No macro, syntax, notation, axiom, sorry.
-/
import Derived.Test.YtihngonemdaihaaChecked
import GoSem.Claim
import GoSem.ClaimJoined
import GoSem.ClaimMapViews
import Derived.JoinedTies
import Derived.KernelRfl
namespace Go.Proofs.Ytihngonemdaihaa
/- THE CELL 'sum', in the pinned program and in every row, IS THE sha256 OF THE DUMP (.gsa) THAT YtihngonemdaihaaProg.lean LOADS. Nothing in Lean hashes anything: it is a label: what it is worth is what the hold of that sum in a sandbox is worth. -/
noncomputable def Try.pinned : Pinned := { name := "ytihngonemdaihaa", sum := "eb22c0ad2ad92d42938d5363dca24d048f064dac809b54304c3e1473d325c47d", checked := Try.checked }
namespace Rows
def none {H : Type} : Left H := { results := [], args := [] }

/-- 'spillwaykeep.RequestBack': WHATEVER THE INPUT: true; the input reads as it did. -/
def requestBackSpec : ChangeSpec := { name := "requestBack", fn := fun _ => fun
  | [d1, d2, d3, d4, d5] => { results := [.lit (.bool true)], args := [d1, d2, d3, d4, d5] }
  | _ => none }
def requestBackRow : OpenClaim := { program := "ytihngonemdaihaa", sum := "eb22c0ad2ad92d42938d5363dca24d048f064dac809b54304c3e1473d325c47d", func := "spillway/spillwaykeep.RequestBack", spec := "requestBack", apart := false }
def RequestBackSaid : Prop := requestBackRow.holds Try.pinned (OpenSpec.ofChange requestBackSpec)

/-- ITS FALSE NEIGHBOUR: 'it returns false'. Refute it at one input. -/
def requestBackWrong : ChangeSpec := { name := "requestBack", fn := fun _ => fun
  | [d1, d2, d3, d4, d5] => { results := [.lit (.bool false)], args := [d1, d2, d3, d4, d5] }
  | _ => none }
def RequestBackWrongFalsely : Prop := requestBackRow.holds Try.pinned (OpenSpec.ofChange requestBackWrong)

/-- 'spillwaykeep.RequestWaits': WHATEVER THE INPUT: true; the input reads as it did. -/
def requestWaitsSpec : ChangeSpec := { name := "requestWaits", fn := fun _ => fun
  | [d1, d2, d3] => { results := [.lit (.bool true)], args := [d1, d2, d3] }
  | _ => none }
def requestWaitsRow : OpenClaim := { program := "ytihngonemdaihaa", sum := "eb22c0ad2ad92d42938d5363dca24d048f064dac809b54304c3e1473d325c47d", func := "spillway/spillwaykeep.RequestWaits", spec := "requestWaits", apart := false }
def RequestWaitsSaid : Prop := requestWaitsRow.holds Try.pinned (OpenSpec.ofChange requestWaitsSpec)

/-- ITS FALSE NEIGHBOUR: 'it returns false'. Refute it at one input. -/
def requestWaitsWrong : ChangeSpec := { name := "requestWaits", fn := fun _ => fun
  | [d1, d2, d3] => { results := [.lit (.bool false)], args := [d1, d2, d3] }
  | _ => none }
def RequestWaitsWrongFalsely : Prop := requestWaitsRow.holds Try.pinned (OpenSpec.ofChange requestWaitsWrong)

/-- 'spillwaykeep.RequestForm': WHATEVER THE INPUT: true; the input reads as it did. -/
def requestFormSpec : ChangeSpec := { name := "requestForm", fn := fun _ => fun
  | [d1, d2, d3, d4] => { results := [.lit (.bool true)], args := [d1, d2, d3, d4] }
  | _ => none }
def requestFormRow : OpenClaim := { program := "ytihngonemdaihaa", sum := "eb22c0ad2ad92d42938d5363dca24d048f064dac809b54304c3e1473d325c47d", func := "spillway/spillwaykeep.RequestForm", spec := "requestForm", apart := false }
def RequestFormSaid : Prop := requestFormRow.holds Try.pinned (OpenSpec.ofChange requestFormSpec)

/-- ITS FALSE NEIGHBOUR: 'it returns false'. Refute it at one input. -/
def requestFormWrong : ChangeSpec := { name := "requestForm", fn := fun _ => fun
  | [d1, d2, d3, d4] => { results := [.lit (.bool false)], args := [d1, d2, d3, d4] }
  | _ => none }
def RequestFormWrongFalsely : Prop := requestFormRow.holds Try.pinned (OpenSpec.ofChange requestFormWrong)

/- THE SECOND FORM. 'bulk': how many values and letters a reading holds, each counted each time it is reached (what is shared counts as often as it is met; a slice's spare places count too). A statement '..UptoSaid' is the law's where the arguments, and the package variables that the reading takes, are together of bulk at most 1048576: NARROWER than '..Said'. Prove '..Said' where nothing that the law and all that it calls make is longer than what came in: it says more and counts as full. Else prove '..UptoSaid'. A law counts once. -/
mutual
def uptoBulk {H : Type} : DataW H → Nat
  | .lit (.string bytes) => bytes.length + 1
  | .lit _ => 1
  | .nil => 1
  | .ptr d => uptoBulk d + 1
  | .slice elems spare => uptoBulkAll elems + uptoBulkAll spare + 1
  | .agg parts => uptoBulkAll parts + 1
  | .iface _ d => uptoBulk d + 1
  | .map entries => uptoBulkEntries entries + 1
  | .held _ => 1
def uptoBulkAll {H : Type} : List (DataW H) → Nat
  | [] => 0
  | d :: r => uptoBulk d + uptoBulkAll r
def uptoBulkEntries {H : Type} : List (Lit × DataW H) → Nat
  | [] => 0
  | x :: r => uptoBulkEntry x + uptoBulkEntries r
def uptoBulkEntry {H : Type} : Lit × DataW H → Nat
  | (.string bytes, d) => bytes.length + uptoBulk d + 1
  | (_, d) => uptoBulk d + 1
 end
def uptoSmall : (H : Type) → List (DataW H) → Bool := fun _ ds => decide (uptoBulkAll ds ≤ 1048576)
def OpenSpec.upto (s : _root_.Go.ChangeSpec) : _root_.Go.OpenSpec := { _root_.Go.OpenSpec.ofChange s with cond := some uptoSmall }

/-- 'spillwaykeep.RequestBack', WHERE WHAT IT READS IS OF BULK AT MOST 1048576: true; the input reads as it did. -/
def requestBackUptoRow : OpenClaim := { program := "ytihngonemdaihaa", sum := "eb22c0ad2ad92d42938d5363dca24d048f064dac809b54304c3e1473d325c47d", func := "spillway/spillwaykeep.RequestBack", spec := "requestBack", apart := false, narrowed := true }
def RequestBackUptoSaid : Prop := requestBackUptoRow.holds Try.pinned (OpenSpec.upto requestBackSpec)

/-- 'spillwaykeep.RequestWaits', WHERE WHAT IT READS IS OF BULK AT MOST 1048576: true; the input reads as it did. -/
def requestWaitsUptoRow : OpenClaim := { program := "ytihngonemdaihaa", sum := "eb22c0ad2ad92d42938d5363dca24d048f064dac809b54304c3e1473d325c47d", func := "spillway/spillwaykeep.RequestWaits", spec := "requestWaits", apart := false, narrowed := true }
def RequestWaitsUptoSaid : Prop := requestWaitsUptoRow.holds Try.pinned (OpenSpec.upto requestWaitsSpec)

/-- 'spillwaykeep.RequestForm', WHERE WHAT IT READS IS OF BULK AT MOST 1048576: true; the input reads as it did. -/
def requestFormUptoRow : OpenClaim := { program := "ytihngonemdaihaa", sum := "eb22c0ad2ad92d42938d5363dca24d048f064dac809b54304c3e1473d325c47d", func := "spillway/spillwaykeep.RequestForm", spec := "requestForm", apart := false, narrowed := true }
def RequestFormUptoSaid : Prop := requestFormUptoRow.holds Try.pinned (OpenSpec.upto requestFormSpec)

end Rows
end Go.Proofs.Ytihngonemdaihaa
