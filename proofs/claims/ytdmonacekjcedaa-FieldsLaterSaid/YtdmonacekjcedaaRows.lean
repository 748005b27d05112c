/-
  No cell of these rows narrows 'for every input' (looked for: loops, veiled, ifaces, maps, wideKeys, modest, calm, conditions, laid).
  DERIVED. THE GIVEN ROWS OF THIS SEAT. 4 by the template 'for every input the law returns true; each argument reads behind the call as it read before'; 0 by the template 'total and deterministic' (their statements: YtdmonacekjcedaaTotals.lean).
  GIVEN WITH THE SEED: the statements are not yours to turn. If you find one false, say at which input.
  Laid BY PROGRAM, IN A SANDBOX (cutbox-rows.mjs): the forced cells as the released guide's own fill.sh prints them over the translation 159a68064cdb371e… (all of the seat's roots in one cut). By AI agents, Wed Nov 11 2026. No macro, syntax, notation, axiom, sorry.
-/
import Derived.Test.YtdmonacekjcedaaChecked
import GoSem.Claim
import GoSem.ClaimJoined
import GoSem.ClaimMapViews
import Derived.JoinedTies
import Derived.KernelRfl
namespace Go.Proofs.Ytdmonacekjcedaa
/- THE CELL 'sum', in the pinned program and in every row, IS THE sha256 OF THE DUMP (.gsa) THAT YtdmonacekjcedaaProg.lean LOADS. Nothing in Lean hashes anything: it is a label: what it is worth is what the hold of that sum in a sandbox is worth. -/
noncomputable def Try.pinned : Pinned := { name := "ytdmonacekjcedaa", sum := "159a68064cdb371e10080bf66ef9479f4f370295a551e8c1a0271368501a3b7f", checked := Try.checked }
namespace Rows
def none {H : Type} : Left H := { results := [], args := [] }

/-- 'spillwaykeep.FieldsLater': WHATEVER THE INPUT: true; the input reads as it did. -/
def fieldsLaterSpec : ChangeSpec := { name := "fieldsLater", fn := fun _ => fun
  | [d1, d2, d3] => { results := [.lit (.bool true)], args := [d1, d2, d3] }
  | _ => none }
def fieldsLaterRow : OpenClaim := { program := "ytdmonacekjcedaa", sum := "159a68064cdb371e10080bf66ef9479f4f370295a551e8c1a0271368501a3b7f", func := "spillway/spillwaykeep.FieldsLater", spec := "fieldsLater", apart := false }
def FieldsLaterSaid : Prop := fieldsLaterRow.holds Try.pinned (OpenSpec.ofChange fieldsLaterSpec)

/-- ITS FALSE NEIGHBOUR: 'it returns false'. Refute it at one input. -/
def fieldsLaterWrong : ChangeSpec := { name := "fieldsLater", fn := fun _ => fun
  | [d1, d2, d3] => { results := [.lit (.bool false)], args := [d1, d2, d3] }
  | _ => none }
def FieldsLaterWrongFalsely : Prop := fieldsLaterRow.holds Try.pinned (OpenSpec.ofChange fieldsLaterWrong)

/-- 'spillwaykeep.FieldsKnown': WHATEVER THE INPUT: true; the input reads as it did. -/
def fieldsKnownSpec : ChangeSpec := { name := "fieldsKnown", fn := fun _ => fun
  | [d1, d2, d3, d4] => { results := [.lit (.bool true)], args := [d1, d2, d3, d4] }
  | _ => none }
def fieldsKnownRow : OpenClaim := { program := "ytdmonacekjcedaa", sum := "159a68064cdb371e10080bf66ef9479f4f370295a551e8c1a0271368501a3b7f", func := "spillway/spillwaykeep.FieldsKnown", spec := "fieldsKnown", apart := false }
def FieldsKnownSaid : Prop := fieldsKnownRow.holds Try.pinned (OpenSpec.ofChange fieldsKnownSpec)

/-- ITS FALSE NEIGHBOUR: 'it returns false'. Refute it at one input. -/
def fieldsKnownWrong : ChangeSpec := { name := "fieldsKnown", fn := fun _ => fun
  | [d1, d2, d3, d4] => { results := [.lit (.bool false)], args := [d1, d2, d3, d4] }
  | _ => none }
def FieldsKnownWrongFalsely : Prop := fieldsKnownRow.holds Try.pinned (OpenSpec.ofChange fieldsKnownWrong)

/-- 'spillwaykeep.FieldsBack': WHATEVER THE INPUT: true; the input reads as it did. -/
def fieldsBackSpec : ChangeSpec := { name := "fieldsBack", fn := fun _ => fun
  | [d1, d2, d3, d4] => { results := [.lit (.bool true)], args := [d1, d2, d3, d4] }
  | _ => none }
def fieldsBackRow : OpenClaim := { program := "ytdmonacekjcedaa", sum := "159a68064cdb371e10080bf66ef9479f4f370295a551e8c1a0271368501a3b7f", func := "spillway/spillwaykeep.FieldsBack", spec := "fieldsBack", apart := false }
def FieldsBackSaid : Prop := fieldsBackRow.holds Try.pinned (OpenSpec.ofChange fieldsBackSpec)

/-- ITS FALSE NEIGHBOUR: 'it returns false'. Refute it at one input. -/
def fieldsBackWrong : ChangeSpec := { name := "fieldsBack", fn := fun _ => fun
  | [d1, d2, d3, d4] => { results := [.lit (.bool false)], args := [d1, d2, d3, d4] }
  | _ => none }
def FieldsBackWrongFalsely : Prop := fieldsBackRow.holds Try.pinned (OpenSpec.ofChange fieldsBackWrong)

/-- 'spillwaykeep.FieldsWait': WHATEVER THE INPUT: true; the input reads as it did. -/
def fieldsWaitSpec : ChangeSpec := { name := "fieldsWait", fn := fun _ => fun
  | [d1, d2, d3, d4] => { results := [.lit (.bool true)], args := [d1, d2, d3, d4] }
  | _ => none }
def fieldsWaitRow : OpenClaim := { program := "ytdmonacekjcedaa", sum := "159a68064cdb371e10080bf66ef9479f4f370295a551e8c1a0271368501a3b7f", func := "spillway/spillwaykeep.FieldsWait", spec := "fieldsWait", apart := false }
def FieldsWaitSaid : Prop := fieldsWaitRow.holds Try.pinned (OpenSpec.ofChange fieldsWaitSpec)

/-- ITS FALSE NEIGHBOUR: 'it returns false'. Refute it at one input. -/
def fieldsWaitWrong : ChangeSpec := { name := "fieldsWait", fn := fun _ => fun
  | [d1, d2, d3, d4] => { results := [.lit (.bool false)], args := [d1, d2, d3, d4] }
  | _ => none }
def FieldsWaitWrongFalsely : Prop := fieldsWaitRow.holds Try.pinned (OpenSpec.ofChange fieldsWaitWrong)

/- THE SECOND FORM. 'bulk': how many values and letters a reading holds, each counted each time it is reached (what is shared counts as often as it is met; a slice's spare places count too). A statement '..UptoSaid' is the law's where the arguments, and the package variables that the reading takes, are together of bulk at most 1048576: NARROWER than '..Said'. Prove '..Said' where nothing that the law and all that it calls make is longer than what came in: it says more and counts as full. Else prove '..UptoSaid'. A law counts once. -/
mutual
def uptoBulk {H : Type} : DataW H → Nat
  | .lit (.string bytes) => bytes.length + 1
  | .lit _ => 1
  | .nil => 1
  | .ptr d => uptoBulk d + 1
  | .slice elems spare => uptoBulkAll elems + uptoBulkAll spare + 1
  | .agg parts => uptoBulkAll parts + 1
  | .iface _ d => uptoBulk d + 1
  | .map entries => uptoBulkEntries entries + 1
  | .held _ => 1
def uptoBulkAll {H : Type} : List (DataW H) → Nat
  | [] => 0
  | d :: r => uptoBulk d + uptoBulkAll r
def uptoBulkEntries {H : Type} : List (Lit × DataW H) → Nat
  | [] => 0
  | x :: r => uptoBulkEntry x + uptoBulkEntries r
def uptoBulkEntry {H : Type} : Lit × DataW H → Nat
  | (.string bytes, d) => bytes.length + uptoBulk d + 1
  | (_, d) => uptoBulk d + 1
 end
def uptoSmall : (H : Type) → List (DataW H) → Bool := fun _ ds => decide (uptoBulkAll ds ≤ 1048576)
def OpenSpec.upto (s : _root_.Go.ChangeSpec) : _root_.Go.OpenSpec := { _root_.Go.OpenSpec.ofChange s with cond := some uptoSmall }

/-- 'spillwaykeep.FieldsLater', WHERE WHAT IT READS IS OF BULK AT MOST 1048576: true; the input reads as it did. -/
def fieldsLaterUptoRow : OpenClaim := { program := "ytdmonacekjcedaa", sum := "159a68064cdb371e10080bf66ef9479f4f370295a551e8c1a0271368501a3b7f", func := "spillway/spillwaykeep.FieldsLater", spec := "fieldsLater", apart := false, narrowed := true }
def FieldsLaterUptoSaid : Prop := fieldsLaterUptoRow.holds Try.pinned (OpenSpec.upto fieldsLaterSpec)

/-- 'spillwaykeep.FieldsKnown', WHERE WHAT IT READS IS OF BULK AT MOST 1048576: true; the input reads as it did. -/
def fieldsKnownUptoRow : OpenClaim := { program := "ytdmonacekjcedaa", sum := "159a68064cdb371e10080bf66ef9479f4f370295a551e8c1a0271368501a3b7f", func := "spillway/spillwaykeep.FieldsKnown", spec := "fieldsKnown", apart := false, narrowed := true }
def FieldsKnownUptoSaid : Prop := fieldsKnownUptoRow.holds Try.pinned (OpenSpec.upto fieldsKnownSpec)

/-- 'spillwaykeep.FieldsBack', WHERE WHAT IT READS IS OF BULK AT MOST 1048576: true; the input reads as it did. -/
def fieldsBackUptoRow : OpenClaim := { program := "ytdmonacekjcedaa", sum := "159a68064cdb371e10080bf66ef9479f4f370295a551e8c1a0271368501a3b7f", func := "spillway/spillwaykeep.FieldsBack", spec := "fieldsBack", apart := false, narrowed := true }
def FieldsBackUptoSaid : Prop := fieldsBackUptoRow.holds Try.pinned (OpenSpec.upto fieldsBackSpec)

/-- 'spillwaykeep.FieldsWait', WHERE WHAT IT READS IS OF BULK AT MOST 1048576: true; the input reads as it did. -/
def fieldsWaitUptoRow : OpenClaim := { program := "ytdmonacekjcedaa", sum := "159a68064cdb371e10080bf66ef9479f4f370295a551e8c1a0271368501a3b7f", func := "spillway/spillwaykeep.FieldsWait", spec := "fieldsWait", apart := false, narrowed := true }
def FieldsWaitUptoSaid : Prop := fieldsWaitUptoRow.holds Try.pinned (OpenSpec.upto fieldsWaitSpec)

end Rows
end Go.Proofs.Ytdmonacekjcedaa
