/-
  No cell of these rows narrows 'for every input' (looked for: loops, veiled, ifaces, maps, wideKeys, modest, calm, conditions, laid).
  DERIVED. THE GIVEN ROWS OF THIS SEAT. 9 by the template 'for every input the law returns true; each argument reads behind the call as it read before'; 0 by the template 'total and deterministic' (their statements: YtolhlgalhhdkmabTotals.lean).
  GIVEN WITH THE SEED: the statements are not yours to turn. If you find one false, say at which input.
  Laid BY PROGRAM, IN A SANDBOX (cutbox-rows.mjs): the forced cells as the released guide's own fill.sh prints them over the translation d14a3b0ba5c3b3c8… (all of the seat's roots in one cut). By AI agents, Wed Nov 11 2026. No macro, syntax, notation, axiom, sorry.
-/
import Derived.Test.YtolhlgalhhdkmabChecked
import GoSem.Claim
import GoSem.ClaimJoined
import GoSem.ClaimMapViews
import Derived.JoinedTies
import Derived.KernelRfl
namespace Go.Proofs.Ytolhlgalhhdkmab
/- THE CELL 'sum', in the pinned program and in every row, IS THE sha256 OF THE DUMP (.gsa) THAT YtolhlgalhhdkmabProg.lean LOADS. Nothing in Lean hashes anything: it is a label: what it is worth is what the hold of that sum in a sandbox is worth. -/
noncomputable def Try.pinned : Pinned := { name := "ytolhlgalhhdkmab", sum := "d14a3b0ba5c3b3c88980c35d99cba9c78850203c03a160ec9a05825c2a59fd33", checked := Try.checked }
namespace Rows
def none {H : Type} : Left H := { results := [], args := [] }

/-- 'spillwaykeep.RangesNote': WHATEVER THE INPUT: true; the input reads as it did. -/
def rangesNoteSpec : ChangeSpec := { name := "rangesNote", fn := fun _ => fun
  | [d1, d2] => { results := [.lit (.bool true)], args := [d1, d2] }
  | _ => none }
def rangesNoteRow : OpenClaim := { program := "ytolhlgalhhdkmab", sum := "d14a3b0ba5c3b3c88980c35d99cba9c78850203c03a160ec9a05825c2a59fd33", func := "spillway/spillwaykeep.RangesNote", spec := "rangesNote", apart := false }
def RangesNoteSaid : Prop := rangesNoteRow.holds Try.pinned (OpenSpec.ofChange rangesNoteSpec)

/-- ITS FALSE NEIGHBOUR: 'it returns false'. Refute it at one input. -/
def rangesNoteWrong : ChangeSpec := { name := "rangesNote", fn := fun _ => fun
  | [d1, d2] => { results := [.lit (.bool false)], args := [d1, d2] }
  | _ => none }
def RangesNoteWrongFalsely : Prop := rangesNoteRow.holds Try.pinned (OpenSpec.ofChange rangesNoteWrong)

/-- 'spillwaykeep.RangesSet': WHATEVER THE INPUT: true; the input reads as it did. -/
def rangesSetSpec : ChangeSpec := { name := "rangesSet", fn := fun _ => fun
  | [d1, d2, d3, d4] => { results := [.lit (.bool true)], args := [d1, d2, d3, d4] }
  | _ => none }
def rangesSetRow : OpenClaim := { program := "ytolhlgalhhdkmab", sum := "d14a3b0ba5c3b3c88980c35d99cba9c78850203c03a160ec9a05825c2a59fd33", func := "spillway/spillwaykeep.RangesSet", spec := "rangesSet", apart := false }
def RangesSetSaid : Prop := rangesSetRow.holds Try.pinned (OpenSpec.ofChange rangesSetSpec)

/-- ITS FALSE NEIGHBOUR: 'it returns false'. Refute it at one input. -/
def rangesSetWrong : ChangeSpec := { name := "rangesSet", fn := fun _ => fun
  | [d1, d2, d3, d4] => { results := [.lit (.bool false)], args := [d1, d2, d3, d4] }
  | _ => none }
def RangesSetWrongFalsely : Prop := rangesSetRow.holds Try.pinned (OpenSpec.ofChange rangesSetWrong)

/-- 'spillwaykeep.RangesOrder': WHATEVER THE INPUT: true; the input reads as it did. -/
def rangesOrderSpec : ChangeSpec := { name := "rangesOrder", fn := fun _ => fun
  | [d1, d2, d3, d4, d5] => { results := [.lit (.bool true)], args := [d1, d2, d3, d4, d5] }
  | _ => none }
def rangesOrderRow : OpenClaim := { program := "ytolhlgalhhdkmab", sum := "d14a3b0ba5c3b3c88980c35d99cba9c78850203c03a160ec9a05825c2a59fd33", func := "spillway/spillwaykeep.RangesOrder", spec := "rangesOrder", apart := false }
def RangesOrderSaid : Prop := rangesOrderRow.holds Try.pinned (OpenSpec.ofChange rangesOrderSpec)

/-- ITS FALSE NEIGHBOUR: 'it returns false'. Refute it at one input. -/
def rangesOrderWrong : ChangeSpec := { name := "rangesOrder", fn := fun _ => fun
  | [d1, d2, d3, d4, d5] => { results := [.lit (.bool false)], args := [d1, d2, d3, d4, d5] }
  | _ => none }
def RangesOrderWrongFalsely : Prop := rangesOrderRow.holds Try.pinned (OpenSpec.ofChange rangesOrderWrong)

/-- 'spillwaykeep.RangesBack': WHATEVER THE INPUT: true; the input reads as it did. -/
def rangesBackSpec : ChangeSpec := { name := "rangesBack", fn := fun _ => fun
  | [d1, d2, d3] => { results := [.lit (.bool true)], args := [d1, d2, d3] }
  | _ => none }
def rangesBackRow : OpenClaim := { program := "ytolhlgalhhdkmab", sum := "d14a3b0ba5c3b3c88980c35d99cba9c78850203c03a160ec9a05825c2a59fd33", func := "spillway/spillwaykeep.RangesBack", spec := "rangesBack", apart := false }
def RangesBackSaid : Prop := rangesBackRow.holds Try.pinned (OpenSpec.ofChange rangesBackSpec)

/-- ITS FALSE NEIGHBOUR: 'it returns false'. Refute it at one input. -/
def rangesBackWrong : ChangeSpec := { name := "rangesBack", fn := fun _ => fun
  | [d1, d2, d3] => { results := [.lit (.bool false)], args := [d1, d2, d3] }
  | _ => none }
def RangesBackWrongFalsely : Prop := rangesBackRow.holds Try.pinned (OpenSpec.ofChange rangesBackWrong)

/-- 'spillwaykeep.RangesHoles': WHATEVER THE INPUT: true; the input reads as it did. -/
def rangesHolesSpec : ChangeSpec := { name := "rangesHoles", fn := fun _ => fun
  | [d1, d2, d3, d4] => { results := [.lit (.bool true)], args := [d1, d2, d3, d4] }
  | _ => none }
def rangesHolesRow : OpenClaim := { program := "ytolhlgalhhdkmab", sum := "d14a3b0ba5c3b3c88980c35d99cba9c78850203c03a160ec9a05825c2a59fd33", func := "spillway/spillwaykeep.RangesHoles", spec := "rangesHoles", apart := false }
def RangesHolesSaid : Prop := rangesHolesRow.holds Try.pinned (OpenSpec.ofChange rangesHolesSpec)

/-- ITS FALSE NEIGHBOUR: 'it returns false'. Refute it at one input. -/
def rangesHolesWrong : ChangeSpec := { name := "rangesHoles", fn := fun _ => fun
  | [d1, d2, d3, d4] => { results := [.lit (.bool false)], args := [d1, d2, d3, d4] }
  | _ => none }
def RangesHolesWrongFalsely : Prop := rangesHolesRow.holds Try.pinned (OpenSpec.ofChange rangesHolesWrong)

/-- 'spillwaykeep.GatherAll': WHATEVER THE INPUT: true; the input reads as it did. -/
def gatherAllSpec : ChangeSpec := { name := "gatherAll", fn := fun _ => fun
  | [d1, d2, d3] => { results := [.lit (.bool true)], args := [d1, d2, d3] }
  | _ => none }
def gatherAllRow : OpenClaim := { program := "ytolhlgalhhdkmab", sum := "d14a3b0ba5c3b3c88980c35d99cba9c78850203c03a160ec9a05825c2a59fd33", func := "spillway/spillwaykeep.GatherAll", spec := "gatherAll", unfollowed := true, recurses := true, apart := false }
def GatherAllSaid : Prop := gatherAllRow.holds Try.pinned (OpenSpec.ofChange gatherAllSpec)

/-- ITS FALSE NEIGHBOUR: 'it returns false'. Refute it at one input. -/
def gatherAllWrong : ChangeSpec := { name := "gatherAll", fn := fun _ => fun
  | [d1, d2, d3] => { results := [.lit (.bool false)], args := [d1, d2, d3] }
  | _ => none }
def GatherAllWrongFalsely : Prop := gatherAllRow.holds Try.pinned (OpenSpec.ofChange gatherAllWrong)

/-- 'spillwaykeep.GatherFirst': WHATEVER THE INPUT: true; the input reads as it did. -/
def gatherFirstSpec : ChangeSpec := { name := "gatherFirst", fn := fun _ => fun
  | [d1, d2, d3, d4, d5] => { results := [.lit (.bool true)], args := [d1, d2, d3, d4, d5] }
  | _ => none }
def gatherFirstRow : OpenClaim := { program := "ytolhlgalhhdkmab", sum := "d14a3b0ba5c3b3c88980c35d99cba9c78850203c03a160ec9a05825c2a59fd33", func := "spillway/spillwaykeep.GatherFirst", spec := "gatherFirst", unfollowed := true, recurses := true, apart := false }
def GatherFirstSaid : Prop := gatherFirstRow.holds Try.pinned (OpenSpec.ofChange gatherFirstSpec)

/-- ITS FALSE NEIGHBOUR: 'it returns false'. Refute it at one input. -/
def gatherFirstWrong : ChangeSpec := { name := "gatherFirst", fn := fun _ => fun
  | [d1, d2, d3, d4, d5] => { results := [.lit (.bool false)], args := [d1, d2, d3, d4, d5] }
  | _ => none }
def GatherFirstWrongFalsely : Prop := gatherFirstRow.holds Try.pinned (OpenSpec.ofChange gatherFirstWrong)

/-- 'spillwaykeep.GatherEnd': WHATEVER THE INPUT: true; the input reads as it did. -/
def gatherEndSpec : ChangeSpec := { name := "gatherEnd", fn := fun _ => fun
  | [d1, d2, d3] => { results := [.lit (.bool true)], args := [d1, d2, d3] }
  | _ => none }
def gatherEndRow : OpenClaim := { program := "ytolhlgalhhdkmab", sum := "d14a3b0ba5c3b3c88980c35d99cba9c78850203c03a160ec9a05825c2a59fd33", func := "spillway/spillwaykeep.GatherEnd", spec := "gatherEnd", unfollowed := true, recurses := true, apart := false }
def GatherEndSaid : Prop := gatherEndRow.holds Try.pinned (OpenSpec.ofChange gatherEndSpec)

/-- ITS FALSE NEIGHBOUR: 'it returns false'. Refute it at one input. -/
def gatherEndWrong : ChangeSpec := { name := "gatherEnd", fn := fun _ => fun
  | [d1, d2, d3] => { results := [.lit (.bool false)], args := [d1, d2, d3] }
  | _ => none }
def GatherEndWrongFalsely : Prop := gatherEndRow.holds Try.pinned (OpenSpec.ofChange gatherEndWrong)

/-- 'spillwaykeep.GatherGaps': WHATEVER THE INPUT: true; the input reads as it did. -/
def gatherGapsSpec : ChangeSpec := { name := "gatherGaps", fn := fun _ => fun
  | [d1, d2] => { results := [.lit (.bool true)], args := [d1, d2] }
  | _ => none }
def gatherGapsRow : OpenClaim := { program := "ytolhlgalhhdkmab", sum := "d14a3b0ba5c3b3c88980c35d99cba9c78850203c03a160ec9a05825c2a59fd33", func := "spillway/spillwaykeep.GatherGaps", spec := "gatherGaps", unfollowed := true, recurses := true, apart := false }
def GatherGapsSaid : Prop := gatherGapsRow.holds Try.pinned (OpenSpec.ofChange gatherGapsSpec)

/-- ITS FALSE NEIGHBOUR: 'it returns false'. Refute it at one input. -/
def gatherGapsWrong : ChangeSpec := { name := "gatherGaps", fn := fun _ => fun
  | [d1, d2] => { results := [.lit (.bool false)], args := [d1, d2] }
  | _ => none }
def GatherGapsWrongFalsely : Prop := gatherGapsRow.holds Try.pinned (OpenSpec.ofChange gatherGapsWrong)

/- THE SECOND FORM. 'bulk': how many values and letters a reading holds, each counted each time it is reached (what is shared counts as often as it is met; a slice's spare places count too). A statement '..UptoSaid' is the law's where the arguments, and the package variables that the reading takes, are together of bulk at most 1048576: NARROWER than '..Said'. Prove '..Said' where nothing that the law and all that it calls make is longer than what came in: it says more and counts as full. Else prove '..UptoSaid'. A law counts once. -/
mutual
def uptoBulk {H : Type} : DataW H → Nat
  | .lit (.string bytes) => bytes.length + 1
  | .lit _ => 1
  | .nil => 1
  | .ptr d => uptoBulk d + 1
  | .slice elems spare => uptoBulkAll elems + uptoBulkAll spare + 1
  | .agg parts => uptoBulkAll parts + 1
  | .iface _ d => uptoBulk d + 1
  | .map entries => uptoBulkEntries entries + 1
  | .held _ => 1
def uptoBulkAll {H : Type} : List (DataW H) → Nat
  | [] => 0
  | d :: r => uptoBulk d + uptoBulkAll r
def uptoBulkEntries {H : Type} : List (Lit × DataW H) → Nat
  | [] => 0
  | x :: r => uptoBulkEntry x + uptoBulkEntries r
def uptoBulkEntry {H : Type} : Lit × DataW H → Nat
  | (.string bytes, d) => bytes.length + uptoBulk d + 1
  | (_, d) => uptoBulk d + 1
 end
def uptoSmall : (H : Type) → List (DataW H) → Bool := fun _ ds => decide (uptoBulkAll ds ≤ 1048576)
def OpenSpec.upto (s : _root_.Go.ChangeSpec) : _root_.Go.OpenSpec := { _root_.Go.OpenSpec.ofChange s with cond := some uptoSmall }

/-- 'spillwaykeep.RangesNote', WHERE WHAT IT READS IS OF BULK AT MOST 1048576: true; the input reads as it did. -/
def rangesNoteUptoRow : OpenClaim := { program := "ytolhlgalhhdkmab", sum := "d14a3b0ba5c3b3c88980c35d99cba9c78850203c03a160ec9a05825c2a59fd33", func := "spillway/spillwaykeep.RangesNote", spec := "rangesNote", apart := false, narrowed := true }
def RangesNoteUptoSaid : Prop := rangesNoteUptoRow.holds Try.pinned (OpenSpec.upto rangesNoteSpec)

/-- 'spillwaykeep.RangesSet', WHERE WHAT IT READS IS OF BULK AT MOST 1048576: true; the input reads as it did. -/
def rangesSetUptoRow : OpenClaim := { program := "ytolhlgalhhdkmab", sum := "d14a3b0ba5c3b3c88980c35d99cba9c78850203c03a160ec9a05825c2a59fd33", func := "spillway/spillwaykeep.RangesSet", spec := "rangesSet", apart := false, narrowed := true }
def RangesSetUptoSaid : Prop := rangesSetUptoRow.holds Try.pinned (OpenSpec.upto rangesSetSpec)

/-- 'spillwaykeep.RangesOrder', WHERE WHAT IT READS IS OF BULK AT MOST 1048576: true; the input reads as it did. -/
def rangesOrderUptoRow : OpenClaim := { program := "ytolhlgalhhdkmab", sum := "d14a3b0ba5c3b3c88980c35d99cba9c78850203c03a160ec9a05825c2a59fd33", func := "spillway/spillwaykeep.RangesOrder", spec := "rangesOrder", apart := false, narrowed := true }
def RangesOrderUptoSaid : Prop := rangesOrderUptoRow.holds Try.pinned (OpenSpec.upto rangesOrderSpec)

/-- 'spillwaykeep.RangesBack', WHERE WHAT IT READS IS OF BULK AT MOST 1048576: true; the input reads as it did. -/
def rangesBackUptoRow : OpenClaim := { program := "ytolhlgalhhdkmab", sum := "d14a3b0ba5c3b3c88980c35d99cba9c78850203c03a160ec9a05825c2a59fd33", func := "spillway/spillwaykeep.RangesBack", spec := "rangesBack", apart := false, narrowed := true }
def RangesBackUptoSaid : Prop := rangesBackUptoRow.holds Try.pinned (OpenSpec.upto rangesBackSpec)

/-- 'spillwaykeep.RangesHoles', WHERE WHAT IT READS IS OF BULK AT MOST 1048576: true; the input reads as it did. -/
def rangesHolesUptoRow : OpenClaim := { program := "ytolhlgalhhdkmab", sum := "d14a3b0ba5c3b3c88980c35d99cba9c78850203c03a160ec9a05825c2a59fd33", func := "spillway/spillwaykeep.RangesHoles", spec := "rangesHoles", apart := false, narrowed := true }
def RangesHolesUptoSaid : Prop := rangesHolesUptoRow.holds Try.pinned (OpenSpec.upto rangesHolesSpec)

/-- 'spillwaykeep.GatherAll', WHERE WHAT IT READS IS OF BULK AT MOST 1048576: true; the input reads as it did. -/
def gatherAllUptoRow : OpenClaim := { program := "ytolhlgalhhdkmab", sum := "d14a3b0ba5c3b3c88980c35d99cba9c78850203c03a160ec9a05825c2a59fd33", func := "spillway/spillwaykeep.GatherAll", spec := "gatherAll", unfollowed := true, recurses := true, apart := false, narrowed := true }
def GatherAllUptoSaid : Prop := gatherAllUptoRow.holds Try.pinned (OpenSpec.upto gatherAllSpec)

/-- 'spillwaykeep.GatherFirst', WHERE WHAT IT READS IS OF BULK AT MOST 1048576: true; the input reads as it did. -/
def gatherFirstUptoRow : OpenClaim := { program := "ytolhlgalhhdkmab", sum := "d14a3b0ba5c3b3c88980c35d99cba9c78850203c03a160ec9a05825c2a59fd33", func := "spillway/spillwaykeep.GatherFirst", spec := "gatherFirst", unfollowed := true, recurses := true, apart := false, narrowed := true }
def GatherFirstUptoSaid : Prop := gatherFirstUptoRow.holds Try.pinned (OpenSpec.upto gatherFirstSpec)

/-- 'spillwaykeep.GatherEnd', WHERE WHAT IT READS IS OF BULK AT MOST 1048576: true; the input reads as it did. -/
def gatherEndUptoRow : OpenClaim := { program := "ytolhlgalhhdkmab", sum := "d14a3b0ba5c3b3c88980c35d99cba9c78850203c03a160ec9a05825c2a59fd33", func := "spillway/spillwaykeep.GatherEnd", spec := "gatherEnd", unfollowed := true, recurses := true, apart := false, narrowed := true }
def GatherEndUptoSaid : Prop := gatherEndUptoRow.holds Try.pinned (OpenSpec.upto gatherEndSpec)

/-- 'spillwaykeep.GatherGaps', WHERE WHAT IT READS IS OF BULK AT MOST 1048576: true; the input reads as it did. -/
def gatherGapsUptoRow : OpenClaim := { program := "ytolhlgalhhdkmab", sum := "d14a3b0ba5c3b3c88980c35d99cba9c78850203c03a160ec9a05825c2a59fd33", func := "spillway/spillwaykeep.GatherGaps", spec := "gatherGaps", unfollowed := true, recurses := true, apart := false, narrowed := true }
def GatherGapsUptoSaid : Prop := gatherGapsUptoRow.holds Try.pinned (OpenSpec.upto gatherGapsSpec)

end Rows
end Go.Proofs.Ytolhlgalhhdkmab
