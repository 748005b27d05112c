/-
  No cell of these rows narrows 'for every input' (looked for: loops, veiled, ifaces, maps, wideKeys, modest, calm, conditions, laid).
  DERIVED. THE GIVEN ROWS OF THIS SEAT. 9 by the template 'for every input the law returns true; each argument reads behind the call as it read before'; 0 by the template 'total and deterministic' (their statements: YtolhlgalhhdkmaaTotals.lean).
  GIVEN WITH THE SEED: the statements are not yours to turn. If you find one false, say at which input.
  Laid BY PROGRAM, IN A SANDBOX (cutbox-rows.mjs): the forced cells as the released guide's own fill.sh prints them over the translation eeb0b5608b28dae0… (all of the seat's roots in one cut). By AI agents, Wed Nov 11 2026. No macro, syntax, notation, axiom, sorry.
-/
import Derived.Test.YtolhlgalhhdkmaaChecked
import GoSem.Claim
import GoSem.ClaimJoined
import GoSem.ClaimMapViews
import Derived.JoinedTies
import Derived.KernelRfl
namespace Go.Proofs.Ytolhlgalhhdkmaa
/- THE CELL 'sum', in the pinned program and in every row, IS THE sha256 OF THE DUMP (.gsa) THAT YtolhlgalhhdkmaaProg.lean LOADS. Nothing in Lean hashes anything: it is a label: what it is worth is what the hold of that sum in a sandbox is worth. -/
noncomputable def Try.pinned : Pinned := { name := "ytolhlgalhhdkmaa", sum := "eeb0b5608b28dae0cddb4841a1f78bf2b0b16b3b5b5c51a01f74f3f3d9744119", checked := Try.checked }
namespace Rows
def none {H : Type} : Left H := { results := [], args := [] }

/-- 'spillwaykeep.TallyMost': WHATEVER THE INPUT: true; the input reads as it did. -/
def tallyMostSpec : ChangeSpec := { name := "tallyMost", fn := fun _ => fun
  | [d] => { results := [.lit (.bool true)], args := [d] }
  | _ => none }
def tallyMostRow : OpenClaim := { program := "ytolhlgalhhdkmaa", sum := "eeb0b5608b28dae0cddb4841a1f78bf2b0b16b3b5b5c51a01f74f3f3d9744119", func := "spillway/spillwaykeep.TallyMost", spec := "tallyMost", apart := false }
def TallyMostSaid : Prop := tallyMostRow.holds Try.pinned (OpenSpec.ofChange tallyMostSpec)

/-- ITS FALSE NEIGHBOUR: 'it returns false'. Refute it at one input. -/
def tallyMostWrong : ChangeSpec := { name := "tallyMost", fn := fun _ => fun
  | [d] => { results := [.lit (.bool false)], args := [d] }
  | _ => none }
def TallyMostWrongFalsely : Prop := tallyMostRow.holds Try.pinned (OpenSpec.ofChange tallyMostWrong)

/-- 'spillwaykeep.PaceGrows': WHATEVER THE INPUT: true; the input reads as it did. -/
def paceGrowsSpec : ChangeSpec := { name := "paceGrows", fn := fun _ => fun
  | [d1, d2] => { results := [.lit (.bool true)], args := [d1, d2] }
  | _ => none }
def paceGrowsRow : OpenClaim := { program := "ytolhlgalhhdkmaa", sum := "eeb0b5608b28dae0cddb4841a1f78bf2b0b16b3b5b5c51a01f74f3f3d9744119", func := "spillway/spillwaykeep.PaceGrows", spec := "paceGrows", apart := false }
def PaceGrowsSaid : Prop := paceGrowsRow.holds Try.pinned (OpenSpec.ofChange paceGrowsSpec)

/-- ITS FALSE NEIGHBOUR: 'it returns false'. Refute it at one input. -/
def paceGrowsWrong : ChangeSpec := { name := "paceGrows", fn := fun _ => fun
  | [d1, d2] => { results := [.lit (.bool false)], args := [d1, d2] }
  | _ => none }
def PaceGrowsWrongFalsely : Prop := paceGrowsRow.holds Try.pinned (OpenSpec.ofChange paceGrowsWrong)

/-- 'spillwaykeep.PaceSum': WHATEVER THE INPUT: true; the input reads as it did. -/
def paceSumSpec : ChangeSpec := { name := "paceSum", fn := fun _ => fun
  | [d] => { results := [.lit (.bool true)], args := [d] }
  | _ => none }
def paceSumRow : OpenClaim := { program := "ytolhlgalhhdkmaa", sum := "eeb0b5608b28dae0cddb4841a1f78bf2b0b16b3b5b5c51a01f74f3f3d9744119", func := "spillway/spillwaykeep.PaceSum", spec := "paceSum", apart := false }
def PaceSumSaid : Prop := paceSumRow.holds Try.pinned (OpenSpec.ofChange paceSumSpec)

/-- ITS FALSE NEIGHBOUR: 'it returns false'. Refute it at one input. -/
def paceSumWrong : ChangeSpec := { name := "paceSum", fn := fun _ => fun
  | [d] => { results := [.lit (.bool false)], args := [d] }
  | _ => none }
def PaceSumWrongFalsely : Prop := paceSumRow.holds Try.pinned (OpenSpec.ofChange paceSumWrong)

/-- 'spillwaykeep.PaceHalf': WHATEVER THE INPUT: true; the input reads as it did. -/
def paceHalfSpec : ChangeSpec := { name := "paceHalf", fn := fun _ => fun
  | [d1, d2, d3] => { results := [.lit (.bool true)], args := [d1, d2, d3] }
  | _ => none }
def paceHalfRow : OpenClaim := { program := "ytolhlgalhhdkmaa", sum := "eeb0b5608b28dae0cddb4841a1f78bf2b0b16b3b5b5c51a01f74f3f3d9744119", func := "spillway/spillwaykeep.PaceHalf", spec := "paceHalf", apart := false }
def PaceHalfSaid : Prop := paceHalfRow.holds Try.pinned (OpenSpec.ofChange paceHalfSpec)

/-- ITS FALSE NEIGHBOUR: 'it returns false'. Refute it at one input. -/
def paceHalfWrong : ChangeSpec := { name := "paceHalf", fn := fun _ => fun
  | [d1, d2, d3] => { results := [.lit (.bool false)], args := [d1, d2, d3] }
  | _ => none }
def PaceHalfWrongFalsely : Prop := paceHalfRow.holds Try.pinned (OpenSpec.ofChange paceHalfWrong)

/-- 'spillwaykeep.TableStays': WHATEVER THE INPUT: true; the input reads as it did. -/
def tableStaysSpec : ChangeSpec := { name := "tableStays", fn := fun _ => fun
  | [d1, d2, d3] => { results := [.lit (.bool true)], args := [d1, d2, d3] }
  | _ => none }
def tableStaysRow : OpenClaim := { program := "ytolhlgalhhdkmaa", sum := "eeb0b5608b28dae0cddb4841a1f78bf2b0b16b3b5b5c51a01f74f3f3d9744119", func := "spillway/spillwaykeep.TableStays", spec := "tableStays", apart := false }
def TableStaysSaid : Prop := tableStaysRow.holds Try.pinned (OpenSpec.ofChange tableStaysSpec)

/-- ITS FALSE NEIGHBOUR: 'it returns false'. Refute it at one input. -/
def tableStaysWrong : ChangeSpec := { name := "tableStays", fn := fun _ => fun
  | [d1, d2, d3] => { results := [.lit (.bool false)], args := [d1, d2, d3] }
  | _ => none }
def TableStaysWrongFalsely : Prop := tableStaysRow.holds Try.pinned (OpenSpec.ofChange tableStaysWrong)

/-- 'spillwaykeep.TableLast': WHATEVER THE INPUT: true; the input reads as it did. -/
def tableLastSpec : ChangeSpec := { name := "tableLast", fn := fun _ => fun
  | [d1, d2] => { results := [.lit (.bool true)], args := [d1, d2] }
  | _ => none }
def tableLastRow : OpenClaim := { program := "ytolhlgalhhdkmaa", sum := "eeb0b5608b28dae0cddb4841a1f78bf2b0b16b3b5b5c51a01f74f3f3d9744119", func := "spillway/spillwaykeep.TableLast", spec := "tableLast", apart := false }
def TableLastSaid : Prop := tableLastRow.holds Try.pinned (OpenSpec.ofChange tableLastSpec)

/-- ITS FALSE NEIGHBOUR: 'it returns false'. Refute it at one input. -/
def tableLastWrong : ChangeSpec := { name := "tableLast", fn := fun _ => fun
  | [d1, d2] => { results := [.lit (.bool false)], args := [d1, d2] }
  | _ => none }
def TableLastWrongFalsely : Prop := tableLastRow.holds Try.pinned (OpenSpec.ofChange tableLastWrong)

/-- 'spillwaykeep.TableSame': WHATEVER THE INPUT: true; the input reads as it did. -/
def tableSameSpec : ChangeSpec := { name := "tableSame", fn := fun _ => fun
  | [d1, d2, d3] => { results := [.lit (.bool true)], args := [d1, d2, d3] }
  | _ => none }
def tableSameRow : OpenClaim := { program := "ytolhlgalhhdkmaa", sum := "eeb0b5608b28dae0cddb4841a1f78bf2b0b16b3b5b5c51a01f74f3f3d9744119", func := "spillway/spillwaykeep.TableSame", spec := "tableSame", apart := false }
def TableSameSaid : Prop := tableSameRow.holds Try.pinned (OpenSpec.ofChange tableSameSpec)

/-- ITS FALSE NEIGHBOUR: 'it returns false'. Refute it at one input. -/
def tableSameWrong : ChangeSpec := { name := "tableSame", fn := fun _ => fun
  | [d1, d2, d3] => { results := [.lit (.bool false)], args := [d1, d2, d3] }
  | _ => none }
def TableSameWrongFalsely : Prop := tableSameRow.holds Try.pinned (OpenSpec.ofChange tableSameWrong)

/-- 'spillwaykeep.TableFinds': WHATEVER THE INPUT: true; the input reads as it did. -/
def tableFindsSpec : ChangeSpec := { name := "tableFinds", fn := fun _ => fun
  | [d1, d2, d3] => { results := [.lit (.bool true)], args := [d1, d2, d3] }
  | _ => none }
def tableFindsRow : OpenClaim := { program := "ytolhlgalhhdkmaa", sum := "eeb0b5608b28dae0cddb4841a1f78bf2b0b16b3b5b5c51a01f74f3f3d9744119", func := "spillway/spillwaykeep.TableFinds", spec := "tableFinds", apart := false }
def TableFindsSaid : Prop := tableFindsRow.holds Try.pinned (OpenSpec.ofChange tableFindsSpec)

/-- ITS FALSE NEIGHBOUR: 'it returns false'. Refute it at one input. -/
def tableFindsWrong : ChangeSpec := { name := "tableFinds", fn := fun _ => fun
  | [d1, d2, d3] => { results := [.lit (.bool false)], args := [d1, d2, d3] }
  | _ => none }
def TableFindsWrongFalsely : Prop := tableFindsRow.holds Try.pinned (OpenSpec.ofChange tableFindsWrong)

/-- 'spillwaykeep.TextBack': WHATEVER THE INPUT: true; the input reads as it did. -/
def textBackSpec : ChangeSpec := { name := "textBack", fn := fun _ => fun
  | [d1, d2, d3] => { results := [.lit (.bool true)], args := [d1, d2, d3] }
  | _ => none }
def textBackRow : OpenClaim := { program := "ytolhlgalhhdkmaa", sum := "eeb0b5608b28dae0cddb4841a1f78bf2b0b16b3b5b5c51a01f74f3f3d9744119", func := "spillway/spillwaykeep.TextBack", spec := "textBack", apart := false }
def TextBackSaid : Prop := textBackRow.holds Try.pinned (OpenSpec.ofChange textBackSpec)

/-- ITS FALSE NEIGHBOUR: 'it returns false'. Refute it at one input. -/
def textBackWrong : ChangeSpec := { name := "textBack", fn := fun _ => fun
  | [d1, d2, d3] => { results := [.lit (.bool false)], args := [d1, d2, d3] }
  | _ => none }
def TextBackWrongFalsely : Prop := textBackRow.holds Try.pinned (OpenSpec.ofChange textBackWrong)

/- THE SECOND FORM. 'bulk': how many values and letters a reading holds, each counted each time it is reached (what is shared counts as often as it is met; a slice's spare places count too). A statement '..UptoSaid' is the law's where the arguments, and the package variables that the reading takes, are together of bulk at most 1048576: NARROWER than '..Said'. Prove '..Said' where nothing that the law and all that it calls make is longer than what came in: it says more and counts as full. Else prove '..UptoSaid'. A law counts once. -/
mutual
def uptoBulk {H : Type} : DataW H → Nat
  | .lit (.string bytes) => bytes.length + 1
  | .lit _ => 1
  | .nil => 1
  | .ptr d => uptoBulk d + 1
  | .slice elems spare => uptoBulkAll elems + uptoBulkAll spare + 1
  | .agg parts => uptoBulkAll parts + 1
  | .iface _ d => uptoBulk d + 1
  | .map entries => uptoBulkEntries entries + 1
  | .held _ => 1
def uptoBulkAll {H : Type} : List (DataW H) → Nat
  | [] => 0
  | d :: r => uptoBulk d + uptoBulkAll r
def uptoBulkEntries {H : Type} : List (Lit × DataW H) → Nat
  | [] => 0
  | x :: r => uptoBulkEntry x + uptoBulkEntries r
def uptoBulkEntry {H : Type} : Lit × DataW H → Nat
  | (.string bytes, d) => bytes.length + uptoBulk d + 1
  | (_, d) => uptoBulk d + 1
 end
def uptoSmall : (H : Type) → List (DataW H) → Bool := fun _ ds => decide (uptoBulkAll ds ≤ 1048576)
def OpenSpec.upto (s : _root_.Go.ChangeSpec) : _root_.Go.OpenSpec := { _root_.Go.OpenSpec.ofChange s with cond := some uptoSmall }

/-- 'spillwaykeep.TallyMost', WHERE WHAT IT READS IS OF BULK AT MOST 1048576: true; the input reads as it did. -/
def tallyMostUptoRow : OpenClaim := { program := "ytolhlgalhhdkmaa", sum := "eeb0b5608b28dae0cddb4841a1f78bf2b0b16b3b5b5c51a01f74f3f3d9744119", func := "spillway/spillwaykeep.TallyMost", spec := "tallyMost", apart := false, narrowed := true }
def TallyMostUptoSaid : Prop := tallyMostUptoRow.holds Try.pinned (OpenSpec.upto tallyMostSpec)

/-- 'spillwaykeep.PaceGrows', WHERE WHAT IT READS IS OF BULK AT MOST 1048576: true; the input reads as it did. -/
def paceGrowsUptoRow : OpenClaim := { program := "ytolhlgalhhdkmaa", sum := "eeb0b5608b28dae0cddb4841a1f78bf2b0b16b3b5b5c51a01f74f3f3d9744119", func := "spillway/spillwaykeep.PaceGrows", spec := "paceGrows", apart := false, narrowed := true }
def PaceGrowsUptoSaid : Prop := paceGrowsUptoRow.holds Try.pinned (OpenSpec.upto paceGrowsSpec)

/-- 'spillwaykeep.PaceSum', WHERE WHAT IT READS IS OF BULK AT MOST 1048576: true; the input reads as it did. -/
def paceSumUptoRow : OpenClaim := { program := "ytolhlgalhhdkmaa", sum := "eeb0b5608b28dae0cddb4841a1f78bf2b0b16b3b5b5c51a01f74f3f3d9744119", func := "spillway/spillwaykeep.PaceSum", spec := "paceSum", apart := false, narrowed := true }
def PaceSumUptoSaid : Prop := paceSumUptoRow.holds Try.pinned (OpenSpec.upto paceSumSpec)

/-- 'spillwaykeep.PaceHalf', WHERE WHAT IT READS IS OF BULK AT MOST 1048576: true; the input reads as it did. -/
def paceHalfUptoRow : OpenClaim := { program := "ytolhlgalhhdkmaa", sum := "eeb0b5608b28dae0cddb4841a1f78bf2b0b16b3b5b5c51a01f74f3f3d9744119", func := "spillway/spillwaykeep.PaceHalf", spec := "paceHalf", apart := false, narrowed := true }
def PaceHalfUptoSaid : Prop := paceHalfUptoRow.holds Try.pinned (OpenSpec.upto paceHalfSpec)

/-- 'spillwaykeep.TableStays', WHERE WHAT IT READS IS OF BULK AT MOST 1048576: true; the input reads as it did. -/
def tableStaysUptoRow : OpenClaim := { program := "ytolhlgalhhdkmaa", sum := "eeb0b5608b28dae0cddb4841a1f78bf2b0b16b3b5b5c51a01f74f3f3d9744119", func := "spillway/spillwaykeep.TableStays", spec := "tableStays", apart := false, narrowed := true }
def TableStaysUptoSaid : Prop := tableStaysUptoRow.holds Try.pinned (OpenSpec.upto tableStaysSpec)

/-- 'spillwaykeep.TableLast', WHERE WHAT IT READS IS OF BULK AT MOST 1048576: true; the input reads as it did. -/
def tableLastUptoRow : OpenClaim := { program := "ytolhlgalhhdkmaa", sum := "eeb0b5608b28dae0cddb4841a1f78bf2b0b16b3b5b5c51a01f74f3f3d9744119", func := "spillway/spillwaykeep.TableLast", spec := "tableLast", apart := false, narrowed := true }
def TableLastUptoSaid : Prop := tableLastUptoRow.holds Try.pinned (OpenSpec.upto tableLastSpec)

/-- 'spillwaykeep.TableSame', WHERE WHAT IT READS IS OF BULK AT MOST 1048576: true; the input reads as it did. -/
def tableSameUptoRow : OpenClaim := { program := "ytolhlgalhhdkmaa", sum := "eeb0b5608b28dae0cddb4841a1f78bf2b0b16b3b5b5c51a01f74f3f3d9744119", func := "spillway/spillwaykeep.TableSame", spec := "tableSame", apart := false, narrowed := true }
def TableSameUptoSaid : Prop := tableSameUptoRow.holds Try.pinned (OpenSpec.upto tableSameSpec)

/-- 'spillwaykeep.TableFinds', WHERE WHAT IT READS IS OF BULK AT MOST 1048576: true; the input reads as it did. -/
def tableFindsUptoRow : OpenClaim := { program := "ytolhlgalhhdkmaa", sum := "eeb0b5608b28dae0cddb4841a1f78bf2b0b16b3b5b5c51a01f74f3f3d9744119", func := "spillway/spillwaykeep.TableFinds", spec := "tableFinds", apart := false, narrowed := true }
def TableFindsUptoSaid : Prop := tableFindsUptoRow.holds Try.pinned (OpenSpec.upto tableFindsSpec)

/-- 'spillwaykeep.TextBack', WHERE WHAT IT READS IS OF BULK AT MOST 1048576: true; the input reads as it did. -/
def textBackUptoRow : OpenClaim := { program := "ytolhlgalhhdkmaa", sum := "eeb0b5608b28dae0cddb4841a1f78bf2b0b16b3b5b5c51a01f74f3f3d9744119", func := "spillway/spillwaykeep.TextBack", spec := "textBack", apart := false, narrowed := true }
def TextBackUptoSaid : Prop := textBackUptoRow.holds Try.pinned (OpenSpec.upto textBackSpec)

end Rows
end Go.Proofs.Ytolhlgalhhdkmaa
