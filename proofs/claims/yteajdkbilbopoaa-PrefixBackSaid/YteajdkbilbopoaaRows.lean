/-
  No cell of these rows narrows 'for every input' (looked for: loops, veiled, ifaces, maps, wideKeys, modest, calm, conditions, laid).
  DERIVED. THE GIVEN ROWS OF THIS SEAT. 16 by the template 'for every input the law returns true; each argument reads behind the call as it read before'; 0 by the template 'total and deterministic' (their statements: YteajdkbilbopoaaTotals.lean).
  GIVEN WITH THE SEED: the statements are not yours to turn. If you find one false, say at which input.
  Laid BY PROGRAM, IN A SANDBOX (cutbox-rows.mjs): the forced cells as the released guide's own fill.sh prints them over the translation 967fca3699e3d8f4… (all of the seat's roots in one cut). By AI agents, Wed Nov 11 2026. No macro, syntax, notation, axiom, sorry.
-/
import Derived.Test.YteajdkbilbopoaaChecked
import GoSem.Claim
import GoSem.ClaimJoined
import GoSem.ClaimMapViews
import Derived.JoinedTies
import Derived.KernelRfl
namespace Go.Proofs.Yteajdkbilbopoaa
/- THE CELL 'sum', in the pinned program and in every row, IS THE sha256 OF THE DUMP (.gsa) THAT YteajdkbilbopoaaProg.lean LOADS. Nothing in Lean hashes anything: it is a label: what it is worth is what the hold of that sum in a sandbox is worth. -/
noncomputable def Try.pinned : Pinned := { name := "yteajdkbilbopoaa", sum := "967fca3699e3d8f4f50df0bf97c9e7dc72864f837709e2397063dd7ec0f30172", checked := Try.checked }
namespace Rows
def none {H : Type} : Left H := { results := [], args := [] }

/-- 'spillwaykeep.MixApart': WHATEVER THE INPUT: true; the input reads as it did. -/
def mixApartSpec : ChangeSpec := { name := "mixApart", fn := fun _ => fun
  | [d1, d2, d3] => { results := [.lit (.bool true)], args := [d1, d2, d3] }
  | _ => none }
def mixApartRow : OpenClaim := { program := "yteajdkbilbopoaa", sum := "967fca3699e3d8f4f50df0bf97c9e7dc72864f837709e2397063dd7ec0f30172", func := "spillway/spillwaykeep.MixApart", spec := "mixApart", apart := false }
def MixApartSaid : Prop := mixApartRow.holds Try.pinned (OpenSpec.ofChange mixApartSpec)

/-- ITS FALSE NEIGHBOUR: 'it returns false'. Refute it at one input. -/
def mixApartWrong : ChangeSpec := { name := "mixApart", fn := fun _ => fun
  | [d1, d2, d3] => { results := [.lit (.bool false)], args := [d1, d2, d3] }
  | _ => none }
def MixApartWrongFalsely : Prop := mixApartRow.holds Try.pinned (OpenSpec.ofChange mixApartWrong)

/-- 'spillwaykeep.VarLeast': WHATEVER THE INPUT: true; the input reads as it did. -/
def varLeastSpec : ChangeSpec := { name := "varLeast", fn := fun _ => fun
  | [d1, d2] => { results := [.lit (.bool true)], args := [d1, d2] }
  | _ => none }
def varLeastRow : OpenClaim := { program := "yteajdkbilbopoaa", sum := "967fca3699e3d8f4f50df0bf97c9e7dc72864f837709e2397063dd7ec0f30172", func := "spillway/spillwaykeep.VarLeast", spec := "varLeast", apart := false }
def VarLeastSaid : Prop := varLeastRow.holds Try.pinned (OpenSpec.ofChange varLeastSpec)

/-- ITS FALSE NEIGHBOUR: 'it returns false'. Refute it at one input. -/
def varLeastWrong : ChangeSpec := { name := "varLeast", fn := fun _ => fun
  | [d1, d2] => { results := [.lit (.bool false)], args := [d1, d2] }
  | _ => none }
def VarLeastWrongFalsely : Prop := varLeastRow.holds Try.pinned (OpenSpec.ofChange varLeastWrong)

/-- 'spillwaykeep.SessionApart': WHATEVER THE INPUT: true; the input reads as it did. -/
def sessionApartSpec : ChangeSpec := { name := "sessionApart", fn := fun _ => fun
  | [d1, d2, d3, d4] => { results := [.lit (.bool true)], args := [d1, d2, d3, d4] }
  | _ => none }
def sessionApartRow : OpenClaim := { program := "yteajdkbilbopoaa", sum := "967fca3699e3d8f4f50df0bf97c9e7dc72864f837709e2397063dd7ec0f30172", func := "spillway/spillwaykeep.SessionApart", spec := "sessionApart", apart := false }
def SessionApartSaid : Prop := sessionApartRow.holds Try.pinned (OpenSpec.ofChange sessionApartSpec)

/-- ITS FALSE NEIGHBOUR: 'it returns false'. Refute it at one input. -/
def sessionApartWrong : ChangeSpec := { name := "sessionApart", fn := fun _ => fun
  | [d1, d2, d3, d4] => { results := [.lit (.bool false)], args := [d1, d2, d3, d4] }
  | _ => none }
def SessionApartWrongFalsely : Prop := sessionApartRow.holds Try.pinned (OpenSpec.ofChange sessionApartWrong)

/-- 'spillwaykeep.NumberShort': WHATEVER THE INPUT: true; the input reads as it did. -/
def numberShortSpec : ChangeSpec := { name := "numberShort", fn := fun _ => fun
  | [d1, d2] => { results := [.lit (.bool true)], args := [d1, d2] }
  | _ => none }
def numberShortRow : OpenClaim := { program := "yteajdkbilbopoaa", sum := "967fca3699e3d8f4f50df0bf97c9e7dc72864f837709e2397063dd7ec0f30172", func := "spillway/spillwaykeep.NumberShort", spec := "numberShort", apart := false }
def NumberShortSaid : Prop := numberShortRow.holds Try.pinned (OpenSpec.ofChange numberShortSpec)

/-- ITS FALSE NEIGHBOUR: 'it returns false'. Refute it at one input. -/
def numberShortWrong : ChangeSpec := { name := "numberShort", fn := fun _ => fun
  | [d1, d2] => { results := [.lit (.bool false)], args := [d1, d2] }
  | _ => none }
def NumberShortWrongFalsely : Prop := numberShortRow.holds Try.pinned (OpenSpec.ofChange numberShortWrong)

/-- 'spillwaykeep.TokenApart': WHATEVER THE INPUT: true; the input reads as it did. -/
def tokenApartSpec : ChangeSpec := { name := "tokenApart", fn := fun _ => fun
  | [d1, d2, d3, d4, d5] => { results := [.lit (.bool true)], args := [d1, d2, d3, d4, d5] }
  | _ => none }
def tokenApartRow : OpenClaim := { program := "yteajdkbilbopoaa", sum := "967fca3699e3d8f4f50df0bf97c9e7dc72864f837709e2397063dd7ec0f30172", func := "spillway/spillwaykeep.TokenApart", spec := "tokenApart", apart := false }
def TokenApartSaid : Prop := tokenApartRow.holds Try.pinned (OpenSpec.ofChange tokenApartSpec)

/-- ITS FALSE NEIGHBOUR: 'it returns false'. Refute it at one input. -/
def tokenApartWrong : ChangeSpec := { name := "tokenApart", fn := fun _ => fun
  | [d1, d2, d3, d4, d5] => { results := [.lit (.bool false)], args := [d1, d2, d3, d4, d5] }
  | _ => none }
def TokenApartWrongFalsely : Prop := tokenApartRow.holds Try.pinned (OpenSpec.ofChange tokenApartWrong)

/-- 'spillwaykeep.NumberNear': WHATEVER THE INPUT: true; the input reads as it did. -/
def numberNearSpec : ChangeSpec := { name := "numberNear", fn := fun _ => fun
  | [d1, d2] => { results := [.lit (.bool true)], args := [d1, d2] }
  | _ => none }
def numberNearRow : OpenClaim := { program := "yteajdkbilbopoaa", sum := "967fca3699e3d8f4f50df0bf97c9e7dc72864f837709e2397063dd7ec0f30172", func := "spillway/spillwaykeep.NumberNear", spec := "numberNear", apart := false }
def NumberNearSaid : Prop := numberNearRow.holds Try.pinned (OpenSpec.ofChange numberNearSpec)

/-- ITS FALSE NEIGHBOUR: 'it returns false'. Refute it at one input. -/
def numberNearWrong : ChangeSpec := { name := "numberNear", fn := fun _ => fun
  | [d1, d2] => { results := [.lit (.bool false)], args := [d1, d2] }
  | _ => none }
def NumberNearWrongFalsely : Prop := numberNearRow.holds Try.pinned (OpenSpec.ofChange numberNearWrong)

/-- 'spillwaykeep.VarAny': WHATEVER THE INPUT: true; the input reads as it did. -/
def varAnySpec : ChangeSpec := { name := "varAny", fn := fun _ => fun
  | [d] => { results := [.lit (.bool true)], args := [d] }
  | _ => none }
def varAnyRow : OpenClaim := { program := "yteajdkbilbopoaa", sum := "967fca3699e3d8f4f50df0bf97c9e7dc72864f837709e2397063dd7ec0f30172", func := "spillway/spillwaykeep.VarAny", spec := "varAny", apart := false }
def VarAnySaid : Prop := varAnyRow.holds Try.pinned (OpenSpec.ofChange varAnySpec)

/-- ITS FALSE NEIGHBOUR: 'it returns false'. Refute it at one input. -/
def varAnyWrong : ChangeSpec := { name := "varAny", fn := fun _ => fun
  | [d] => { results := [.lit (.bool false)], args := [d] }
  | _ => none }
def VarAnyWrongFalsely : Prop := varAnyRow.holds Try.pinned (OpenSpec.ofChange varAnyWrong)

/-- 'spillwaykeep.FlowSum': WHATEVER THE INPUT: true; the input reads as it did. -/
def flowSumSpec : ChangeSpec := { name := "flowSum", fn := fun _ => fun
  | [d] => { results := [.lit (.bool true)], args := [d] }
  | _ => none }
def flowSumRow : OpenClaim := { program := "yteajdkbilbopoaa", sum := "967fca3699e3d8f4f50df0bf97c9e7dc72864f837709e2397063dd7ec0f30172", func := "spillway/spillwaykeep.FlowSum", spec := "flowSum", apart := false }
def FlowSumSaid : Prop := flowSumRow.holds Try.pinned (OpenSpec.ofChange flowSumSpec)

/-- ITS FALSE NEIGHBOUR: 'it returns false'. Refute it at one input. -/
def flowSumWrong : ChangeSpec := { name := "flowSum", fn := fun _ => fun
  | [d] => { results := [.lit (.bool false)], args := [d] }
  | _ => none }
def FlowSumWrongFalsely : Prop := flowSumRow.holds Try.pinned (OpenSpec.ofChange flowSumWrong)

/-- 'spillwaykeep.VarOrder': WHATEVER THE INPUT: true; the input reads as it did. -/
def varOrderSpec : ChangeSpec := { name := "varOrder", fn := fun _ => fun
  | [d1, d2] => { results := [.lit (.bool true)], args := [d1, d2] }
  | _ => none }
def varOrderRow : OpenClaim := { program := "yteajdkbilbopoaa", sum := "967fca3699e3d8f4f50df0bf97c9e7dc72864f837709e2397063dd7ec0f30172", func := "spillway/spillwaykeep.VarOrder", spec := "varOrder", apart := false }
def VarOrderSaid : Prop := varOrderRow.holds Try.pinned (OpenSpec.ofChange varOrderSpec)

/-- ITS FALSE NEIGHBOUR: 'it returns false'. Refute it at one input. -/
def varOrderWrong : ChangeSpec := { name := "varOrder", fn := fun _ => fun
  | [d1, d2] => { results := [.lit (.bool false)], args := [d1, d2] }
  | _ => none }
def VarOrderWrongFalsely : Prop := varOrderRow.holds Try.pinned (OpenSpec.ofChange varOrderWrong)

/-- 'spillwaykeep.NumberBack': WHATEVER THE INPUT: true; the input reads as it did. -/
def numberBackSpec : ChangeSpec := { name := "numberBack", fn := fun _ => fun
  | [d1, d2, d3] => { results := [.lit (.bool true)], args := [d1, d2, d3] }
  | _ => none }
def numberBackRow : OpenClaim := { program := "yteajdkbilbopoaa", sum := "967fca3699e3d8f4f50df0bf97c9e7dc72864f837709e2397063dd7ec0f30172", func := "spillway/spillwaykeep.NumberBack", spec := "numberBack", apart := false }
def NumberBackSaid : Prop := numberBackRow.holds Try.pinned (OpenSpec.ofChange numberBackSpec)

/-- ITS FALSE NEIGHBOUR: 'it returns false'. Refute it at one input. -/
def numberBackWrong : ChangeSpec := { name := "numberBack", fn := fun _ => fun
  | [d1, d2, d3] => { results := [.lit (.bool false)], args := [d1, d2, d3] }
  | _ => none }
def NumberBackWrongFalsely : Prop := numberBackRow.holds Try.pinned (OpenSpec.ofChange numberBackWrong)

/-- 'spillwaykeep.LockBack': WHATEVER THE INPUT: true; the input reads as it did. -/
def lockBackSpec : ChangeSpec := { name := "lockBack", fn := fun _ => fun
  | [d1, d2, d3, d4, d5] => { results := [.lit (.bool true)], args := [d1, d2, d3, d4, d5] }
  | _ => none }
def lockBackRow : OpenClaim := { program := "yteajdkbilbopoaa", sum := "967fca3699e3d8f4f50df0bf97c9e7dc72864f837709e2397063dd7ec0f30172", func := "spillway/spillwaykeep.LockBack", spec := "lockBack", apart := false }
def LockBackSaid : Prop := lockBackRow.holds Try.pinned (OpenSpec.ofChange lockBackSpec)

/-- ITS FALSE NEIGHBOUR: 'it returns false'. Refute it at one input. -/
def lockBackWrong : ChangeSpec := { name := "lockBack", fn := fun _ => fun
  | [d1, d2, d3, d4, d5] => { results := [.lit (.bool false)], args := [d1, d2, d3, d4, d5] }
  | _ => none }
def LockBackWrongFalsely : Prop := lockBackRow.holds Try.pinned (OpenSpec.ofChange lockBackWrong)

/-- 'spillwaykeep.LockFixed': WHATEVER THE INPUT: true; the input reads as it did. -/
def lockFixedSpec : ChangeSpec := { name := "lockFixed", fn := fun _ => fun
  | [d1, d2, d3, d4, d5, d6] => { results := [.lit (.bool true)], args := [d1, d2, d3, d4, d5, d6] }
  | _ => none }
def lockFixedRow : OpenClaim := { program := "yteajdkbilbopoaa", sum := "967fca3699e3d8f4f50df0bf97c9e7dc72864f837709e2397063dd7ec0f30172", func := "spillway/spillwaykeep.LockFixed", spec := "lockFixed", apart := false }
def LockFixedSaid : Prop := lockFixedRow.holds Try.pinned (OpenSpec.ofChange lockFixedSpec)

/-- ITS FALSE NEIGHBOUR: 'it returns false'. Refute it at one input. -/
def lockFixedWrong : ChangeSpec := { name := "lockFixed", fn := fun _ => fun
  | [d1, d2, d3, d4, d5, d6] => { results := [.lit (.bool false)], args := [d1, d2, d3, d4, d5, d6] }
  | _ => none }
def LockFixedWrongFalsely : Prop := lockFixedRow.holds Try.pinned (OpenSpec.ofChange lockFixedWrong)

/-- 'spillwaykeep.TokenGood': WHATEVER THE INPUT: true; the input reads as it did. -/
def tokenGoodSpec : ChangeSpec := { name := "tokenGood", fn := fun _ => fun
  | [d1, d2, d3, d4] => { results := [.lit (.bool true)], args := [d1, d2, d3, d4] }
  | _ => none }
def tokenGoodRow : OpenClaim := { program := "yteajdkbilbopoaa", sum := "967fca3699e3d8f4f50df0bf97c9e7dc72864f837709e2397063dd7ec0f30172", func := "spillway/spillwaykeep.TokenGood", spec := "tokenGood", apart := false }
def TokenGoodSaid : Prop := tokenGoodRow.holds Try.pinned (OpenSpec.ofChange tokenGoodSpec)

/-- ITS FALSE NEIGHBOUR: 'it returns false'. Refute it at one input. -/
def tokenGoodWrong : ChangeSpec := { name := "tokenGood", fn := fun _ => fun
  | [d1, d2, d3, d4] => { results := [.lit (.bool false)], args := [d1, d2, d3, d4] }
  | _ => none }
def TokenGoodWrongFalsely : Prop := tokenGoodRow.holds Try.pinned (OpenSpec.ofChange tokenGoodWrong)

/-- 'spillwaykeep.TokenOnly': WHATEVER THE INPUT: true; the input reads as it did. -/
def tokenOnlySpec : ChangeSpec := { name := "tokenOnly", fn := fun _ => fun
  | [d1, d2, d3, d4, d5, d6] => { results := [.lit (.bool true)], args := [d1, d2, d3, d4, d5, d6] }
  | _ => none }
def tokenOnlyRow : OpenClaim := { program := "yteajdkbilbopoaa", sum := "967fca3699e3d8f4f50df0bf97c9e7dc72864f837709e2397063dd7ec0f30172", func := "spillway/spillwaykeep.TokenOnly", spec := "tokenOnly", apart := false }
def TokenOnlySaid : Prop := tokenOnlyRow.holds Try.pinned (OpenSpec.ofChange tokenOnlySpec)

/-- ITS FALSE NEIGHBOUR: 'it returns false'. Refute it at one input. -/
def tokenOnlyWrong : ChangeSpec := { name := "tokenOnly", fn := fun _ => fun
  | [d1, d2, d3, d4, d5, d6] => { results := [.lit (.bool false)], args := [d1, d2, d3, d4, d5, d6] }
  | _ => none }
def TokenOnlyWrongFalsely : Prop := tokenOnlyRow.holds Try.pinned (OpenSpec.ofChange tokenOnlyWrong)

/-- 'spillwaykeep.PrefixBack': WHATEVER THE INPUT: true; the input reads as it did. -/
def prefixBackSpec : ChangeSpec := { name := "prefixBack", fn := fun _ => fun
  | [d1, d2, d3, d4, d5] => { results := [.lit (.bool true)], args := [d1, d2, d3, d4, d5] }
  | _ => none }
def prefixBackRow : OpenClaim := { program := "yteajdkbilbopoaa", sum := "967fca3699e3d8f4f50df0bf97c9e7dc72864f837709e2397063dd7ec0f30172", func := "spillway/spillwaykeep.PrefixBack", spec := "prefixBack", apart := false }
def PrefixBackSaid : Prop := prefixBackRow.holds Try.pinned (OpenSpec.ofChange prefixBackSpec)

/-- ITS FALSE NEIGHBOUR: 'it returns false'. Refute it at one input. -/
def prefixBackWrong : ChangeSpec := { name := "prefixBack", fn := fun _ => fun
  | [d1, d2, d3, d4, d5] => { results := [.lit (.bool false)], args := [d1, d2, d3, d4, d5] }
  | _ => none }
def PrefixBackWrongFalsely : Prop := prefixBackRow.holds Try.pinned (OpenSpec.ofChange prefixBackWrong)

/-- 'spillwaykeep.VarBack': WHATEVER THE INPUT: true; the input reads as it did. -/
def varBackSpec : ChangeSpec := { name := "varBack", fn := fun _ => fun
  | [d1, d2, d3] => { results := [.lit (.bool true)], args := [d1, d2, d3] }
  | _ => none }
def varBackRow : OpenClaim := { program := "yteajdkbilbopoaa", sum := "967fca3699e3d8f4f50df0bf97c9e7dc72864f837709e2397063dd7ec0f30172", func := "spillway/spillwaykeep.VarBack", spec := "varBack", apart := false }
def VarBackSaid : Prop := varBackRow.holds Try.pinned (OpenSpec.ofChange varBackSpec)

/-- ITS FALSE NEIGHBOUR: 'it returns false'. Refute it at one input. -/
def varBackWrong : ChangeSpec := { name := "varBack", fn := fun _ => fun
  | [d1, d2, d3] => { results := [.lit (.bool false)], args := [d1, d2, d3] }
  | _ => none }
def VarBackWrongFalsely : Prop := varBackRow.holds Try.pinned (OpenSpec.ofChange varBackWrong)

/- THE SECOND FORM. 'bulk': how many values and letters a reading holds, each counted each time it is reached (what is shared counts as often as it is met; a slice's spare places count too). A statement '..UptoSaid' is the law's where the arguments, and the package variables that the reading takes, are together of bulk at most 1048576: NARROWER than '..Said'. Prove '..Said' where nothing that the law and all that it calls make is longer than what came in: it says more and counts as full. Else prove '..UptoSaid'. A law counts once. -/
mutual
def uptoBulk {H : Type} : DataW H → Nat
  | .lit (.string bytes) => bytes.length + 1
  | .lit _ => 1
  | .nil => 1
  | .ptr d => uptoBulk d + 1
  | .slice elems spare => uptoBulkAll elems + uptoBulkAll spare + 1
  | .agg parts => uptoBulkAll parts + 1
  | .iface _ d => uptoBulk d + 1
  | .map entries => uptoBulkEntries entries + 1
  | .held _ => 1
def uptoBulkAll {H : Type} : List (DataW H) → Nat
  | [] => 0
  | d :: r => uptoBulk d + uptoBulkAll r
def uptoBulkEntries {H : Type} : List (Lit × DataW H) → Nat
  | [] => 0
  | x :: r => uptoBulkEntry x + uptoBulkEntries r
def uptoBulkEntry {H : Type} : Lit × DataW H → Nat
  | (.string bytes, d) => bytes.length + uptoBulk d + 1
  | (_, d) => uptoBulk d + 1
 end
def uptoSmall : (H : Type) → List (DataW H) → Bool := fun _ ds => decide (uptoBulkAll ds ≤ 1048576)
def OpenSpec.upto (s : _root_.Go.ChangeSpec) : _root_.Go.OpenSpec := { _root_.Go.OpenSpec.ofChange s with cond := some uptoSmall }

/-- 'spillwaykeep.MixApart', WHERE WHAT IT READS IS OF BULK AT MOST 1048576: true; the input reads as it did. -/
def mixApartUptoRow : OpenClaim := { program := "yteajdkbilbopoaa", sum := "967fca3699e3d8f4f50df0bf97c9e7dc72864f837709e2397063dd7ec0f30172", func := "spillway/spillwaykeep.MixApart", spec := "mixApart", apart := false, narrowed := true }
def MixApartUptoSaid : Prop := mixApartUptoRow.holds Try.pinned (OpenSpec.upto mixApartSpec)

/-- 'spillwaykeep.VarLeast', WHERE WHAT IT READS IS OF BULK AT MOST 1048576: true; the input reads as it did. -/
def varLeastUptoRow : OpenClaim := { program := "yteajdkbilbopoaa", sum := "967fca3699e3d8f4f50df0bf97c9e7dc72864f837709e2397063dd7ec0f30172", func := "spillway/spillwaykeep.VarLeast", spec := "varLeast", apart := false, narrowed := true }
def VarLeastUptoSaid : Prop := varLeastUptoRow.holds Try.pinned (OpenSpec.upto varLeastSpec)

/-- 'spillwaykeep.SessionApart', WHERE WHAT IT READS IS OF BULK AT MOST 1048576: true; the input reads as it did. -/
def sessionApartUptoRow : OpenClaim := { program := "yteajdkbilbopoaa", sum := "967fca3699e3d8f4f50df0bf97c9e7dc72864f837709e2397063dd7ec0f30172", func := "spillway/spillwaykeep.SessionApart", spec := "sessionApart", apart := false, narrowed := true }
def SessionApartUptoSaid : Prop := sessionApartUptoRow.holds Try.pinned (OpenSpec.upto sessionApartSpec)

/-- 'spillwaykeep.NumberShort', WHERE WHAT IT READS IS OF BULK AT MOST 1048576: true; the input reads as it did. -/
def numberShortUptoRow : OpenClaim := { program := "yteajdkbilbopoaa", sum := "967fca3699e3d8f4f50df0bf97c9e7dc72864f837709e2397063dd7ec0f30172", func := "spillway/spillwaykeep.NumberShort", spec := "numberShort", apart := false, narrowed := true }
def NumberShortUptoSaid : Prop := numberShortUptoRow.holds Try.pinned (OpenSpec.upto numberShortSpec)

/-- 'spillwaykeep.TokenApart', WHERE WHAT IT READS IS OF BULK AT MOST 1048576: true; the input reads as it did. -/
def tokenApartUptoRow : OpenClaim := { program := "yteajdkbilbopoaa", sum := "967fca3699e3d8f4f50df0bf97c9e7dc72864f837709e2397063dd7ec0f30172", func := "spillway/spillwaykeep.TokenApart", spec := "tokenApart", apart := false, narrowed := true }
def TokenApartUptoSaid : Prop := tokenApartUptoRow.holds Try.pinned (OpenSpec.upto tokenApartSpec)

/-- 'spillwaykeep.NumberNear', WHERE WHAT IT READS IS OF BULK AT MOST 1048576: true; the input reads as it did. -/
def numberNearUptoRow : OpenClaim := { program := "yteajdkbilbopoaa", sum := "967fca3699e3d8f4f50df0bf97c9e7dc72864f837709e2397063dd7ec0f30172", func := "spillway/spillwaykeep.NumberNear", spec := "numberNear", apart := false, narrowed := true }
def NumberNearUptoSaid : Prop := numberNearUptoRow.holds Try.pinned (OpenSpec.upto numberNearSpec)

/-- 'spillwaykeep.VarAny', WHERE WHAT IT READS IS OF BULK AT MOST 1048576: true; the input reads as it did. -/
def varAnyUptoRow : OpenClaim := { program := "yteajdkbilbopoaa", sum := "967fca3699e3d8f4f50df0bf97c9e7dc72864f837709e2397063dd7ec0f30172", func := "spillway/spillwaykeep.VarAny", spec := "varAny", apart := false, narrowed := true }
def VarAnyUptoSaid : Prop := varAnyUptoRow.holds Try.pinned (OpenSpec.upto varAnySpec)

/-- 'spillwaykeep.FlowSum', WHERE WHAT IT READS IS OF BULK AT MOST 1048576: true; the input reads as it did. -/
def flowSumUptoRow : OpenClaim := { program := "yteajdkbilbopoaa", sum := "967fca3699e3d8f4f50df0bf97c9e7dc72864f837709e2397063dd7ec0f30172", func := "spillway/spillwaykeep.FlowSum", spec := "flowSum", apart := false, narrowed := true }
def FlowSumUptoSaid : Prop := flowSumUptoRow.holds Try.pinned (OpenSpec.upto flowSumSpec)

/-- 'spillwaykeep.VarOrder', WHERE WHAT IT READS IS OF BULK AT MOST 1048576: true; the input reads as it did. -/
def varOrderUptoRow : OpenClaim := { program := "yteajdkbilbopoaa", sum := "967fca3699e3d8f4f50df0bf97c9e7dc72864f837709e2397063dd7ec0f30172", func := "spillway/spillwaykeep.VarOrder", spec := "varOrder", apart := false, narrowed := true }
def VarOrderUptoSaid : Prop := varOrderUptoRow.holds Try.pinned (OpenSpec.upto varOrderSpec)

/-- 'spillwaykeep.NumberBack', WHERE WHAT IT READS IS OF BULK AT MOST 1048576: true; the input reads as it did. -/
def numberBackUptoRow : OpenClaim := { program := "yteajdkbilbopoaa", sum := "967fca3699e3d8f4f50df0bf97c9e7dc72864f837709e2397063dd7ec0f30172", func := "spillway/spillwaykeep.NumberBack", spec := "numberBack", apart := false, narrowed := true }
def NumberBackUptoSaid : Prop := numberBackUptoRow.holds Try.pinned (OpenSpec.upto numberBackSpec)

/-- 'spillwaykeep.LockBack', WHERE WHAT IT READS IS OF BULK AT MOST 1048576: true; the input reads as it did. -/
def lockBackUptoRow : OpenClaim := { program := "yteajdkbilbopoaa", sum := "967fca3699e3d8f4f50df0bf97c9e7dc72864f837709e2397063dd7ec0f30172", func := "spillway/spillwaykeep.LockBack", spec := "lockBack", apart := false, narrowed := true }
def LockBackUptoSaid : Prop := lockBackUptoRow.holds Try.pinned (OpenSpec.upto lockBackSpec)

/-- 'spillwaykeep.LockFixed', WHERE WHAT IT READS IS OF BULK AT MOST 1048576: true; the input reads as it did. -/
def lockFixedUptoRow : OpenClaim := { program := "yteajdkbilbopoaa", sum := "967fca3699e3d8f4f50df0bf97c9e7dc72864f837709e2397063dd7ec0f30172", func := "spillway/spillwaykeep.LockFixed", spec := "lockFixed", apart := false, narrowed := true }
def LockFixedUptoSaid : Prop := lockFixedUptoRow.holds Try.pinned (OpenSpec.upto lockFixedSpec)

/-- 'spillwaykeep.TokenGood', WHERE WHAT IT READS IS OF BULK AT MOST 1048576: true; the input reads as it did. -/
def tokenGoodUptoRow : OpenClaim := { program := "yteajdkbilbopoaa", sum := "967fca3699e3d8f4f50df0bf97c9e7dc72864f837709e2397063dd7ec0f30172", func := "spillway/spillwaykeep.TokenGood", spec := "tokenGood", apart := false, narrowed := true }
def TokenGoodUptoSaid : Prop := tokenGoodUptoRow.holds Try.pinned (OpenSpec.upto tokenGoodSpec)

/-- 'spillwaykeep.TokenOnly', WHERE WHAT IT READS IS OF BULK AT MOST 1048576: true; the input reads as it did. -/
def tokenOnlyUptoRow : OpenClaim := { program := "yteajdkbilbopoaa", sum := "967fca3699e3d8f4f50df0bf97c9e7dc72864f837709e2397063dd7ec0f30172", func := "spillway/spillwaykeep.TokenOnly", spec := "tokenOnly", apart := false, narrowed := true }
def TokenOnlyUptoSaid : Prop := tokenOnlyUptoRow.holds Try.pinned (OpenSpec.upto tokenOnlySpec)

/-- 'spillwaykeep.PrefixBack', WHERE WHAT IT READS IS OF BULK AT MOST 1048576: true; the input reads as it did. -/
def prefixBackUptoRow : OpenClaim := { program := "yteajdkbilbopoaa", sum := "967fca3699e3d8f4f50df0bf97c9e7dc72864f837709e2397063dd7ec0f30172", func := "spillway/spillwaykeep.PrefixBack", spec := "prefixBack", apart := false, narrowed := true }
def PrefixBackUptoSaid : Prop := prefixBackUptoRow.holds Try.pinned (OpenSpec.upto prefixBackSpec)

/-- 'spillwaykeep.VarBack', WHERE WHAT IT READS IS OF BULK AT MOST 1048576: true; the input reads as it did. -/
def varBackUptoRow : OpenClaim := { program := "yteajdkbilbopoaa", sum := "967fca3699e3d8f4f50df0bf97c9e7dc72864f837709e2397063dd7ec0f30172", func := "spillway/spillwaykeep.VarBack", spec := "varBack", apart := false, narrowed := true }
def VarBackUptoSaid : Prop := varBackUptoRow.holds Try.pinned (OpenSpec.upto varBackSpec)

end Rows
end Go.Proofs.Yteajdkbilbopoaa
