/- Texts of the proof, laid together: FrameSame. -/
import Derived.Test.YtbcagdjfegobnaaGreatC18
import Derived.BigQuiet
/- The contracts of sameRanges and sameFrame; frame.Encode of a frame that may be. -/
namespace Go.Proofs.YtbcagdjfegobnaaGreat
open Go.ChangeShapes Go.WideShapes Go.ChangeAt Go.RowKit
set_option linter.unusedVariables false

theorem fEnc_any (f : FrD) (ok : FrOk f) (A : Option Addr) (c : Nat) (B : Option Addr) (d : Nat) (w : World) (hA : RdX rcells 2 w A f.rngs) (hB : RdB w B f.data) (hnc : f.rngs.length ≤ c) (hcm : c ≤ 9223372036854775807) :
    Calls Tryz.prog 53 #[.agg (frcells f A c B d)] w fun e w' => ∃ A' k' c', e = .returned (.tuple #[.slice A' k' c', .int .i64 0]) ∧ (fenc f).length = k' ∧ OwnB w' w.heap.size 5 A' c' (fenc f) ∧ k' ≤ c' ∧ c' ≤ 9223372036854775807 ∧ Below w.heap.size w w' := by
  have hz := fkind_cases f ok
  refine fEnc_way f.kind (fkind f) f.id f.off f.code f.rngs.length f.data.length f.rngs f.data f.fin (pId f.kind) (pOff f.kind) (pCode f.kind) (pData f.kind) (pFin f.kind) (pWord f.kind) A c B d w
    (Lib.hid fun W hb => fCheck_ok f ok A c B d W (RdX.below hA hb) hnc hcm) (Lib.hid fun W => partsOf_good f.kind ok.kind W) ?_ ?_ ok.id ok.off ok.code rfl ok.rngs ok.many hnc hcm rfl ok.len (Lib.hid hA) (Lib.hid hB)
  · by_cases h8 : f.kind = 8
    · cases hf : f.fin with
      | true => exact .inl ⟨h8, rfl, by simp [fkind, h8, hf]⟩
      | false => exact .inr (.inl ⟨h8, rfl, by simp [fkind, h8, hf]⟩)
    · exact .inr (.inr ⟨h8, by simp [fkind, h8]⟩)
  · have := kOk_cases ok.kind; omega




end Go.Proofs.YtbcagdjfegobnaaGreat
