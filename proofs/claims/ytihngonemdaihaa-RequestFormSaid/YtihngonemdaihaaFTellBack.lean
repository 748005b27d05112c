/- Plain: what is told ahead, in any parts. -/
import Derived.Test.YtihngonemdaihaaFBack
namespace Go.Proofs.Ytihngonemdaihaa
open Go.RowKit
set_option linter.unusedVariables false

theorem tellF_len (f : Fld) : 2 ≤ (tellF f).length := by
  unfold tellF
  rw [List.length_append, txtB_len, txtB_len]
  have := (pEnc_len 5 64 f.1.size).1
  have := (pEnc_len 7 0 f.2.size).1
  omega
theorem tellF_whole1 (f : Fld) (hf : FOk f) (more : List UInt8) : yText 5 ⟨tellF f ++ more, 0⟩ = (f.1, ⟨txtB 7 0 f.2 ++ more, 0⟩) := by
  unfold tellF
  rw [List.append_assoc, yText_back 5 (by decide) (by decide) 64 (by decide) f.1 (by have := hf.2.1; omega) _]
theorem tellF_whole2 (f : Fld) (hf : FOk f) (more : List UInt8) : yText 7 ⟨txtB 7 0 f.2 ++ more, 0⟩ = (f.2, ⟨more, 0⟩) := yText_back 7 (by decide) (by decide) 0 (by decide) f.2 (by have := hf.2.2; omega) more
theorem tellF_short (f : Fld) (hf : FOk f) (j : Nat) (hj : j < (tellF f).length) : (yText 7 (yText 5 ⟨(tellF f).take j, 0⟩).2).2.e = 4 := by
  unfold tellF at hj ⊢
  by_cases h : j < (txtB 5 64 f.1).length
  · rw [List.take_append_of_le_length (by omega), yText_cut 5 (by decide) (by decide) 64 (by decide) f.1 (by have := hf.2.1; omega) j h]
    rw [yText_off (by simp)]
  · rw [List.take_append, List.take_of_length_le (by omega), yText_back 5 (by decide) (by decide) 64 (by decide) f.1 (by have := hf.2.1; omega) _]
    rw [List.length_append] at hj
    dsimp only
    rw [yText_cut 7 (by decide) (by decide) 0 (by decide) f.2 (by have := hf.2.2; omega) _ (by omega)]
theorem tellF_head (f : Fld) (more : List UInt8) : 64 ≤ ((tellF f ++ more).getD 0 0).toNat ∧ ((tellF f ++ more).getD 0 0).toNat < 96 := by
  obtain ⟨b, l, e, a1, a2⟩ := pEnc_head 5 (by decide) (by decide) 64 f.1.size (by decide)
  have e1 : (64 : UInt8).toNat = 64 := rfl
  unfold tellF txtB
  rw [e]
  rw [e1] at a1 a2
  simp
  omega
theorem tellF_head_cut (f : Fld) (j : Nat) (hj : 0 < j) : 64 ≤ (((tellF f).take j).getD 0 0).toNat ∧ (((tellF f).take j).getD 0 0).toNat < 96 := by
  have h := tellF_head f []
  rw [List.append_nil] at h
  have e : ((tellF f).take j).getD 0 0 = (tellF f).getD 0 0 := by
    have hl := tellF_len f
    cases ht : tellF f with
    | nil => rw [ht] at hl; simp at hl
    | cons a t => obtain ⟨q, rfl⟩ : ∃ q, j = q + 1 := ⟨j - 1, by omega⟩; simp
  rw [e]; exact h
/-- How many fields are whole among the first k bytes. -/
def fitsN : List Fld → Nat → Nat
  | [], _ => 0
  | f :: gs, k => if (tellF f).length ≤ k then fitsN gs (k - (tellF f).length) + 1 else 0
theorem fitsN_le : ∀ (gs : List Fld) (k : Nat), fitsN gs k ≤ gs.length ∧ (tellB (gs.take (fitsN gs k))).length ≤ k
  | [], k => by simp [fitsN, tellB]
  | f :: gs, k => by
    unfold fitsN
    by_cases h : (tellF f).length ≤ k
    · rw [if_pos h]
      obtain ⟨a, b⟩ := fitsN_le gs (k - (tellF f).length)
      simp only [List.length_cons, List.take_succ_cons, tellB_cons, List.length_append]
      omega
    · rw [if_neg h]; simp [tellB]
theorem fitsN_whole : ∀ (gs : List Fld), fitsN gs (tellB gs).length = gs.length
  | [] => rfl
  | f :: gs => by
    unfold fitsN
    rw [tellB_cons, List.length_append, if_pos (by omega), show (tellF f).length + (tellB gs).length - (tellF f).length = (tellB gs).length by omega, fitsN_whole gs]
    rfl
/-- What is behind the whole ones is the others'. -/
theorem tellB_rest (gs : List Fld) (m : Nat) : (tellB gs).drop (tellB (gs.take m)).length = tellB (gs.drop m) := by
  have h : tellB gs = tellB (gs.take m) ++ tellB (gs.drop m) := by
    unfold tellB
    rw [← List.flatMap_append, List.take_append_drop]
  rw [h, List.drop_left]
end Go.Proofs.Ytihngonemdaihaa
