/- The contract of head.Decode, whole. -/
import Derived.Test.YtenlgfeldkfmiaaHeadDec2Walk
namespace Go.Proofs.Ytenlgfeldkfmiaa
open Go.RowKit
set_option linter.unusedVariables false

/-- What Decode answers. -/
def HOut (r : HeadD × Nat × Int) (w : World) (e : Ending) (w' : World) : Prop := ∃ T d, e = .returned (.tuple #[.agg (hcells r.1 T d), .int .i64 r.2.1, .int .i64 r.2.2]) ∧ RdB w' T r.1.tok ∧ r.1.tok.length ≤ d ∧ d ≤ 9223372036854775807 ∧ Below w.heap.size w w'

theorem HBad.out {w : World} {E : Int} {e : Ending} {w' : World} (h : HBad w E e w') : HOut (hnil, 0, E) w e w' :=
  ⟨none, 0, h.1, Rd.nil, by simp [hnil], by decide, h.2⟩
theorem HGood.out {w : World} {H : HeadD} {u : Nat} {e : Ending} {w' : World} (h : HGood w H u e w') : HOut (H, u, 0) w e w' := h
theorem HTail.out {bs : List UInt8} {n k tt f u s : Nat} {t : List UInt8} {w : World} {e : Ending} {w' : World} (hn : bs.length = n) (h : HTail bs n k tt f t u s w e w') : HOut (htail bs k tt f t u s) w e w' := by
  unfold htail
  rw [hn]
  rcases h with ⟨h1, h2⟩ | ⟨h1, h2⟩
  · rw [if_pos h1]; exact h2.out
  · rw [if_neg (by omega)]; exact h2.out
theorem HLong.out {bs : List UInt8} {n k s : Nat} {w : World} {e : Ending} {w' : World} (hn : bs.length = n) (h3 : 3 ≤ n) (h : HLong bs n k (bs.getD 1 0).toNat (bs.getD 2 0).toNat s (decR (bs.drop 3)) w e w') : HOut (hlong bs k s) w e w' := by
  unfold hlong
  rw [hn, if_neg (by omega)]
  rcases h with ⟨h1, h2⟩ | ⟨h1, h3, h2⟩ | ⟨h1, h3, h4, h2⟩ | ⟨h1, h3, h4, h2⟩
  · rw [if_pos h1]; exact h2.out
  · rw [if_neg (by omega), if_pos h3]; exact h2.out
  · rw [if_neg (by omega), if_neg h3, if_pos h4]; exact h2.out
  · rw [if_neg (by omega), if_neg h3, if_neg h4]; exact h2.out hn

theorem hlong_few (bs : List UInt8) (k s : Nat) (h : bs.length < 3) : hlong bs k s = (hnil, 0, 4) := if_pos h
theorem hlong_three (bs : List UInt8) (k s : Nat) (h : bs.length = 3) : hlong bs k s = (hnil, 0, 4) := by
  unfold hlong
  rw [if_neg (by omega), List.drop_of_length_le (by omega)]
  rfl

theorem hDec_any (A : Option Addr) (bs : List UInt8) (n c : Nat) (w : World) (hn : bs.length = n) (h : RdB w A bs) (hc : n ≤ c) (hm : c ≤ 9223372036854775807) :
    Calls Try.prog 11 #[.slice A n c] w (HOut (hdec bs) w) := by
  unfold hdec
  rw [hn]
  by_cases h0 : n = 0
  · subst h0
    rw [if_pos rfl]
    exact (hDec_nil A c w).mono fun e w' h => h.out
  rw [if_neg h0]
  by_cases h1 : (bs.getD 0 0).toNat / 4 = 16
  · rw [if_pos h1]
    by_cases h2 : n < 2
    · rw [if_pos h2]
      obtain rfl : n = 1 := by omega
      exact (hDec_short1 A bs c w hn h hc hm _ rfl h1).mono fun e w' h => h.out
    · rw [if_neg h2]
      exact (hDec_short A bs n c w hn h hc hm (by omega) _ _ rfl h1 rfl).mono fun e w' h => h.out hn
  rw [if_neg h1]
  by_cases h2 : (bs.getD 0 0).toNat / 4 = 48
  · rw [if_pos h2]
    by_cases h3 : n < 3
    · rw [hlong_few bs _ _ (by omega)]
      exact (hDec_long0_few A bs n c w hn h hc hm (by omega) h3 _ _ rfl h2 rfl).mono fun e w' h => h.out
    · by_cases h4 : c = 3
      · rw [hlong_three bs _ _ (by omega)]
        exact (hDec_long0_three A bs n c w hn h hc hm (by omega) h4 _ _ rfl h2 rfl).mono fun e w' h => h.out
      · exact (hDec_long0 A bs n c w hn h hc hm (by omega) h4 _ rfl _ _ rfl h2 rfl).mono fun e w' h => h.out hn (by omega)
  rw [if_neg h2]
  by_cases h3 : (bs.getD 0 0).toNat = 240
  · rw [if_pos h3]
    by_cases h5 : n < 3
    · rw [hlong_few bs _ _ (by omega)]
      exact (hDec_long1_few A bs n c w hn h hc hm (by omega) h5 _ _ rfl h3 rfl).mono fun e w' h => h.out
    · by_cases h4 : c = 3
      · rw [hlong_three bs _ _ (by omega)]
        exact (hDec_long1_three A bs n c w hn h hc hm (by omega) h4 _ _ rfl h3 rfl).mono fun e w' h => h.out
      · exact (hDec_long1 A bs n c w hn h hc hm (by omega) h4 _ rfl _ _ rfl h3 rfl).mono fun e w' h => h.out hn (by omega)
  rw [if_neg h3]
  exact (hDec_none A bs n c w hn h hc hm (by omega) _ rfl h1 h2 h3).mono fun e w' h => h.out
end Go.Proofs.Ytenlgfeldkfmiaa
