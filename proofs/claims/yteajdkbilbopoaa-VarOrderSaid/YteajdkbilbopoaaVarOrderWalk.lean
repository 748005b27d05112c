/- The walk of the law VarOrder. -/
import Derived.Test.YteajdkbilbopoaaEncodeWalk
namespace Go.Proofs.Yteajdkbilbopoaa
open Go.ChangeShapes Go.WideShapes Go.ChangeAt Go.RowKit
set_option linter.unusedVariables false

set_option maxRecDepth 100000 in
theorem varOrder_walk (n m : Int) (w : World) (hn : (Lit.int .i64 n).wf = true) (hm : (Lit.int .i64 m).wf = true) :
    Calls Try.prog 11 #[.int .i64 n, .int .i64 m] w fun e w' => e = .returned (.bool true) ∧ Below w.heap.size w w' := by
  have ra := numN_le n
  have rb := numN_le m
  go_enter Try.func11, Try.ntmps11
  go_wp2_with (go_at_call 21; go_must (refine (number_nat _ _).mono ?_; rintro e w' ⟨rfl, rfl⟩))
  generalize numN n = a at *
  generalize numN m = b at *
  refine (encode_any a ra _).mono ?_
  rintro e w1 ⟨rfl, hB1, hb1⟩
  go_wp2_with fail
  refine (encode_any b rb _).mono ?_
  rintro e w2 ⟨rfl, hB2, hb2⟩
  have hr1 := hB1.rdB.below hb2
  have hr2 := hB2.rdB
  have hs1 := hr1.str (P := Try.prog) 36 9 5 (encB a).length Try.underlying36 Try.underlying5 Try.underlying9
  have hs2 := hr2.str (P := Try.prog) 36 9 5 (encB b).length Try.underlying36 Try.underlying5 Try.underlying9
  have pa := encB_pos a ra
  have pb := encB_pos b rb
  have fin : Below w.heap.size w w2 := hb1.trans (hb2.mono hb1.size)
  clear hr1 hr2 hB1 hB2 hb1 hb2
  by_cases hlen : (encB a).length = (encB b).length
  · have hl : Op.bytesLess (byt (encB a)).toList (byt (encB b)).toList = decide (a < b) := by
      rw [byt_toList, byt_toList]; exact less_encB a b ra rb hlen
    have h1 := Nat.le_of_eq hlen
    have h2 := Nat.le_of_eq hlen.symm
    have hd : decide ((encB a).length < (encB b).length) = false := by simp; omega
    have hne : (((encB a).length : Int) != ((encB b).length : Int)) = false := by simp; omega
    clear hlen
    go_wp2_with fail
    all_goals (go_ret; exact ⟨rfl, fin⟩)
  · rcases Nat.lt_or_ge a b with hab | hab
    · have := encB_mono a b ra rb (by omega)
      have h1 : (encB a).length < (encB b).length := by omega
      have hd : decide ((encB a).length < (encB b).length) = true := by simp; omega
      have hd2 : decide (a < b) = true := by simp; omega
      have hne : (((encB a).length : Int) != ((encB b).length : Int)) = true := by simp; omega
      clear hlen this
      go_wp2_with fail
      all_goals (go_ret; exact ⟨rfl, fin⟩)
    · have := encB_mono b a rb ra (by omega)
      have h1 : (encB b).length < (encB a).length := by omega
      have hd : decide ((encB a).length < (encB b).length) = false := by simp; omega
      have hd2 : decide (a < b) = false := by simp; omega
      have hne : (((encB a).length : Int) != ((encB b).length : Int)) = true := by simp; omega
      clear hlen this
      go_wp2_with fail
      all_goals (go_ret; exact ⟨rfl, fin⟩)
end Go.Proofs.Yteajdkbilbopoaa
