/- The walk of the law VarBack. -/
import Derived.Test.YteajdkbilbopoaaEncodeWalk
import Derived.Test.YteajdkbilbopoaaDecodeWalk
namespace Go.Proofs.Yteajdkbilbopoaa
open Go.ChangeShapes Go.WideShapes Go.ChangeAt Go.RowKit
set_option linter.unusedVariables false

set_option maxRecDepth 100000 in
theorem varBack_walk (n : Int) (a : Option Addr) (len cap : Nat) (zs : List Int) (at_ : Int) (w : World) (hn : (Lit.int .i64 n).wf = true) (h : IsRow .u8 w a len cap zs) (hcap : cap * 1 ≤ 140737488351232) (hat : (Lit.int .i64 at_).wf = true) :
    Calls Try.prog 18 #[.int .i64 n, .slice a len cap, .int .i64 at_] w fun e w' => e = .returned (.bool true) ∧ Below w.heap.size w w' := by
  obtain ⟨more, rfl, hr, hc, hm⟩ := h.bytes
  have ra := numN_le n
  have rat := i64_bounds hat
  go_enter Try.func18, Try.ntmps18
  go_wp2_with fail
  refine (number_nat _ _).mono ?_
  rintro e w' ⟨rfl, rfl⟩
  generalize numN n = m at *
  go_wp2_with fail
  refine (encode_any m ra _).mono ?_
  rintro e w1 ⟨rfl, hB1, hb1⟩
  have hr1 := hr.below hb1
  have pa := encB_pos m ra
  have hb0 : Below w.heap.size w (w1.alloc (.cells #[] 5)) := hb1.alloc hb1.size _
  have hb0' : Below w1.heap.size w1 (w1.alloc (.cells #[] 5)) := (Below.refl _ _).alloc (Nat.le_refl _) _
  go_wp2_with (first
    | (at_builtin
       refine wpList_appB _ rfl (.tmp 24) (.tmp 25) _ rfl w1.heap.size 5 Try.underlying36 u8_info (some ⟨w1.heap.size, 0, none⟩) 0 [] rfl (OwnB.made w1 _ _ (Nat.le_refl _)) (some ⟨w.heap.size, 0, none⟩) (encB m).length (encB m) rfl (hB1.rdB.below hb0') (encB m) rfl (by simp; omega) (by simp) ?_
       intro A1 c1 w2 hO1 hc1 hc1' hb2
       have hz2 : w1.heap.size ≤ w2.heap.size := by have := hb2.size; simp at this; omega)
    | (at_builtin
       refine wpList_appB _ rfl (.tmp 26) (.tmp 27) _ rfl w1.heap.size 5 Try.underlying36 u8_info A1 c1 (encB m) rfl hO1 a cap more rfl (hr1.below (hb0'.trans hb2)) (encB m ++ more) rfl (by omega) (by omega) ?_
       intro A2 c2 w3 hO2 hc2 hc2' hb3))
  simp only [List.length_append] at hc2
  refine (decode_n A2 (encB m ++ more) _ _ _ (by simp) hO2.rd hc2 hc2' _ (dec_back m ra more)).mono ?_
  rintro e w' ⟨rfl, rfl⟩
  have hb3' : Below w1.heap.size w1 w3 := hb0'.trans (hb2.trans hb3)
  have hr3 := hB1.rdB.below hb3'
  have fin : Below w.heap.size w w3 := hb1.trans (hb3'.mono hb1.size)
  clear hO1 hc1 hc1' hb2 hO2 hc2 hc2' hb3 hb0 hb0' hB1 hb1 hr1 hr h hb3' hz2
  go_wp2_with fail
  refine (picked_any _ _ rat.1 rat.2 (by omega) (by omega) _).mono ?_
  rintro e w' ⟨rfl, rfl⟩
  obtain ⟨k, hk, hkl⟩ : ∃ k : Nat, at_ % ((encB m).length : Int) = (k : Int) ∧ k < (encB m).length := by
    have h0 := Int.emod_nonneg at_ (show ((encB m).length : Int) ≠ 0 by omega)
    have h1 := Int.emod_lt_of_pos at_ (show (0 : Int) < ((encB m).length : Int) by omega)
    exact ⟨(at_ % ((encB m).length : Int)).toNat, by omega, by omega⟩
  rw [hk]
  clear hk
  have hl : ((encB m).take k).length = k := by rw [List.length_take]; omega
  go_wp2_with fail
  refine (decode_n _ ((encB m).take k) k _ _ hl (hr3.front (by omega)) (by omega) (by omega) _ (dec_cut m ra k hkl)).mono ?_
  rintro e w' ⟨rfl, rfl⟩
  clear hl
  go_wp2_with fail
  go_ret
  exact ⟨rfl, fin⟩
end Go.Proofs.Yteajdkbilbopoaa
