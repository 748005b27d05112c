/- The walk of the law NumberBack. -/
import Derived.Test.YteajdkbilbopoaaCutWalk
import Derived.Test.YteajdkbilbopoaaWholeWalk
namespace Go.Proofs.Yteajdkbilbopoaa
open Go.ChangeShapes Go.WideShapes Go.ChangeAt Go.RowKit
set_option linter.unusedVariables false

set_option maxRecDepth 100000 in
theorem numberBack_walk (n far seen : Int) (w : World) (hn : (Lit.int .i64 n).wf = true) (hf : (Lit.int .i64 far).wf = true) (hs : (Lit.int .i64 seen).wf = true) :
    Calls Try.prog 12 #[.int .i64 n, .int .i64 far, .int .i64 seen] w fun e w' => e = .returned (.bool true) ∧ Below w.heap.size w w' := by
  have bn := i64_bounds hn
  have bf := i64_bounds hf
  have bs := i64_bounds hs
  go_enter Try.func12, Try.ntmps12
  go_wp2_with fail
  refine (picked_ex _ _ bn.1 bn.2 (by decide) (by decide) _).mono ?_
  rintro e w' ⟨x, r1, r2, rfl, rfl⟩
  rcases Int.le_total (1 + x + 1) 1048576 with hx | hx
  all_goals go_wp2_with fail
  all_goals
    refine (picked_ex _ _ bf.1 bf.2 (by omega) (by omega) _).mono ?_
    rintro e w' ⟨y, r3, r4, rfl, rfl⟩
    have hy : y ≤ 1048576 := by omega
    have hy2 : y ≤ 1 + x := by omega
    clear r4
    go_wp2_with fail
    refine (cut_int _ _ (by omega) (by omega) (by omega) (by omega) (by omega) _ rfl _).mono ?_
    rintro e w1 ⟨A, c, rfl, hO, hb⟩
    have hK := cutK_cases (1 + x - (1 + x - 1 - y)).toNat
    have HW := fun top h1 h2 => whole_back (1 + x) (1 + x - 1 - y) top _ (by omega) (by omega) (by omega) (by omega) h1 h2 (by omega) rfl
    have HH := Lib.hid HW
    clear HW
    have hlen := beB_length (cutK (1 + x - (1 + x - 1 - y)).toNat) (1 + x).toNat
    generalize cutK (1 + x - (1 + x - 1 - y)).toNat = K at *
    have hK1 : 1 ≤ K := by omega
    have hK4 : K ≤ 4 := by omega
    have HL := Lib.hid hlen
    have hcap := hO.cap
    have hR := hO.rd
    clear hK hlen
    go_wp2_with fail
    refine (picked_ex _ _ bs.1 bs.2 (by omega) (by omega) _).mono ?_
    rintro e w' ⟨z, r5, r6, rfl, rfl⟩
    go_wp2_with fail
    refine (whole_n _ _ _ _ _ _ HL.out hK1 hK4 (by omega) (by omega) hR _ (HH.out _ (by omega) (by omega))).mono ?_
    rintro e w' ⟨rfl, rfl⟩
    go_wp2_with fail
    refine (cut_bad _ _ (Int.le_refl _) _).mono ?_
    rintro e w' ⟨rfl, rfl⟩
    go_wp2_with fail
    go_ret
    exact ⟨rfl, hb⟩
end Go.Proofs.Yteajdkbilbopoaa
