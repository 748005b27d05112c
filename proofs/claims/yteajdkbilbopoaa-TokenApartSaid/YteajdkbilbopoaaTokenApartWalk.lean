/- The walk of the law TokenApart. -/
import Derived.Test.YteajdkbilbopoaaMakeWalk
namespace Go.Proofs.Yteajdkbilbopoaa
open Go.ChangeShapes Go.WideShapes Go.ChangeAt Go.RowKit
set_option linter.unusedVariables false

set_option maxRecDepth 100000 in
theorem tokenApart_walk (s a b now_ then_ : Int) (w : World) (hs : (Lit.int .i64 s).wf = true) (ha : (Lit.int .i64 a).wf = true) (hb : (Lit.int .i64 b).wf = true) (hn : (Lit.int .i64 now_).wf = true) (ht : (Lit.int .i64 then_).wf = true) :
    Calls Try.prog 7 #[.int .i64 s, .int .i64 a, .int .i64 b, .int .i64 now_, .int .i64 then_] w fun e w' => e = .returned (.bool true) ∧ Below w.heap.size w w' := by
  have bs := wrap_range s
  have ba := i64_bounds ha
  have bb := i64_bounds hb
  have bn := i64_bounds hn
  have bt := i64_bounds ht
  clear hs ha hb hn ht
  go_enter Try.func7, Try.ntmps7
  go_wp2_with fail
  refine (picked_ex _ _ bn.1 bn.2 (by decide) (by decide) _).mono ?_
  rintro e w' ⟨t, t0, t1, rfl, rfl⟩
  go_wp2_with fail
  refine (picked_ex _ _ bt.1 bt.2 (by decide) (by decide) _).mono ?_
  rintro e w' ⟨u, u0, u1, rfl, rfl⟩
  go_wp2_with fail
  refine (make_any _ _ _ bs.1 bs.2 t0 (by omega) _).mono ?_
  rintro e w1 ⟨A1, c1, rfl, hO1, hc1, hb1⟩
  have hR1 := hO1.rd
  go_wp2_with fail
  refine (make_any _ _ _ bs.1 bs.2 u0 (by omega) _).mono ?_
  rintro e w2 ⟨A2, c2, rfl, hO2, hc2, hb2⟩
  have hR2 := hO2.rd
  have hR1' := hR1.below hb2
  have fin := hb1.trans (hb2.mono hb1.size)
  have s1 := hR1'.str (P := Try.prog) 36 9 5 c1 Try.underlying36 Try.underlying5 Try.underlying9
  have s2 := hR2.str (P := Try.prog) 36 9 5 c2 Try.underlying36 Try.underlying5 Try.underlying9
  rw [tokB_length] at s1 s2
  have he : ((byt (tokB (IntKind.u64.wrap s) a t)).toList == (byt (tokB (IntKind.u64.wrap s) b u)).toList) = (a == b && t == u) := by
    rw [byt_toList, byt_toList]
    exact tokB_beq _ a b t u t0 (by omega) u0 (by omega) ba.1 ba.2 bb.1 bb.2
  clear hR1 hR1' hR2 hO1 hO2 hb1 hb2 hc1 hc2
  by_cases hab : a = b
  · have hab' : (a == b) = true := by simpa using hab
    clear hab
    go_wp2_with fail
    all_goals (go_ret; exact ⟨by simp, fin⟩)
  · have hab' : (a == b) = false := by simpa using hab
    clear hab
    go_wp2_with fail
    all_goals (go_ret; exact ⟨by simp, fin⟩)
end Go.Proofs.Yteajdkbilbopoaa
