/- Texts of the proof, laid together: Session SessionWalk. -/
import Derived.Test.YtbcagdjfegobnaaGreatC25
import Derived.Test.YtbcagdjfegobnaaGreatC00
/- Plain: the keys of two words are apart where the words are; each way has its own. -/
namespace Go.Proofs.YtbcagdjfegobnaaGreat
open Go.RowKit
set_option linter.unusedVariables false

def sessI (a b : Int) : Int := mixI (bits .xor .u64 a (mixI b))
theorem sessI_range (a b : Int) : 0 ≤ sessI a b ∧ sessI a b < 18446744073709551616 := mixI_range _





end Go.Proofs.YtbcagdjfegobnaaGreat
/- The contracts of gate.Session and gate.First. -/
namespace Go.Proofs.YtbcagdjfegobnaaGreat
open Go.ChangeShapes Go.WideShapes Go.ChangeAt Go.RowKit
set_option linter.unusedVariables false

theorem session_any (a b : Int) (ha0 : 0 ≤ a) (ha1 : a < 18446744073709551616) (hb0 : 0 ≤ b) (hb1 : b < 18446744073709551616) (w : World) :
    Calls Tryz.prog 100 #[.int .u64 a, .int .u64 b] w fun e w' => e = .returned (.int .u64 (sessI a b)) ∧ w = w' := by
  have hx := xor_range a (mixI b)
  go_enter Tryz.func100, Tryz.ntmps100
  go_wp2_with fail
  refine (mix_any _ hb0 hb1 _).mono ?_
  rintro e w' ⟨rfl, rfl⟩
  go_wp2_with fail
  refine (mix_any _ hx.1 hx.2 _).mono ?_
  rintro e w' ⟨rfl, rfl⟩
  go_wp2_with fail
  go_ret
  exact ⟨rfl, rfl⟩

theorem first_any (n : Int) (w : World) :
    Calls Tryz.prog 24 #[.int .i64 n] w fun e w' => e = .returned (.int .u64 (keyI 1 n)) ∧ w = w' := by
  go_enter Tryz.func24, Tryz.ntmps24
  go_wp2_with fail
  refine (key_any 1 n (by decide) (by decide) _).mono ?_
  rintro e w' ⟨rfl, rfl⟩
  go_wp2_with fail
  go_ret
  exact ⟨rfl, rfl⟩

theorem way_true (k : Int) (h0 : 0 ≤ k) (h1 : k < 18446744073709551616) (w : World) :
    Calls Tryz.prog 25 #[.int .u64 k, .bool true] w fun e w' => e = .returned (.int .u64 (mixI k)) ∧ w = w' := by
  go_enter Tryz.func25, Tryz.ntmps25
  go_wp2_with fail
  refine (mix_any _ h0 h1 _).mono ?_
  rintro e w' ⟨rfl, rfl⟩
  go_wp2_with fail
  go_ret
  exact ⟨rfl, rfl⟩

end Go.Proofs.YtbcagdjfegobnaaGreat
