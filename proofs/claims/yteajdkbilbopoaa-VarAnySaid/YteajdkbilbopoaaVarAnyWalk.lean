/- The walk of the law VarAny. -/
import Derived.Test.YteajdkbilbopoaaDecodeWalk
namespace Go.Proofs.Yteajdkbilbopoaa
open Go.ChangeShapes Go.WideShapes Go.ChangeAt Go.RowKit
set_option linter.unusedVariables false

theorem varAny_any (A : Option Addr) (bs : List UInt8) (c : Nat) (w : World) (h : RdB w A bs) (hc : bs.length ≤ c) (hm : c ≤ 9223372036854775807) :
    Calls Try.prog 9 #[.slice A bs.length c] w fun e w' => e = .returned (.bool true) ∧ Below w.heap.size w w' := by
  rcases decR_cases bs with ⟨e0, _⟩ | ⟨n, K, e0, e1, e2, e3, e4, e5⟩
  · go_enter Try.func9, Try.ntmps9
    go_wp2_with fail
    refine (decode_any _ bs _ _ h hc hm).mono ?_
    rw [e0]
    rintro e w' ⟨rfl, rfl⟩
    go_wp2_with fail
    refine (dec_nil _ _ _).mono ?_
    rintro e w' ⟨rfl, rfl⟩
    go_wp2_with fail
    go_ret
    exact ⟨rfl, Below.refl _ _⟩
  · have hz := dec_size bs n K e1 e5
    have he := sizeE_ok n (by omega) hz.1
    have hs := hz.2
    clear hz e1 e2 e5
    go_enter Try.func9, Try.ntmps9
    go_wp2_with fail
    refine (decode_any _ bs _ _ h hc hm).mono ?_
    rw [e0]
    rintro e w' ⟨rfl, rfl⟩
    go_wp2_with fail
    refine (dec_nil _ _ _).mono ?_
    rintro e w' ⟨rfl, rfl⟩
    go_wp2_with fail
    refine (size_any _ _).mono ?_
    rintro e w' ⟨rfl, rfl⟩
    go_wp2_with fail
    go_ret
    exact ⟨rfl, Below.refl _ _⟩

theorem varAny_walk (a : Option Addr) (len cap : Nat) (zs : List Int) (w : World) (h : IsRow .u8 w a len cap zs) :
    Calls Try.prog 9 #[.slice a len cap] w fun e w' => e = .returned (.bool true) ∧ Below w.heap.size w w' := by
  obtain ⟨bs, rfl, hr, hc, hm⟩ := h.bytes
  unfold maxLen at hm
  exact varAny_any a bs cap w hr hc (by omega)
end Go.Proofs.Yteajdkbilbopoaa
