/- Texts of the proof, laid together: Session SessionWalk. -/
import Derived.Test.YtbcagdjfegobnaaGreatC15
import Derived.Test.YtbcagdjfegobnaaGreatC02
/- Plain: the keys of two words are apart where the words are; each way has its own. -/
namespace Go.Proofs.YtbcagdjfegobnaaGreat
open Go.RowKit
set_option linter.unusedVariables false

def sessI (a b : Int) : Int := mixI (bits .xor .u64 a (mixI b))
theorem sessI_range (a b : Int) : 0 ≤ sessI a b ∧ sessI a b < 18446744073709551616 := mixI_range _

theorem sessI_left (a b c : Int) (ha0 : -9223372036854775808 ≤ a) (ha1 : a ≤ 9223372036854775807) (hb0 : -9223372036854775808 ≤ b) (hb1 : b ≤ 9223372036854775807)  :
    (sessI (IntKind.u64.wrap a) c == sessI (IntKind.u64.wrap b) c) = (a == b) := by
  rw [Bool.eq_iff_iff, beq_iff_eq, beq_iff_eq]
  refine ⟨fun h => ?_, fun h => by rw [h]⟩
  have h1 := mixI_inj _ _ (xor_range _ _).1 (xor_range _ _).2 (xor_range _ _).1 (xor_range _ _).2 h
  obtain ⟨K, hK, eK⟩ := of_range (mixI c) (mixI_range c).1 (mixI_range c).2
  obtain ⟨X, hX, eX⟩ := of_range (IntKind.u64.wrap a) (wrap_range a).1 (wrap_range a).2
  obtain ⟨Y, hY, eY⟩ := of_range (IntKind.u64.wrap b) (wrap_range b).1 (wrap_range b).2
  rw [eK, eX, eY, bits_xor_u64_nat _ _ hX hK, bits_xor_u64_nat _ _ hY hK] at h1
  have h' := Int.ofNat_inj.mp h1
  have e : ∀ Z, (Z ^^^ K) ^^^ K = Z := fun Z => by rw [Nat.xor_assoc, Nat.xor_self, Nat.xor_zero]
  have hXY : X = Y := by rw [← e X, ← e Y, h']
  exact word_inj a b ha0 ha1 hb0 hb1 (by rw [eX, eY, hXY])

theorem sessI_right (k a b : Int) (hk0 : 0 ≤ k) (hk1 : k < 18446744073709551616) (ha0 : -9223372036854775808 ≤ a) (ha1 : a ≤ 9223372036854775807) (hb0 : -9223372036854775808 ≤ b) (hb1 : b ≤ 9223372036854775807)  :
    (sessI k (IntKind.u64.wrap a) == sessI k (IntKind.u64.wrap b)) = (a == b) := by
  rw [Bool.eq_iff_iff, beq_iff_eq, beq_iff_eq]
  refine ⟨fun h => ?_, fun h => by rw [h]⟩
  have h1 := mixI_inj _ _ (xor_range _ _).1 (xor_range _ _).2 (xor_range _ _).1 (xor_range _ _).2 h
  have h2 := xor_inj _ _ _ hk0 hk1 (mixI_range _).1 (mixI_range _).2 (mixI_range _).1 (mixI_range _).2 h1
  have h3 := mixI_inj _ _ (wrap_range a).1 (wrap_range a).2 (wrap_range b).1 (wrap_range b).2 h2
  exact word_inj a b ha0 ha1 hb0 hb1 h3

theorem way_apart (k : Int) (hk0 : 0 ≤ k) (hk1 : k < 18446744073709551616) : (mixI k != mixI (bits .xor .u64 IntKind.u64.max k)) = true := by
  rw [bne_iff_ne]
  intro h
  have h1 := mixI_inj _ _ hk0 hk1 (xor_range _ _).1 (xor_range _ _).2 h
  obtain ⟨K, hK, eK⟩ := of_range k hk0 hk1
  have em : IntKind.u64.max = ((18446744073709551615 : Nat) : Int) := by decide
  rw [em, eK, bits_xor_u64_nat _ _ (by decide) hK] at h1
  have h' := Int.ofNat_inj.mp h1
  have e : (18446744073709551615 ^^^ K) ^^^ K = 18446744073709551615 := by rw [Nat.xor_assoc, Nat.xor_self, Nat.xor_zero]
  rw [← h', Nat.xor_self] at e
  omega

theorem mixI_sess (a b c : Int) (ha0 : -9223372036854775808 ≤ a) (ha1 : a ≤ 9223372036854775807) (hb0 : -9223372036854775808 ≤ b) (hb1 : b ≤ 9223372036854775807)  :
    (mixI (sessI (IntKind.u64.wrap a) c) == mixI (sessI (IntKind.u64.wrap b) c)) = (a == b) := by
  rw [← sessI_left a b c ha0 ha1 hb0 hb1, Bool.eq_iff_iff, beq_iff_eq, beq_iff_eq]
  exact ⟨mixI_inj _ _ (sessI_range _ _).1 (sessI_range _ _).2 (sessI_range _ _).1 (sessI_range _ _).2, fun h => by rw [h]⟩

end Go.Proofs.YtbcagdjfegobnaaGreat
/- The contracts of gate.Session and gate.First. -/
namespace Go.Proofs.YtbcagdjfegobnaaGreat
open Go.ChangeShapes Go.WideShapes Go.ChangeAt Go.RowKit
set_option linter.unusedVariables false

theorem session_any (a b : Int) (ha0 : 0 ≤ a) (ha1 : a < 18446744073709551616) (hb0 : 0 ≤ b) (hb1 : b < 18446744073709551616) (w : World) :
    Calls Tryz.prog 100 #[.int .u64 a, .int .u64 b] w fun e w' => e = .returned (.int .u64 (sessI a b)) ∧ w = w' := by
  have hx := xor_range a (mixI b)
  go_enter Tryz.func100, Tryz.ntmps100
  go_wp2_with fail
  refine (mix_any _ hb0 hb1 _).mono ?_
  rintro e w' ⟨rfl, rfl⟩
  go_wp2_with fail
  refine (mix_any _ hx.1 hx.2 _).mono ?_
  rintro e w' ⟨rfl, rfl⟩
  go_wp2_with fail
  go_ret
  exact ⟨rfl, rfl⟩

theorem first_any (n : Int) (w : World) :
    Calls Tryz.prog 24 #[.int .i64 n] w fun e w' => e = .returned (.int .u64 (keyI 1 n)) ∧ w = w' := by
  go_enter Tryz.func24, Tryz.ntmps24
  go_wp2_with fail
  refine (key_any 1 n (by decide) (by decide) _).mono ?_
  rintro e w' ⟨rfl, rfl⟩
  go_wp2_with fail
  go_ret
  exact ⟨rfl, rfl⟩

theorem way_true (k : Int) (h0 : 0 ≤ k) (h1 : k < 18446744073709551616) (w : World) :
    Calls Tryz.prog 25 #[.int .u64 k, .bool true] w fun e w' => e = .returned (.int .u64 (mixI k)) ∧ w = w' := by
  go_enter Tryz.func25, Tryz.ntmps25
  go_wp2_with fail
  refine (mix_any _ h0 h1 _).mono ?_
  rintro e w' ⟨rfl, rfl⟩
  go_wp2_with fail
  go_ret
  exact ⟨rfl, rfl⟩

theorem way_false (k : Int) (h0 : 0 ≤ k) (h1 : k < 18446744073709551616) (w : World) :
    Calls Tryz.prog 25 #[.int .u64 k, .bool false] w fun e w' => e = .returned (.int .u64 (mixI (bits .xor .u64 IntKind.u64.max k))) ∧ w = w' := by
  have hsg : IntKind.u64.signed = false := rfl
  have hx := xor_range IntKind.u64.max k
  go_enter Tryz.func25, Tryz.ntmps25
  go_wp2_with fail
  refine (mix_any _ hx.1 hx.2 _).mono ?_
  rintro e w' ⟨rfl, rfl⟩
  go_wp2_with fail
  go_ret
  exact ⟨rfl, rfl⟩
end Go.Proofs.YtbcagdjfegobnaaGreat
