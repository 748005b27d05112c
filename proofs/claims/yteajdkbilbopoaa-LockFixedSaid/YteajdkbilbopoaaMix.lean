/- What lock.Mix computes, as a function of integers, and that it keeps apart what differs: for every two words. -/
import Derived.WalkKit
import Derived.Laws.Bits64
import Derived.Laws.BitsAllLaws
namespace Go.Proofs.Yteajdkbilbopoaa
open Go.RowKit
set_option linter.unusedVariables false

/-- One step of the mixing. -/
def mixStep (x s c : Int) : Int := IntKind.u64.wrap (bits .xor .u64 x (x / s) * c)
def mixA (x : Int) : Int := IntKind.u64.wrap (x + 11400714819323198485)
def mixB (x : Int) : Int := mixStep (mixA x) 1073741824 13787848793156543929
def mixC (x : Int) : Int := mixStep (mixB x) 134217728 10723151780598845931
/-- The mixed word. -/
def mixI (x : Int) : Int := bits .xor .u64 (mixC x) (mixC x / 2147483648)

/-- The key of a secret and a number. -/
def keyI (s n : Int) : Int := mixI (bits .xor .u64 (mixI s) (IntKind.u64.wrap n))

theorem wrap_range (n : Int) : 0 ≤ IntKind.u64.wrap n ∧ IntKind.u64.wrap n < 18446744073709551616 := by
  rw [IntKind.wrap_u64]; omega

theorem xor_range (a b : Int) : 0 ≤ bits .xor .u64 a b ∧ bits .xor .u64 a b < 18446744073709551616 := by
  have : ∃ n, bits .xor .u64 a b = IntKind.u64.wrap n := ⟨_, rfl⟩
  obtain ⟨n, hn⟩ := this
  rw [hn]; exact wrap_range _

theorem mixI_range (x : Int) : 0 ≤ mixI x ∧ mixI x < 18446744073709551616 := xor_range _ _
theorem keyI_range (s n : Int) : 0 ≤ keyI s n ∧ keyI s n < 18446744073709551616 := mixI_range _

theorem nat_xs_inj (X Y s : Nat) (hs : 0 < s) (h : X ^^^ X / 2 ^ s = Y ^^^ Y / 2 ^ s) : X = Y := by
  rw [← Nat.shiftRight_eq_div_pow, ← Nat.shiftRight_eq_div_pow] at h
  have hz : X ^^^ Y = (X ^^^ Y) >>> s := by
    rw [Nat.shiftRight_xor_distrib]
    have h2 : (X ^^^ X >>> s) ^^^ (X >>> s ^^^ Y) = (Y ^^^ Y >>> s) ^^^ (X >>> s ^^^ Y) := by rw [h]
    have h3 : (X ^^^ X >>> s) ^^^ (X >>> s ^^^ Y) = X ^^^ Y := by
      rw [Nat.xor_assoc, ← Nat.xor_assoc (X >>> s), Nat.xor_self, Nat.zero_xor]
    have h4 : (Y ^^^ Y >>> s) ^^^ (X >>> s ^^^ Y) = X >>> s ^^^ Y >>> s := by
      rw [Nat.xor_comm (X >>> s) Y, ← Nat.xor_assoc, Nat.xor_comm (Y ^^^ Y >>> s) Y, ← Nat.xor_assoc, Nat.xor_self, Nat.zero_xor, Nat.xor_comm]
    rw [← h3, h2, h4]
  rw [Nat.shiftRight_eq_div_pow] at hz
  have h0 : X ^^^ Y = 0 := by
    rcases Nat.eq_zero_or_pos (X ^^^ Y) with h | h
    · exact h
    · have := Nat.div_lt_self h (Nat.one_lt_two_pow (by omega) : 1 < 2 ^ s)
      omega
  have h5 : (X ^^^ Y) ^^^ Y = Y := by rw [h0, Nat.zero_xor]
  rw [Nat.xor_assoc, Nat.xor_self, Nat.xor_zero] at h5
  exact h5

theorem nat_mul_inj (X Y c d M : Nat) (hX : X < M) (hY : Y < M) (hcd : c * d % M = 1) (h : X * c % M = Y * c % M) : X = Y := by
  have key : ∀ Z, Z < M → (Z * c % M) * d % M = Z := by
    intro Z hZ
    rw [Nat.mod_mul_mod, Nat.mul_assoc, Nat.mul_mod, hcd, Nat.mul_one, Nat.mod_mod]
    exact Nat.mod_eq_of_lt hZ
  rw [← key X hX, ← key Y hY, h]

theorem of_range (x : Int) (h0 : 0 ≤ x) (h1 : x < 18446744073709551616) : ∃ X : Nat, X < 18446744073709551616 ∧ x = (X : Int) :=
  ⟨x.toNat, by omega, by omega⟩

theorem mixStep_nat (X s C : Nat) (hX : X < 18446744073709551616) : mixStep X s C = (((X ^^^ X / s) * C % 18446744073709551616 : Nat) : Int) :=
  mixStep_u64 X s C hX

theorem mixStep_inj (x y : Int) (s C D : Nat) (hs : 0 < s) (hcd : C * D % 18446744073709551616 = 1) (hx0 : 0 ≤ x) (hx1 : x < 18446744073709551616) (hy0 : 0 ≤ y) (hy1 : y < 18446744073709551616)
    (h : mixStep x (2 ^ s : Nat) C = mixStep y (2 ^ s : Nat) C) : x = y := by
  obtain ⟨X, hX, rfl⟩ := of_range x hx0 hx1
  obtain ⟨Y, hY, rfl⟩ := of_range y hy0 hy1
  rw [mixStep_nat X _ C hX, mixStep_nat Y _ C hY] at h
  have h' := Int.ofNat_inj.mp h
  have hb : ∀ Z, Z < 18446744073709551616 → Z ^^^ Z / 2 ^ s < 18446744073709551616 := by
    intro Z hZ
    have : Z / 2 ^ s < 2 ^ 64 := Nat.lt_of_le_of_lt (Nat.div_le_self _ _) hZ
    exact Nat.xor_lt_two_pow (n := 64) hZ this
  have := nat_mul_inj _ _ C D _ (hb X hX) (hb Y hY) hcd h'
  rw [nat_xs_inj X Y s hs this]

theorem xorShift_inj (x y : Int) (s : Nat) (hs : 0 < s) (hx0 : 0 ≤ x) (hx1 : x < 18446744073709551616) (hy0 : 0 ≤ y) (hy1 : y < 18446744073709551616)
    (h : bits .xor .u64 x (x / (2 ^ s : Nat)) = bits .xor .u64 y (y / (2 ^ s : Nat))) : x = y := by
  obtain ⟨X, hX, rfl⟩ := of_range x hx0 hx1
  obtain ⟨Y, hY, rfl⟩ := of_range y hy0 hy1
  rw [xorShift_u64 X _ hX, xorShift_u64 Y _ hY] at h
  rw [nat_xs_inj X Y s hs (Int.ofNat_inj.mp h)]

theorem mixI_inj (x y : Int) (hx0 : 0 ≤ x) (hx1 : x < 18446744073709551616) (hy0 : 0 ≤ y) (hy1 : y < 18446744073709551616) (h : mixI x = mixI y) : x = y := by
  have rA : ∀ z, 0 ≤ mixA z ∧ mixA z < 18446744073709551616 := fun z => wrap_range _
  have rB : ∀ z, 0 ≤ mixB z ∧ mixB z < 18446744073709551616 := fun z => wrap_range _
  have rC : ∀ z, 0 ≤ mixC z ∧ mixC z < 18446744073709551616 := fun z => wrap_range _
  have hC : mixC x = mixC y := xorShift_inj _ _ 31 (by decide) (rC x).1 (rC x).2 (rC y).1 (rC y).2 h
  have hB : mixB x = mixB y := mixStep_inj _ _ 27 10723151780598845931 3573116690164977347 (by decide) (by decide) (rB x).1 (rB x).2 (rB y).1 (rB y).2 hC
  have hA : mixA x = mixA y := mixStep_inj _ _ 30 13787848793156543929 10871156337175269513 (by decide) (by decide) (rA x).1 (rA x).2 (rA y).1 (rA y).2 hB
  unfold mixA at hA
  rw [IntKind.wrap_u64, IntKind.wrap_u64] at hA
  omega

theorem xor_inj (k x y : Int) (hk0 : 0 ≤ k) (hk1 : k < 18446744073709551616) (hx0 : 0 ≤ x) (hx1 : x < 18446744073709551616) (hy0 : 0 ≤ y) (hy1 : y < 18446744073709551616)
    (h : bits .xor .u64 k x = bits .xor .u64 k y) : x = y := by
  obtain ⟨K, hK, rfl⟩ := of_range k hk0 hk1
  obtain ⟨X, hX, rfl⟩ := of_range x hx0 hx1
  obtain ⟨Y, hY, rfl⟩ := of_range y hy0 hy1
  rw [bits_xor_u64_nat K X hK hX, bits_xor_u64_nat K Y hK hY] at h
  have h' := Int.ofNat_inj.mp h
  have e : ∀ Z, K ^^^ (K ^^^ Z) = Z := fun Z => by rw [← Nat.xor_assoc, Nat.xor_self, Nat.zero_xor]
  rw [← e X, ← e Y, h']

/-- The word of a number: different numbers have different words. -/
theorem word_inj (a b : Int) (ha0 : -9223372036854775808 ≤ a) (ha1 : a ≤ 9223372036854775807) (hb0 : -9223372036854775808 ≤ b) (hb1 : b ≤ 9223372036854775807)
    (h : IntKind.u64.wrap a = IntKind.u64.wrap b) : a = b := by
  rw [IntKind.wrap_u64, IntKind.wrap_u64] at h; omega

theorem keyI_inj (s a b : Int) (ha0 : -9223372036854775808 ≤ a) (ha1 : a ≤ 9223372036854775807) (hb0 : -9223372036854775808 ≤ b) (hb1 : b ≤ 9223372036854775807)
    (h : keyI s a = keyI s b) : a = b := by
  have h1 := mixI_inj _ _ (xor_range _ _).1 (xor_range _ _).2 (xor_range _ _).1 (xor_range _ _).2 h
  have h2 := xor_inj _ _ _ (mixI_range s).1 (mixI_range s).2 (wrap_range a).1 (wrap_range a).2 (wrap_range b).1 (wrap_range b).2 h1
  exact word_inj a b ha0 ha1 hb0 hb1 h2

theorem mixI_zero : mixI 0 = 16294208416658607535 := by decide +kernel

theorem mixI_beq (a b : Int) (ha0 : -9223372036854775808 ≤ a) (ha1 : a ≤ 9223372036854775807) (hb0 : -9223372036854775808 ≤ b) (hb1 : b ≤ 9223372036854775807) :
    (mixI (IntKind.u64.wrap a) == mixI (IntKind.u64.wrap b)) = (IntKind.u64.wrap a == IntKind.u64.wrap b) := by
  rw [Bool.eq_iff_iff, beq_iff_eq, beq_iff_eq]
  exact ⟨mixI_inj _ _ (wrap_range a).1 (wrap_range a).2 (wrap_range b).1 (wrap_range b).2, fun h => by rw [h]⟩

theorem keyI_beq (s a b : Int) (ha0 : -9223372036854775808 ≤ a) (ha1 : a ≤ 9223372036854775807) (hb0 : -9223372036854775808 ≤ b) (hb1 : b ≤ 9223372036854775807) :
    (keyI s a == keyI s b) = (a == b) := by
  rw [Bool.eq_iff_iff, beq_iff_eq, beq_iff_eq]
  exact ⟨keyI_inj s a b ha0 ha1 hb0 hb1, fun h => by rw [h]⟩

end Go.Proofs.Yteajdkbilbopoaa
