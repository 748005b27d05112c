/- Plain numbers: what number and picked come to. -/
import Derived.WalkKit
import Derived.Laws.Bits64
import Derived.Laws.BitsAllLaws
namespace Go.Proofs.Ytihngonemdaihaa
open Go.RowKit
set_option linter.unusedVariables false

theorem i64_bounds {a : Int} (h : (Lit.int .i64 a).wf = true) : -9223372036854775808 ≤ a ∧ a ≤ 9223372036854775807 := by
  simpa [Lit.wf, IntKind.min, IntKind.max, IntKind.signed, IntKind.bits] using h
theorem u8_bounds {a : Int} (h : (Lit.int .u8 a).wf = true) : 0 ≤ a ∧ a ≤ 255 := by
  simpa [Lit.wf, IntKind.min, IntKind.max, IntKind.signed, IntKind.bits] using h

theorem wrap_i64 (n : Int) : IntKind.i64.wrap n = (n + 9223372036854775808) % 18446744073709551616 - 9223372036854775808 := by
  simp [IntKind.wrap, IntKind.bits, IntKind.signed]; split <;> omega

theorem ofInt_toNat (n : Int) : ((BitVec.ofInt 64 n).toNat : Int) = n % 18446744073709551616 := by
  rw [BitVec.toNat_ofInt]; simp; omega

/-- 'n & MaxVar' of whatever int. -/
theorem and_maxvar (n : Int) : bits .and .i64 n 4611686018427387903 = n % 4611686018427387904 := by
  show IntKind.i64.wrap ((BitVec.ofInt 64 n &&& BitVec.ofInt 64 4611686018427387903).toNat : Int) = _
  have h : ((BitVec.ofInt 64 n &&& BitVec.ofInt 64 4611686018427387903).toNat : Int) = n % 4611686018427387904 := by
    rw [BitVec.toNat_and]
    have : (BitVec.ofInt 64 4611686018427387903).toNat = 2 ^ 62 - 1 := by decide
    rw [this, Nat.and_two_pow_sub_one_eq_mod, Int.natCast_emod, ofInt_toNat]
    omega
  rw [h, wrap_i64]; omega

/-- A number, from whatever int. -/
def numI (n : Int) : Int := n % 4611686018427387904
theorem numI_range (n : Int) : 0 ≤ numI n ∧ numI n ≤ 4611686018427387903 := by unfold numI; omega

theorem tmod_neg_add (n m : Int) (hm : 0 < m) (h : n.tmod m < 0) : n.tmod m + m = n % m := by
  have h1 := Int.emod_emod_of_dvd n (Int.dvd_refl m)
  rw [Int.tmod_eq_emod] at h ⊢
  split at h
  · have := Int.emod_nonneg n (Int.ne_of_gt hm); omega
  · rename_i hc
    rw [if_neg hc]
    have : (m.natAbs : Int) = m := by omega
    omega
theorem tmod_nonneg' (n m : Int) (hm : 0 < m) (h : 0 ≤ n.tmod m) : n.tmod m = n % m := by
  rw [Int.tmod_eq_emod] at h ⊢
  split at h
  · rename_i hc; rw [if_pos hc]; omega
  · rename_i hc
    rw [if_neg hc]
    have := Int.emod_lt_of_pos n hm
    have : (m.natAbs : Int) = m := by omega
    omega

/-- The same as a natural number. -/
def numN (n : Int) : Nat := (numI n).toNat
theorem numN_eq (n : Int) : numI n = (numN n : Int) := by have := numI_range n; unfold numN; omega
theorem numN_le (n : Int) : (numN n : Int) ≤ 4611686018427387903 := by have := numI_range n; unfold numN; omega
end Go.Proofs.Ytihngonemdaihaa
