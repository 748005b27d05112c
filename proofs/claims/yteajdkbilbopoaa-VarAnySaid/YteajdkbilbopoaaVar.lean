/- Plain numbers in bytes: their sizes. -/
import Derived.Test.YteajdkbilbopoaaNum
namespace Go.Proofs.Yteajdkbilbopoaa
open Go.RowKit
set_option linter.unusedVariables false

/-- How many bytes a number has (0: it is none). -/
def sizeI (n : Int) : Int := if n < 0 ∨ 4611686018427387903 < n then 0 else if n < 64 then 1 else if n < 16384 then 2 else if n < 1073741824 then 4 else 8
/-- What is wrong with it. -/
def sizeE (n : Int) : Int := if n < 0 ∨ 4611686018427387903 < n then 6 else 0

theorem sizeI_cases (n : Int) (h0 : 0 ≤ n) (h1 : n ≤ 4611686018427387903) :
    (n < 64 ∧ sizeI n = 1) ∨ (64 ≤ n ∧ n < 16384 ∧ sizeI n = 2) ∨ (16384 ≤ n ∧ n < 1073741824 ∧ sizeI n = 4) ∨ (1073741824 ≤ n ∧ sizeI n = 8) := by
  unfold sizeI; rw [if_neg (by omega)]
  by_cases a : n < 64
  · exact .inl ⟨a, if_pos a⟩
  · rw [if_neg a]
    by_cases b : n < 16384
    · exact .inr (.inl ⟨by omega, b, if_pos b⟩)
    · rw [if_neg b]
      by_cases c : n < 1073741824
      · exact .inr (.inr (.inl ⟨by omega, c, if_pos c⟩))
      · exact .inr (.inr (.inr ⟨by omega, if_neg c⟩))
theorem sizeE_ok (n : Int) (h0 : 0 ≤ n) (h1 : n ≤ 4611686018427387903) : sizeE n = 0 := by
  unfold sizeE; rw [if_neg (by omega)]

/-- The number of bytes, the highest first, behind a number. -/
def valB (bs : List UInt8) (n : Nat) : Nat := bs.foldl (fun n c => n * 256 + c.toNat) n
theorem valB_snoc (bs : List UInt8) (c : UInt8) (n : Nat) : valB (bs ++ [c]) n = valB bs n * 256 + c.toNat := by simp [valB]
theorem valB_cons (bs : List UInt8) (c : UInt8) (n : Nat) : valB (c :: bs) n = valB bs (n * 256 + c.toNat) := rfl
theorem valB_lt (bs : List UInt8) (n m : Nat) (h : n < m) : valB bs n < m * 256 ^ bs.length := by
  induction bs generalizing n m with
  | nil => simpa [valB] using h
  | cons c l ih =>
    have hc := c.toNat_lt
    have := ih (n * 256 + c.toNat) (m * 256) (by omega)
    rw [valB_cons, List.length_cons, Nat.pow_succ, Nat.mul_comm (256 ^ l.length), ← Nat.mul_assoc]
    exact this

/-- How many bytes a written number has, by its first one. -/
def decLen (bs : List UInt8) : Nat := 2 ^ ((bs.getD 0 0).toNat / 64)
/-- The number of the first byte's low bits and k bytes more. -/
def decN (bs : List UInt8) (k : Nat) : Nat := valB ((bs.drop 1).take k) ((bs.getD 0 0).toNat % 64)
theorem decN_zero (bs : List UInt8) : decN bs 0 = (bs.getD 0 0).toNat % 64 := rfl
theorem decN_lt (bs : List UInt8) (k : Nat) (h : k < bs.length) : decN bs k < 64 * 256 ^ k := by
  have := valB_lt ((bs.drop 1).take k) ((bs.getD 0 0).toNat % 64) 64 (by omega)
  rwa [List.length_take, List.length_drop, Nat.min_eq_left (by omega)] at this
theorem decN_succ (bs : List UInt8) (k : Nat) (h : k + 1 < bs.length) : decN bs (k + 1) = decN bs k * 256 + (bs.getD (1 + k) 0).toNat := by
  unfold decN
  rw [List.take_succ_eq_append_getElem (by simp; omega), valB_snoc]
  simp [List.getD, h, Nat.add_comm 1 k]
theorem decLen_cases (bs : List UInt8) : decLen bs = 1 ∨ decLen bs = 2 ∨ decLen bs = 4 ∨ decLen bs = 8 := by
  have h := (bs.getD 0 0).toNat_lt
  unfold decLen
  have : (bs.getD 0 0).toNat / 64 = 0 ∨ (bs.getD 0 0).toNat / 64 = 1 ∨ (bs.getD 0 0).toNat / 64 = 2 ∨ (bs.getD 0 0).toNat / 64 = 3 := by omega
  rcases this with h | h | h | h <;> rw [h] <;> decide
/-- What is read of bytes: the number, how many bytes it has, what is wrong. -/
def decR (bs : List UInt8) : Int × Int × Int :=
  if bs.length < decLen bs then (0, 0, 4) else (decN bs (decLen bs - 1), decLen bs, 0)

theorem or_i64_nat (a b : Nat) (ha : a < 9223372036854775808) (hb : b < 9223372036854775808) : bits .or .i64 (a : Int) (b : Int) = ((a ||| b : Nat) : Int) := by
  have hx : a ||| b < 2 ^ 63 := Nat.or_lt_two_pow (by omega) (by omega)
  have h1 : (BitVec.ofInt 64 (a : Int)).toNat = a := by
    rw [BitVec.ofInt_natCast, BitVec.toNat_ofNat]; exact Nat.mod_eq_of_lt (by omega)
  have h2 : (BitVec.ofInt 64 (b : Int)).toNat = b := by
    rw [BitVec.ofInt_natCast, BitVec.toNat_ofNat]; exact Nat.mod_eq_of_lt (by omega)
  show IntKind.i64.wrap ((BitVec.ofInt 64 (a : Int) ||| BitVec.ofInt 64 (b : Int)).toNat : Int) = _
  rw [BitVec.toNat_or, h1, h2, wrap_i64]
  omega
/-- 'n<<8 | c'. -/
theorem or_byte (N c : Nat) (hN : N < 18014398509481984) (hc : c < 256) : bits .or .i64 ((N : Int) * 256) (c : Int) = ((N * 256 + c : Nat) : Int) := by
  have e : (N : Int) * 256 = ((N * 256 : Nat) : Int) := by omega
  rw [e, or_i64_nat _ _ (by omega) (by omega), nat_join 8 (N * 256) c (by omega) (by omega)]

theorem decR_cases (bs : List UInt8) : (decR bs = (0, 0, 4) ∧ bs.length < decLen bs) ∨
    ∃ n K : Nat, decR bs = ((n : Int), (K : Int), 0) ∧ K = decLen bs ∧ n = decN bs (K - 1) ∧ K ≤ bs.length ∧ 1 ≤ K ∧ n < 64 * 256 ^ (K - 1) := by
  have hd := decLen_cases bs
  by_cases h : bs.length < decLen bs
  · exact .inl ⟨if_pos h, h⟩
  · exact .inr ⟨_, _, if_neg h, rfl, rfl, by omega, by omega, decN_lt _ _ (by omega)⟩

/-- What is read may be, and has no fewer bytes than it needs. -/
theorem dec_size (bs : List UInt8) (n K : Nat) (hK : K = decLen bs) (hn : n < 64 * 256 ^ (K - 1)) : (n : Int) ≤ 4611686018427387903 ∧ sizeI n ≤ K := by
  have hd := decLen_cases bs
  rw [← hK] at hd
  rcases hd with rfl | rfl | rfl | rfl
  all_goals
    simp at hn
    have hb : (n : Int) ≤ 4611686018427387903 := by omega
    refine ⟨hb, ?_⟩
    rcases sizeI_cases n (by omega) hb with h | h | h | h <;> omega
end Go.Proofs.Yteajdkbilbopoaa
