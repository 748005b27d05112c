/- Plain: numbers behind bits. -/
import Derived.Test.YtihngonemdaihaaVar
namespace Go.Proofs.Ytihngonemdaihaa
open Go.RowKit
set_option linter.unusedVariables false

/-- A number in groups of seven bits, the lowest first. -/
def grpF : Nat → Nat → List UInt8
  | 0, _ => []
  | f + 1, m => if m < 128 then [UInt8.ofNat m] else UInt8.ofNat (128 + m % 128) :: grpF f (m / 128)
/-- A number behind the bits of c, w of its lowest ones being the number's. -/
def pEnc (w : Nat) (c : UInt8) (n : Nat) : List UInt8 :=
  if n < 2 ^ w - 1 then [UInt8.ofNat (c.toNat + n)] else UInt8.ofNat (c.toNat + (2 ^ w - 1)) :: grpF 9 (n - (2 ^ w - 1))
/-- What is read of groups, from the one with number i on, n having been read. -/
def pGo : List UInt8 → Nat → Int → Int × Int × Int
  | [], _, _ => (0, 0, 4)
  | c :: l, i, n => if i = 9 then (0, 0, 1) else
      if 4611686018427387903 - n < ((c.toNat % 128 * 2 ^ (7 * i) : Nat) : Int) then (0, 0, 6) else
      if c.toNat < 128 then (n + ((c.toNat % 128 * 2 ^ (7 * i) : Nat) : Int), (i : Int) + 2, 0) else pGo l (i + 1) (n + ((c.toNat % 128 * 2 ^ (7 * i) : Nat) : Int))
/-- What is read of bytes. -/
def pDec (w : Nat) (bs : List UInt8) : Int × Int × Int :=
  match bs with
  | [] => (0, 0, 4)
  | c :: l => if c.toNat % 2 ^ w < 2 ^ w - 1 then (((c.toNat % 2 ^ w : Nat) : Int), 1, 0) else pGo l 0 ((c.toNat % 2 ^ w : Nat) : Int)

theorem ofNat_lt (m : Nat) (h : m < 256) : (UInt8.ofNat m).toNat = m := by simp; omega

theorem grpF_pos (f m : Nat) : 1 ≤ (grpF (f + 1) m).length := by
  unfold grpF; split <;> simp
theorem grpF_len (f m : Nat) : (grpF f m).length ≤ f := by
  induction f generalizing m with
  | zero => simp [grpF]
  | succ f ih =>
    unfold grpF
    split
    · simp
    · simp [ih]

/-- Groups are read as they were written, whatever stands behind them. -/
theorem pGo_back (f m i : Nat) (n : Int) (more : List UInt8) (hf : 1 ≤ f) (hi : i + f ≤ 9) (hm : m < 128 ^ f) (hn0 : 0 ≤ n) (hn : n + ((m * 2 ^ (7 * i) : Nat) : Int) ≤ 4611686018427387903) :
    pGo (grpF f m ++ more) i n = (n + ((m * 2 ^ (7 * i) : Nat) : Int), (i : Int) + ((grpF f m).length : Int) + 1, 0) := by
  induction f generalizing m i n with
  | zero => omega
  | succ f ih =>
    unfold grpF
    by_cases h : m < 128
    · rw [if_pos h]
      simp only [List.cons_append, List.nil_append, pGo]
      rw [ofNat_lt m (by omega), Nat.mod_eq_of_lt h]
      generalize m * 2 ^ (7 * i) = A at *
      rw [if_neg (by omega), if_neg (by omega), if_pos h]
      simp
      omega
    · rw [if_neg h]
      simp only [List.cons_append, pGo]
      have e : (128 + m % 128) % 128 = m % 128 := by omega
      have hp : 0 < 2 ^ (7 * i) := Nat.pow_pos (by decide)
      have hs : m * 2 ^ (7 * i) = m % 128 * 2 ^ (7 * i) + m / 128 * 2 ^ (7 * (i + 1)) := by
        have h1 : 2 ^ (7 * (i + 1)) = 128 * 2 ^ (7 * i) := by rw [Nat.mul_add, Nat.pow_add, Nat.mul_comm]
        rw [h1, ← Nat.mul_assoc, ← Nat.add_mul, Nat.mul_comm (m / 128), Nat.mod_add_div]
      have hq : m / 128 < 128 ^ f := by rw [Nat.div_lt_iff_lt_mul (by decide), ← Nat.pow_succ]; exact hm
      rw [ofNat_lt _ (by omega), if_neg (by omega), e]
      generalize m % 128 * 2 ^ (7 * i) = A at *
      have hf1 : 1 ≤ f := by
        rcases Nat.eq_zero_or_pos f with h0 | h0
        · subst h0; simp at hm; omega
        · exact h0
      rw [if_neg (by omega), if_neg (by omega), ih (m / 128) (i + 1) (n + A) hf1 (by omega) hq (by omega) (by omega)]
      generalize m / 128 * 2 ^ (7 * (i + 1)) = B at *
      rw [hs]
      simp
      constructor <;> omega

/-- Groups cut short are none. -/
theorem pGo_cut (f m i j : Nat) (n : Int) (hi : i + f ≤ 9) (hm : m < 128 ^ f) (hn0 : 0 ≤ n) (hn : n + ((m * 2 ^ (7 * i) : Nat) : Int) ≤ 4611686018427387903) (hj : j < (grpF f m).length) :
    pGo ((grpF f m).take j) i n = (0, 0, 4) := by
  induction f generalizing m i n j with
  | zero => simp [grpF] at hj
  | succ f ih =>
    cases j with
    | zero => simp [pGo]
    | succ j =>
      unfold grpF at hj ⊢
      by_cases h : m < 128
      · rw [if_pos h] at hj; simp at hj
      · rw [if_neg h] at hj ⊢
        simp only [List.take_succ_cons, pGo]
        have e : (128 + m % 128) % 128 = m % 128 := by omega
        have hs : m * 2 ^ (7 * i) = m % 128 * 2 ^ (7 * i) + m / 128 * 2 ^ (7 * (i + 1)) := by
          have h1 : 2 ^ (7 * (i + 1)) = 128 * 2 ^ (7 * i) := by rw [Nat.mul_add, Nat.pow_add, Nat.mul_comm]
          rw [h1, ← Nat.mul_assoc, ← Nat.add_mul, Nat.mul_comm (m / 128), Nat.mod_add_div]
        have hq : m / 128 < 128 ^ f := by rw [Nat.div_lt_iff_lt_mul (by decide), ← Nat.pow_succ]; exact hm
        rw [ofNat_lt _ (by omega), if_neg (by omega), e]
        generalize m % 128 * 2 ^ (7 * i) = A at *
        rw [if_neg (by omega), if_neg (by omega)]
        exact ih (m / 128) (i + 1) j (n + A) (by omega) hq (by omega) (by omega) (by simp at hj; omega)

theorem pow_w (w : Nat) (h1 : 1 ≤ w) (h8 : w ≤ 8) : 2 ≤ 2 ^ w ∧ 2 ^ w ≤ 256 := by
  have : w = 1 ∨ w = 2 ∨ w = 3 ∨ w = 4 ∨ w = 5 ∨ w = 6 ∨ w = 7 ∨ w = 8 := by omega
  rcases this with rfl | rfl | rfl | rfl | rfl | rfl | rfl | rfl <;> decide
/-- The low bits are the number's. -/
theorem low_bits (c n M : Nat) (hc : c % M = 0) (hn : n < M) : (c + n) % M = n := by
  rw [Nat.add_mod, hc, Nat.zero_add, Nat.mod_mod]; exact Nat.mod_eq_of_lt hn
theorem fits_byte (c n M : Nat) (hM : M ≤ 256) (hd : M ∣ 256) (hc : c % M = 0) (hc2 : c < 256) (hn : n < M) : c + n < 256 := by
  obtain ⟨q, hq⟩ := hd
  have h1 := Nat.div_add_mod c M
  rw [hc, Nat.add_zero] at h1
  have : c / M < q := by
    apply Nat.lt_of_mul_lt_mul_left (a := M); omega
  have : M * (c / M + 1) ≤ M * q := Nat.mul_le_mul_left _ this
  rw [Nat.mul_add] at this; omega
theorem pow_dvd (w : Nat) (h8 : w ≤ 8) : 2 ^ w ∣ 256 := Nat.pow_dvd_pow 2 h8

theorem pDec_back (w : Nat) (h1 : 1 ≤ w) (h8 : w ≤ 8) (c : UInt8) (hc : c.toNat % 2 ^ w = 0) (n : Nat) (hn : (n : Int) ≤ 4611686018427387903) (more : List UInt8) :
    pDec w (pEnc w c n ++ more) = ((n : Int), ((pEnc w c n).length : Int), 0) := by
  have hp := pow_w w h1 h8
  have hf : ∀ k, k < 2 ^ w → c.toNat + k < 256 := fun k hk => fits_byte _ _ _ hp.2 (pow_dvd w h8) hc c.toNat_lt hk
  unfold pEnc
  by_cases h : n < 2 ^ w - 1
  · rw [if_pos h]
    simp only [List.cons_append, List.nil_append, pDec]
    rw [ofNat_lt _ (hf n (by omega)), low_bits _ _ _ hc (by omega), if_pos h]
    simp
  · rw [if_neg h]
    simp only [List.cons_append, pDec]
    rw [ofNat_lt _ (hf _ (by omega)), low_bits _ _ _ hc (by omega), if_neg (by omega), pGo_back 9 (n - (2 ^ w - 1)) 0 _ more (by decide) (by omega) (by simp; omega) (by omega) (by simp; omega)]
    simp
    omega

theorem pDec_cut (w : Nat) (h1 : 1 ≤ w) (h8 : w ≤ 8) (c : UInt8) (hc : c.toNat % 2 ^ w = 0) (n : Nat) (hn : (n : Int) ≤ 4611686018427387903) (j : Nat) (hj : j < (pEnc w c n).length) :
    pDec w ((pEnc w c n).take j) = (0, 0, 4) := by
  have hp := pow_w w h1 h8
  have hf : ∀ k, k < 2 ^ w → c.toNat + k < 256 := fun k hk => fits_byte _ _ _ hp.2 (pow_dvd w h8) hc c.toNat_lt hk
  cases j with
  | zero => rfl
  | succ j =>
    unfold pEnc at hj ⊢
    by_cases h : n < 2 ^ w - 1
    · rw [if_pos h] at hj; simp at hj
    · rw [if_neg h] at hj ⊢
      simp only [List.take_succ_cons, pDec]
      rw [ofNat_lt _ (hf _ (by omega)), low_bits _ _ _ hc (by omega), if_neg (by omega)]
      exact pGo_cut 9 (n - (2 ^ w - 1)) 0 j _ (by omega) (by simp; omega) (by omega) (by simp; omega) (by simp at hj; omega)
theorem pEnc_len (w : Nat) (c : UInt8) (n : Nat) : 1 ≤ (pEnc w c n).length ∧ (pEnc w c n).length ≤ 10 := by
  unfold pEnc
  have := grpF_len 9 (n - (2 ^ w - 1))
  split <;> simp <;> omega

/-- The code's own spellings. -/
theorem top_w (w : Nat) (h8 : w ≤ 8) : wrap64 (2 ^ w) = ((2 ^ w : Nat) : Int) := by
  have : w = 0 ∨ w = 1 ∨ w = 2 ∨ w = 3 ∨ w = 4 ∨ w = 5 ∨ w = 6 ∨ w = 7 ∨ w = 8 := by omega
  rcases this with rfl | rfl | rfl | rfl | rfl | rfl | rfl | rfl | rfl <;> simp [wrap64]
theorem and_i64_nat (a b : Nat) (ha : a < 9223372036854775808) (hb : b < 9223372036854775808) : bits .and .i64 (a : Int) (b : Int) = ((a &&& b : Nat) : Int) := by
  have hx : a &&& b < 2 ^ 63 := Nat.and_lt_two_pow _ (by omega)
  show IntKind.i64.wrap ((BitVec.ofInt 64 (a : Int) &&& BitVec.ofInt 64 (b : Int)).toNat : Int) = _
  rw [BitVec.toNat_and, ofInt_u64 a (by omega), ofInt_u64 b (by omega), wrap_i64]
  omega
theorem and_top (c w : Nat) (h8 : w ≤ 8) (hc : c < 256) : bits .and .i64 (c : Int) (((2 ^ w : Nat) : Int) - 1) = ((c % 2 ^ w : Nat) : Int) := by
  have hp : 0 < 2 ^ w := Nat.pow_pos (by decide)
  have hle : 2 ^ w ≤ 2 ^ 8 := Nat.pow_le_pow_right (by decide) h8
  rw [show ((2 ^ w : Nat) : Int) - 1 = ((2 ^ w - 1 : Nat) : Int) from by omega, and_i64_nat _ _ (by omega) (by omega), Nat.and_two_pow_sub_one_eq_mod]
theorem or_low (c n w : Nat) (h8 : w ≤ 8) (hc : c % 2 ^ w = 0) (hc2 : c < 256) (hn : n < 2 ^ w) : bits .or .u8 (c : Int) (n : Int) = ((UInt8.ofNat (c + n)).toNat : Int) := by
  have hp : 2 ^ w ≤ 2 ^ 8 := Nat.pow_le_pow_right (by decide) h8
  rw [u8_or_nat _ _ hc2 (by omega), nat_join w c n hc hn, ofNat_lt _ (fits_byte c n _ (by omega) (pow_dvd w h8) hc hc2 hn)]
theorem or_128 (m : Nat) : bits .or .u8 128 ((m : Int) % 128) = ((UInt8.ofNat (128 + m % 128)).toNat : Int) := by
  have := u8_or_nat 128 (m % 128) (by decide) (by omega)
  rw [nat_join 7 128 (m % 128) (by decide) (by omega)] at this
  rw [ofNat_lt _ (by omega), ← this]; simp
theorem grpF_step (f m : Nat) (h : 128 ≤ m) : grpF (f + 1) m = UInt8.ofNat (128 + m % 128) :: grpF f (m / 128) := by
  rw [grpF, if_neg (by omega)]
theorem grpF_last (f m : Nat) (h : m < 128) : grpF (f + 1) m = [UInt8.ofNat m] := by rw [grpF, if_pos h]
end Go.Proofs.Ytihngonemdaihaa
