/- Texts of the proof, laid together: Var Frame FrameMore FrameSafe. -/
import Derived.Test.YtbcagdjfegobnaaGreatC00
import Derived.Test.YtbcagdjfegobnaaGreatC02
/- Plain numbers in bytes: their sizes. -/
namespace Go.Proofs.YtbcagdjfegobnaaGreat
open Go.RowKit
set_option linter.unusedVariables false

/-- How many bytes a number has (0: it is none). -/
def sizeI (n : Int) : Int := if n < 0 ∨ 4611686018427387903 < n then 0 else if n < 64 then 1 else if n < 16384 then 2 else if n < 1073741824 then 4 else 8
/-- What is wrong with it. -/
def sizeE (n : Int) : Int := if n < 0 ∨ 4611686018427387903 < n then 6 else 0

theorem sizeI_cases (n : Int) (h0 : 0 ≤ n) (h1 : n ≤ 4611686018427387903) :
    (n < 64 ∧ sizeI n = 1) ∨ (64 ≤ n ∧ n < 16384 ∧ sizeI n = 2) ∨ (16384 ≤ n ∧ n < 1073741824 ∧ sizeI n = 4) ∨ (1073741824 ≤ n ∧ sizeI n = 8) := by
  unfold sizeI; rw [if_neg (by omega)]
  by_cases a : n < 64
  · exact .inl ⟨a, if_pos a⟩
  · rw [if_neg a]
    by_cases b : n < 16384
    · exact .inr (.inl ⟨by omega, b, if_pos b⟩)
    · rw [if_neg b]
      by_cases c : n < 1073741824
      · exact .inr (.inr (.inl ⟨by omega, c, if_pos c⟩))
      · exact .inr (.inr (.inr ⟨by omega, if_neg c⟩))
theorem sizeE_ok (n : Int) (h0 : 0 ≤ n) (h1 : n ≤ 4611686018427387903) : sizeE n = 0 := by
  unfold sizeE; rw [if_neg (by omega)]

/-- The number of bytes, the highest first, behind a number. -/
def valB (bs : List UInt8) (n : Nat) : Nat := bs.foldl (fun n c => n * 256 + c.toNat) n
theorem valB_snoc (bs : List UInt8) (c : UInt8) (n : Nat) : valB (bs ++ [c]) n = valB bs n * 256 + c.toNat := by simp [valB]
theorem valB_cons (bs : List UInt8) (c : UInt8) (n : Nat) : valB (c :: bs) n = valB bs (n * 256 + c.toNat) := rfl
theorem valB_lt (bs : List UInt8) (n m : Nat) (h : n < m) : valB bs n < m * 256 ^ bs.length := by
  induction bs generalizing n m with
  | nil => simpa [valB] using h
  | cons c l ih =>
    have hc := c.toNat_lt
    have := ih (n * 256 + c.toNat) (m * 256) (by omega)
    rw [valB_cons, List.length_cons, Nat.pow_succ, Nat.mul_comm (256 ^ l.length), ← Nat.mul_assoc]
    exact this

/-- How many bytes a written number has, by its first one. -/
def decLen (bs : List UInt8) : Nat := 2 ^ ((bs.getD 0 0).toNat / 64)
/-- The number of the first byte's low bits and k bytes more. -/
def decN (bs : List UInt8) (k : Nat) : Nat := valB ((bs.drop 1).take k) ((bs.getD 0 0).toNat % 64)
theorem decN_zero (bs : List UInt8) : decN bs 0 = (bs.getD 0 0).toNat % 64 := rfl
theorem decN_lt (bs : List UInt8) (k : Nat) (h : k < bs.length) : decN bs k < 64 * 256 ^ k := by
  have := valB_lt ((bs.drop 1).take k) ((bs.getD 0 0).toNat % 64) 64 (by omega)
  rwa [List.length_take, List.length_drop, Nat.min_eq_left (by omega)] at this
theorem decN_succ (bs : List UInt8) (k : Nat) (h : k + 1 < bs.length) : decN bs (k + 1) = decN bs k * 256 + (bs.getD (1 + k) 0).toNat := by
  unfold decN
  rw [List.take_succ_eq_append_getElem (by simp; omega), valB_snoc]
  simp [List.getD, h, Nat.add_comm 1 k]
theorem decLen_cases (bs : List UInt8) : decLen bs = 1 ∨ decLen bs = 2 ∨ decLen bs = 4 ∨ decLen bs = 8 := by
  have h := (bs.getD 0 0).toNat_lt
  unfold decLen
  have : (bs.getD 0 0).toNat / 64 = 0 ∨ (bs.getD 0 0).toNat / 64 = 1 ∨ (bs.getD 0 0).toNat / 64 = 2 ∨ (bs.getD 0 0).toNat / 64 = 3 := by omega
  rcases this with h | h | h | h <;> rw [h] <;> decide
/-- What is read of bytes: the number, how many bytes it has, what is wrong. -/
def decR (bs : List UInt8) : Int × Int × Int :=
  if bs.length < decLen bs then (0, 0, 4) else (decN bs (decLen bs - 1), decLen bs, 0)

theorem or_i64_nat (a b : Nat) (ha : a < 9223372036854775808) (hb : b < 9223372036854775808) : bits .or .i64 (a : Int) (b : Int) = ((a ||| b : Nat) : Int) := by
  have hx : a ||| b < 2 ^ 63 := Nat.or_lt_two_pow (by omega) (by omega)
  have h1 : (BitVec.ofInt 64 (a : Int)).toNat = a := by
    rw [BitVec.ofInt_natCast, BitVec.toNat_ofNat]; exact Nat.mod_eq_of_lt (by omega)
  have h2 : (BitVec.ofInt 64 (b : Int)).toNat = b := by
    rw [BitVec.ofInt_natCast, BitVec.toNat_ofNat]; exact Nat.mod_eq_of_lt (by omega)
  show IntKind.i64.wrap ((BitVec.ofInt 64 (a : Int) ||| BitVec.ofInt 64 (b : Int)).toNat : Int) = _
  rw [BitVec.toNat_or, h1, h2, wrap_i64]
  omega
/-- 'n<<8 | c'. -/
theorem or_byte (N c : Nat) (hN : N < 18014398509481984) (hc : c < 256) : bits .or .i64 ((N : Int) * 256) (c : Int) = ((N * 256 + c : Nat) : Int) := by
  have e : (N : Int) * 256 = ((N * 256 : Nat) : Int) := by omega
  rw [e, or_i64_nat _ _ (by omega) (by omega), nat_join 8 (N * 256) c (by omega) (by omega)]

theorem decR_cases (bs : List UInt8) : (decR bs = (0, 0, 4) ∧ bs.length < decLen bs) ∨
    ∃ n K : Nat, decR bs = ((n : Int), (K : Int), 0) ∧ K = decLen bs ∧ n = decN bs (K - 1) ∧ K ≤ bs.length ∧ 1 ≤ K ∧ n < 64 * 256 ^ (K - 1) := by
  have hd := decLen_cases bs
  by_cases h : bs.length < decLen bs
  · exact .inl ⟨if_pos h, h⟩
  · exact .inr ⟨_, _, if_neg h, rfl, rfl, by omega, by omega, decN_lt _ _ (by omega)⟩

/-- What is read may be, and has no fewer bytes than it needs. -/
theorem dec_size (bs : List UInt8) (n K : Nat) (hK : K = decLen bs) (hn : n < 64 * 256 ^ (K - 1)) : (n : Int) ≤ 4611686018427387903 ∧ sizeI n ≤ K := by
  have hd := decLen_cases bs
  rw [← hK] at hd
  rcases hd with rfl | rfl | rfl | rfl
  all_goals
    simp at hn
    have hb : (n : Int) ≤ 4611686018427387903 := by omega
    refine ⟨hb, ?_⟩
    rcases sizeI_cases n (by omega) hb with h | h | h | h <;> omega

/-- The k low bytes of a number, the highest first. -/
def beB : Nat → Nat → List UInt8
  | 0, _ => []
  | k + 1, n => UInt8.ofNat (n / 256 ^ k) :: beB k n
theorem beB_length (k n : Nat) : (beB k n).length = k := by
  induction k with
  | zero => rfl
  | succ k ih => simp [beB, ih]
theorem beB_add (k j n m : Nat) (h : k ≤ j) : beB k (n + m * 256 ^ j) = beB k n := by
  induction k with
  | zero => rfl
  | succ k ih =>
    have e : (n + m * 256 ^ j) / 256 ^ k = n / 256 ^ k + (m * 256 ^ (j - k - 1)) * 256 := by
      have : m * 256 ^ j = (m * 256 ^ (j - k - 1) * 256) * 256 ^ k := by
        rw [Nat.mul_assoc, Nat.mul_assoc, Nat.mul_comm 256, ← Nat.pow_succ, ← Nat.pow_add]; congr 2; omega
      rw [this, Nat.add_mul_div_right _ _ (Nat.pow_pos (by decide))]
    rw [beB, beB, ih (by omega), e]
    congr 1
    apply UInt8.toNat_inj.1
    simp
theorem valB_beB (k n m : Nat) (h : n < 256 ^ k) : valB (beB k n) m = m * 256 ^ k + n := by
  induction k generalizing n m with
  | zero => simp [beB, valB] at h ⊢; omega
  | succ k ih =>
    have hp : 0 < 256 ^ k := Nat.pow_pos (by decide)
    have hq : n / 256 ^ k < 256 := by rw [Nat.div_lt_iff_lt_mul hp, Nat.mul_comm, ← Nat.pow_succ]; exact h
    have hb : beB k n = beB k (n % 256 ^ k) := by
      have := beB_add k k (n % 256 ^ k) (n / 256 ^ k) (Nat.le_refl _)
      rwa [Nat.mul_comm, Nat.mod_add_div] at this
    rw [beB, valB_cons, hb, ih _ _ (Nat.mod_lt _ hp)]
    have : (UInt8.ofNat (n / 256 ^ k)).toNat = n / 256 ^ k := by simp; omega
    rw [this, Nat.add_mul, Nat.mul_assoc, Nat.mul_comm 256, ← Nat.pow_succ, Nat.add_assoc, Nat.mul_comm (n / 256 ^ k), Nat.div_add_mod]

/-- The bits that tell how many bytes a number has. -/
def tagOf (k : Nat) : Nat := if k = 1 then 0 else if k = 2 then 1 else if k = 4 then 2 else 3
/-- A number written in bytes. -/
def encK (k n : Nat) : List UInt8 := beB k (n + tagOf k * 64 * 256 ^ (k - 1))
def encB (n : Nat) : List UInt8 := encK (sizeI n).toNat n
theorem encB_length (n : Nat) : (encB n).length = (sizeI n).toNat := beB_length _ _
/-- The low bytes of a number, its highest one with the tag. -/
theorem encK_cons (k n : Nat) (h : n < 64 * 256 ^ k) : encK (k + 1) n = UInt8.ofNat (n / 256 ^ k + tagOf (k + 1) * 64) :: beB k n := by
  unfold encK
  rw [beB, Nat.add_sub_cancel, beB_add k k _ _ (Nat.le_refl _), Nat.add_mul_div_right _ _ (Nat.pow_pos (by decide))]
/-- The tag laid on a byte of six bits. -/
theorem or_tag (N : Nat) (h : N < 64) : bits .or .u8 (N : Int) 64 = ((UInt8.ofNat (N + 1 * 64)).toNat : Int) ∧ bits .or .u8 (N : Int) 128 = ((UInt8.ofNat (N + 2 * 64)).toNat : Int) ∧ bits .or .u8 (N : Int) 192 = ((UInt8.ofNat (N + 3 * 64)).toNat : Int) := by
  have key : ∀ t : Nat, t < 4 → bits .or .u8 (N : Int) ((t * 64 : Nat) : Int) = ((UInt8.ofNat (N + t * 64)).toNat : Int) := by
    intro t ht
    rw [u8_or_nat _ _ (by omega) (by omega), Nat.or_comm, nat_join 6 (t * 64) N (by omega) h]
    simp; omega
  exact ⟨key 1 (by decide), key 2 (by decide), key 3 (by decide)⟩


theorem encB_pos (a : Nat) (ha : (a : Int) ≤ 4611686018427387903) : 1 ≤ (encB a).length ∧ (encB a).length ≤ 8 := by
  rw [encB_length]; have := sizeI_cases a (by omega) ha; omega

theorem beB_low (k n : Nat) : beB k n = beB k (n % 256 ^ k) := by
  have := beB_add k k (n % 256 ^ k) (n / 256 ^ k) (Nat.le_refl _)
  rwa [Nat.mul_comm, Nat.mod_add_div] at this

/-- What a number's bytes are: the first one tells how many there are. -/
theorem encB_form (m : Nat) (hm : (m : Int) ≤ 4611686018427387903) : ∃ k t : Nat, encB m = UInt8.ofNat (m / 256 ^ k + t * 64) :: beB k m ∧ m / 256 ^ k < 64 ∧ t < 4 ∧ 2 ^ t = k + 1 := by
  have key : ∀ k t, (sizeI m).toNat = k + 1 → tagOf (k + 1) = t → t < 4 → 2 ^ t = k + 1 → m < 64 * 256 ^ k → ∃ k t : Nat, encB m = UInt8.ofNat (m / 256 ^ k + t * 64) :: beB k m ∧ m / 256 ^ k < 64 ∧ t < 4 ∧ 2 ^ t = k + 1 := by
    intro k t h1 h2 h3 h4 h5
    refine ⟨k, t, ?_, by rwa [Nat.div_lt_iff_lt_mul (Nat.pow_pos (by decide))], h3, h4⟩
    unfold encB
    rw [h1, encK_cons k m h5, h2]
  rcases sizeI_cases m (by omega) hm with ⟨h, e⟩ | ⟨_, h, e⟩ | ⟨_, h, e⟩ | ⟨_, e⟩
  · exact key 0 0 (by omega) rfl (by decide) rfl (by omega)
  · exact key 1 1 (by omega) rfl (by decide) rfl (by simp; omega)
  · exact key 3 2 (by omega) rfl (by decide) rfl (by simp; omega)
  · exact key 7 3 (by omega) rfl (by decide) rfl (by simp; omega)

theorem tag_div (q t : Nat) (hq : q < 64) : (q + t * 64) / 64 = t := by omega
theorem tag_mod (q t : Nat) (hq : q < 64) : (q + t * 64) % 64 = q := by omega
theorem ofNat_tag (q t : Nat) (hq : q < 64) (ht : t < 4) : (UInt8.ofNat (q + t * 64)).toNat = q + t * 64 := by simp; omega

/-- A number is read as_v it was written, whatever stands behind it. -/
theorem dec_back (m : Nat) (hm : (m : Int) ≤ 4611686018427387903) (more : List UInt8) : decR (encB m ++ more) = ((m : Int), ((encB m).length : Int), 0) := by
  obtain ⟨k, t, e, hq, ht, hk⟩ := encB_form m hm
  have hl : (encB m).length = k + 1 := by rw [e]; simp [beB_length]
  have hd : decLen (encB m ++ more) = k + 1 := by
    unfold decLen; rw [e]
    simp only [List.cons_append, List.getD, List.getElem?_cons_zero, Option.getD_some]
    rw [ofNat_tag _ _ hq ht, tag_div _ _ hq, hk]
  unfold decR
  rw [if_neg (by rw [hd, List.length_append]; omega), hd, hl]
  have hN : decN (encB m ++ more) (k + 1 - 1) = m := by
    unfold decN; rw [e]
    simp only [List.cons_append, List.getD, List.getElem?_cons_zero, Option.getD_some, List.drop_succ_cons, List.drop_zero, Nat.add_sub_cancel]
    have hta : (beB k m ++ more).take k = beB k m := by
      have := List.take_left (l₁ := beB k m) (l₂ := more)
      rwa [beB_length] at this
    rw [ofNat_tag _ _ hq ht, tag_mod _ _ hq, hta, beB_low, valB_beB _ _ _ (Nat.mod_lt _ (Nat.pow_pos (by decide)))]
    rw [Nat.mul_comm]; exact Nat.div_add_mod _ _
  rw [hN]


theorem beB_take_length (k n m : Nat) : ((beB k n).take (k - m)).length = k - m := by rw [List.length_take, beB_length]; omega
/-- The first bytes, one more. -/
theorem beB_take (k n m : Nat) (h : 1 ≤ m) (hm : m ≤ k) : (beB k n).take (k - m) ++ [UInt8.ofNat (n / 256 ^ (m - 1))] = (beB k n).take (k - (m - 1)) := by
  induction k with
  | zero => omega
  | succ k ih =>
    by_cases e : m = k + 1
    · subst e
      rw [Nat.sub_self, Nat.add_sub_cancel, show k + 1 - k = 1 from by omega, beB]; rfl
    · rw [show k + 1 - m = (k - m) + 1 from by omega, show k + 1 - (m - 1) = (k - (m - 1)) + 1 from by omega, beB, List.take_succ_cons, List.take_succ_cons, List.cons_append, ih (by omega)]

/-- The byte of a number shifted. -/
theorem byte_shift (n j : Nat) : (n : Int) / 2 ^ (8 * j) % 256 = ((UInt8.ofNat (n / 256 ^ j)).toNat : Int) := by
  have e : (256 : Nat) ^ j = 2 ^ (8 * j) := by rw [Nat.pow_mul]
  rw [e]; simp

/-- How many bytes of a number one needs who is so far behind. -/
def cutK (d : Nat) : Nat := if d ≤ 128 then 1 else if d ≤ 32768 then 2 else if d ≤ 8388608 then 3 else 4
theorem cutK_cases (d : Nat) : (cutK d = 1 ∧ d ≤ 128) ∨ (cutK d = 2 ∧ 128 < d ∧ d ≤ 32768) ∨ (cutK d = 3 ∧ 32768 < d ∧ d ≤ 8388608) ∨ (cutK d = 4 ∧ 8388608 < d) := by
  unfold cutK
  by_cases h1 : d ≤ 128
  · exact .inl ⟨if_pos h1, h1⟩
  · rw [if_neg h1]
    by_cases h2 : d ≤ 32768
    · exact .inr (.inl ⟨if_pos h2, by omega, h2⟩)
    · rw [if_neg h2]
      by_cases h3 : d ≤ 8388608
      · exact .inr (.inr (.inl ⟨if_pos h3, by omega, h3⟩))
      · exact .inr (.inr (.inr ⟨if_neg h3, by omega⟩))

theorem nat_clear (a k : Nat) (hk : k ≤ 64) (ha : a < 2 ^ 64) : a &&& (2 ^ 64 - 2 ^ k) = a - a % 2 ^ k := by
  have hp : 0 < 2 ^ k := Nat.pow_pos (by decide)
  have hM : 2 ^ 64 - 2 ^ k = (2 ^ (64 - k) - 1) * 2 ^ k := by
    rw [Nat.sub_mul, ← Nat.pow_add, show 64 - k + k = 64 from by omega, Nat.one_mul]
  have h1 : (a &&& (2 ^ 64 - 2 ^ k)) % 2 ^ k = 0 := by
    rw [Nat.and_mod_two_pow, hM, Nat.mul_mod_left, Nat.and_zero]
  have h2 : (a &&& (2 ^ 64 - 2 ^ k)) / 2 ^ k = a / 2 ^ k := by
    rw [← Nat.shiftRight_eq_div_pow, Nat.shiftRight_and_distrib, Nat.shiftRight_eq_div_pow, Nat.shiftRight_eq_div_pow, hM, Nat.mul_div_cancel _ hp, Nat.and_two_pow_sub_one_eq_mod]
    apply Nat.mod_eq_of_lt
    rw [Nat.div_lt_iff_lt_mul hp, ← Nat.pow_add, show 64 - k + k = 64 from by omega]
    exact ha
  have h3 := Nat.div_add_mod (a &&& (2 ^ 64 - 2 ^ k)) (2 ^ k)
  have h4 := Nat.div_add_mod a (2 ^ k)
  rw [h1, h2] at h3
  omega

/-- 'x &^ (2^k - 1)'. -/
theorem andNot_i64 (x : Int) (k : Nat) (h0 : 0 ≤ x) (h1 : x < 9223372036854775808) (hk : k ≤ 62) : bits .andNot .i64 x ((2 ^ k : Nat) - 1 : Int) = x - x % (2 ^ k : Nat) := by
  obtain ⟨X, rfl⟩ := Int.eq_ofNat_of_zero_le h0
  have hp : 0 < 2 ^ k := Nat.pow_pos (by decide)
  have hle : 2 ^ k ≤ 2 ^ 62 := Nat.pow_le_pow_right (by decide) hk
  have e1 : ((2 ^ k : Nat) - 1 : Int) = ((2 ^ k - 1 : Nat) : Int) := by omega
  rw [e1]
  show IntKind.i64.wrap ((BitVec.ofInt 64 (X : Int) &&& ~~~BitVec.ofInt 64 ((2 ^ k - 1 : Nat) : Int)).toNat : Int) = _
  rw [BitVec.toNat_and, BitVec.toNat_not, ofInt_u64 X (by omega), ofInt_u64 (2 ^ k - 1) (by omega), show 2 ^ 64 - 1 - (2 ^ k - 1) = 2 ^ 64 - 2 ^ k from by omega, nat_clear X k (by omega) (by omega), wrap_i64]
  have := Nat.mod_le X (2 ^ k)
  have e : (((X - X % 2 ^ k : Nat)) : Int) = (X : Int) - (X : Int) % ((2 ^ k : Nat) : Int) := by
    rw [← Int.natCast_emod]; omega
  rw [← e]
  omega

/-- 'x &^ (2^k - 1) | low'. -/
theorem clear_or (x : Int) (k low : Nat) (h0 : 0 ≤ x) (h1 : x < 9223372036854775808) (hk : k ≤ 62) (hl : low < 2 ^ k) :
    bits .or .i64 (x - x % (2 ^ k : Nat)) (low : Int) = x - x % (2 ^ k : Nat) + low := by
  obtain ⟨X, rfl⟩ := Int.eq_ofNat_of_zero_le h0
  have hle : 2 ^ k ≤ 2 ^ 62 := Nat.pow_le_pow_right (by decide) hk
  have hm := Nat.mod_le X (2 ^ k)
  have e : (X : Int) - (X : Int) % ((2 ^ k : Nat) : Int) = ((X - X % 2 ^ k : Nat) : Int) := by
    rw [← Int.natCast_emod]; omega
  have hz : (X - X % 2 ^ k) % 2 ^ k = 0 := by
    have h4 := Nat.div_add_mod X (2 ^ k)
    rw [show X - X % 2 ^ k = 2 ^ k * (X / 2 ^ k) from by omega, Nat.mul_mod_right]
  rw [e, or_i64_nat _ _ (by omega) (by omega), nat_join k _ low hz hl]
  omega

/-- The number made whole: the next one, the window, the low bits. -/
def wholeN (next win low : Int) : Int :=
  if next - next % win + low ≤ next - win / 2 ∧ next - next % win + low < 4611686018427387904 - win then next - next % win + low + win
  else if next + win / 2 < next - next % win + low ∧ win ≤ next - next % win + low then next - next % win + low - win
  else next - next % win + low

theorem valB_take (bs : List UInt8) (n k : Nat) (h : k < bs.length) : valB (bs.take (k + 1)) n = valB (bs.take k) n * 256 + (bs.getD k 0).toNat := by
  rw [List.take_succ_eq_append_getElem h, valB_snoc]
  simp [List.getD, h]

/-- What was cut is made whole. -/
theorem whole_back (m a top : Int) (K : Nat) (hm0 : 0 ≤ m) (hm : m ≤ 2305843009213693952) (ha : -1 ≤ a) (ham : a < m) (ht : a ≤ top) (htm : top < m) (hd : m - a ≤ 1048576 + 1) (hK : cutK (m - a).toNat = K) :
    wholeN (top + 1) (256 ^ K : Nat) (valB (beB K m.toNat) 0) = m := by
  have hp : 0 < 256 ^ K := Nat.pow_pos (by decide)
  have hv : ((valB (beB K m.toNat) 0 : Nat) : Int) = m % (256 ^ K : Nat) := by
    rw [beB_low, valB_beB _ _ _ (Nat.mod_lt _ hp), Nat.zero_mul, Nat.zero_add, Int.natCast_emod, Int.toNat_of_nonneg hm0]
  rw [hv]
  have hc := cutK_cases (m - a).toNat
  rw [hK] at hc
  clear hv
  have h1 := Int.mul_ediv_add_emod m (256 ^ K : Nat)
  have h2 := Int.mul_ediv_add_emod (top + 1) (256 ^ K : Nat)
  have b1 := Int.emod_nonneg m (show ((256 ^ K : Nat) : Int) ≠ 0 by omega)
  have b2 := Int.emod_lt_of_pos m (show (0 : Int) < ((256 ^ K : Nat) : Int) by omega)
  have b3 := Int.emod_nonneg (top + 1) (show ((256 ^ K : Nat) : Int) ≠ 0 by omega)
  have b4 := Int.emod_lt_of_pos (top + 1) (show (0 : Int) < ((256 ^ K : Nat) : Int) by omega)
  have fin : ∀ W : Int, ((256 ^ K : Nat) : Int) = W → (W = 256 ∨ W = 65536 ∨ W = 16777216) → 2 * (m - a) ≤ W → wholeN (top + 1) (256 ^ K : Nat) (m % (256 ^ K : Nat)) = m := by
    intro W hW hW' hda
    rw [hW] at h1 h2 b1 b2 b3 b4 ⊢
    unfold wholeN
    rcases hW' with rfl | rfl | rfl <;> (split <;> (try split) <;> omega)
  rcases hc with ⟨e, h⟩ | ⟨e, h, h'⟩ | ⟨e, h, h'⟩ | ⟨e, h⟩
  · exact fin 256 (by rw [e]; rfl) (by simp) (by omega)
  · exact fin 65536 (by rw [e]; rfl) (by simp) (by omega)
  · exact fin 16777216 (by rw [e]; rfl) (by simp) (by omega)
  · omega

theorem beB_get (k n j : Nat) (h : j < k) : (beB k n).getD j 0 = UInt8.ofNat (n / 256 ^ (k - 1 - j)) := by
  induction k generalizing j with
  | zero => omega
  | succ k ih =>
    cases j with
    | zero => simp [beB]
    | succ j =>
      have := ih j (by omega)
      simp only [beB, List.getD_cons_succ] at this ⊢
      rw [this, show k + 1 - 1 - (j + 1) = k - 1 - j from by omega]
/-- A row filled from its head on: one more. -/
theorem fill_set (l : List UInt8) (N k : Nat) (hl : l.length = N) (hk : k < N) : (l.take k ++ List.replicate (N - k) 0).set k (l.getD k 0) = l.take (k + 1) ++ List.replicate (N - (k + 1)) 0 := by
  rw [List.set_append_right _ _ (by simp; omega), List.take_succ_eq_append_getElem (by omega), List.append_assoc, show N - k = (N - (k + 1)) + 1 from by omega, List.replicate_succ]
  congr 1
  simp [List.length_take, Nat.min_eq_left (show k ≤ l.length by omega), List.getD, show k < l.length by omega]
theorem eight_byte (n k : Nat) (hk : k < 8) : (n : Int) / 2 ^ (56 - 8 * k) % 256 = (((beB 8 n).getD k 0).toNat : Int) := by
  rw [beB_get 8 n k hk, show 56 - 8 * k = 8 * (8 - 1 - k) from by omega, byte_shift]
end Go.Proofs.YtbcagdjfegobnaaGreat
/- Plain: frames of packets in bytes. -/
namespace Go.Proofs.YtbcagdjfegobnaaGreat
open Go.RowKit
set_option linter.unusedVariables false

structure FrD where
  kind : Nat
  id : Nat
  off : Nat
  fin : Bool
  code : Nat
  rngs : List Rng
  data : List UInt8
def fnil : FrD := ⟨0, 0, 0, false, 0, [], []⟩

/-! parts that a kind of frame has -/
def pId (k : Nat) : Bool := k == 4 || k == 5 || k == 8 || k == 17
def pOff (k : Nat) : Bool := k == 4 || k == 6 || k == 8 || k == 16 || k == 17 || k == 18
def pCode (k : Nat) : Bool := k == 4 || k == 5 || k == 26 || k == 27 || k == 28
def pData (k : Nat) : Bool := k == 6 || k == 7 || k == 8
def pFin (k : Nat) : Bool := k == 8
def pWord (k : Nat) : Bool := k == 26 || k == 27
def kOk (k : Nat) : Bool := k == 0 || k == 1 || k == 2 || k == 30 || pId k || pOff k || pCode k || pData k

/-- Ranges, the highest first, the first one below p. -/
def goodDown : Int → List Rng → Prop
  | _, [] => True
  | p, x :: l => x.2 + 2 ≤ p ∧ x.1 ≤ x.2 ∧ 0 ≤ x.1 ∧ goodDown x.1 l
theorem goodFrom_snoc {b : Int} {l : List Rng} (h : goodFrom b l) (x : Rng) (hb : b ≤ x.1) (h1 : x.1 ≤ x.2) (h2 : x.2 ≤ 4611686018427387903) (hl : ∀ y ∈ l, y.2 + 2 ≤ x.1) : goodFrom b (l ++ [x]) := by
  induction l generalizing b with
  | nil => exact ⟨hb, h1, h2, trivial⟩
  | cons y l ih =>
    obtain ⟨a1, a2, a3, a4⟩ := h
    exact ⟨a1, a2, a3, ih a4 (by have := hl y List.mem_cons_self; omega) (fun z hz => hl z (List.mem_cons_of_mem _ hz))⟩
theorem goodDown_from {p : Int} {l : List Rng} (h : goodDown p l) (hp : p ≤ 4611686018427387905) : goodFrom 0 l.reverse ∧ ∀ y ∈ l, y.2 + 2 ≤ p := by
  induction l generalizing p with
  | nil => exact ⟨trivial, fun y hy => by cases hy⟩
  | cons x l ih =>
    obtain ⟨a1, a2, a3, a4⟩ := h
    obtain ⟨b1, b2⟩ := ih a4 (by omega)
    rw [List.reverse_cons]
    refine ⟨goodFrom_snoc b1 x a3 a2 (by omega) (fun y hy => b2 y (List.mem_reverse.1 hy)), fun y hy => ?_⟩
    rcases List.mem_cons.1 hy with rfl | hy
    · exact a1
    · have := b2 y hy; omega

/-- A frame that may be. -/
structure FrOk (f : FrD) : Prop where
  kind : kOk f.kind = true
  len : f.data.length ≤ 120
  many : f.rngs.length ≤ 6
  id : f.id ≤ 4611686018427387903
  noId : pId f.kind = false → f.id = 0
  off : f.off ≤ 4611686018427387903
  noOff : pOff f.kind = false → f.off = 0
  code : f.code ≤ 4611686018427387903
  noCode : pCode f.kind = false → f.code = 0
  far : pData f.kind = true → f.off + f.data.length ≤ 4611686018427387903
  noData : pData f.kind = false → f.data = []
  noFin : pFin f.kind = false → f.fin = false
  ack : f.kind = 2 ↔ f.rngs ≠ []
  rngs : goodDown 4611686018427387905 f.rngs

/-! ### in bytes -/
def encRs : Int → List Rng → List UInt8
  | _, [] => []
  | p, x :: l => encB (p - x.2 - 2).toNat ++ (encB (x.2 - x.1).toNat ++ encRs x.1 l)
def encRng : List Rng → List UInt8
  | [] => []
  | x :: l => encB x.2.toNat ++ (encB l.length ++ (encB (x.2 - x.1).toNat ++ encRs x.1 l))
/-- A frame's first number. -/
def fkind (f : FrD) : Nat := if f.kind = 8 then (if f.fin then 15 else 14) else f.kind
def encIf (b : Bool) (n : Nat) : List UInt8 := if b then encB n else []
def encC (w c : Bool) (n : Nat) : List UInt8 := if w then beB 8 n else encIf c n
def encD (b : Bool) (d : List UInt8) : List UInt8 := if b then encB d.length ++ d else []
def fenc (f : FrD) : List UInt8 := encB (fkind f) ++ encRng f.rngs ++ encIf (pId f.kind) f.id ++ encIf (pOff f.kind) f.off ++ encC (pWord f.kind) (pCode f.kind) f.code ++ encD (pData f.kind) f.data

/-! ### read, till something is wrong -/
structure EyeD where
  b : List UInt8
  u : Nat
  e : Int
def yFail (e : Int) (y : EyeD) : EyeD := if y.e = 0 then ⟨y.b, y.u, e⟩ else y
def yNum (y : EyeD) : Nat × EyeD :=
  if y.e ≠ 0 then (0, y) else
  if (decR y.b).2.2 ≠ 0 then (0, ⟨y.b, y.u, (decR y.b).2.2⟩) else
  ((decR y.b).1.toNat, ⟨y.b.drop (decR y.b).2.1.toNat, y.u + (decR y.b).2.1.toNat, 0⟩)
def yTake (n : Nat) (y : EyeD) : List UInt8 × EyeD :=
  if y.e ≠ 0 then ([], y) else
  if y.b.length < n then ([], ⟨y.b, y.u, 4⟩) else
  (y.b.take n, ⟨y.b.drop n, y.u + n, 0⟩)
def yStep (hi : Int) (y : EyeD) : Rng × EyeD := ((hi - (yNum y).1, hi), if hi - (yNum y).1 < 0 then yFail 6 (yNum y).2 else (yNum y).2)
def yMore : Nat → Int → EyeD → List Rng × EyeD
  | 0, _, y => ([], y)
  | k + 1, lo, y =>
    if y.e ≠ 0 then ([], y) else
    ((yStep (lo - (yNum y).1 - 2) (yNum y).2).1 :: (yMore k (yStep (lo - (yNum y).1 - 2) (yNum y).2).1.1 (yStep (lo - (yNum y).1 - 2) (yNum y).2).2).1,
     (yMore k (yStep (lo - (yNum y).1 - 2) (yNum y).2).1.1 (yStep (lo - (yNum y).1 - 2) (yNum y).2).2).2)
def yMany (y : EyeD) : Nat × EyeD := ((yNum y).1, if 6 ≤ (yNum y).1 then yFail 1 (yNum y).2 else (yNum y).2)
/-- The ranges behind their highest number and how many there are. -/
def yList (hi : Int) (n : Nat) (y : EyeD) : List Rng × EyeD :=
  if y.e ≠ 0 then ([], y) else
  ((yStep hi y).1 :: (yMore n (yStep hi y).1.1 (yStep hi y).2).1, (yMore n (yStep hi y).1.1 (yStep hi y).2).2)
def yRngs (y : EyeD) : List Rng × EyeD := yList (yNum y).1 (yMany (yNum y).2).1 (yMany (yNum y).2).2
def ifR (b : Bool) (y : EyeD) : List Rng × EyeD := if b then yRngs y else ([], y)
def ifN (b : Bool) (y : EyeD) : Nat × EyeD := if b then yNum y else (0, y)
def ifC (w c : Bool) (y : EyeD) : Nat × EyeD := if w then (valB (yTake 8 y).1 0, (yTake 8 y).2) else ifN c y
def yData (y : EyeD) : List UInt8 × EyeD := yTake (yNum y).1 (if 120 < (yNum y).1 then yFail 1 (yNum y).2 else (yNum y).2)
def ifD (b : Bool) (y : EyeD) : List UInt8 × EyeD := if b then yData y else ([], y)
def fbody (k : Nat) (fin : Bool) (y : EyeD) : FrD × EyeD :=
  let r := ifR (k == 2) y
  let i := ifN (pId k) r.2
  let o := ifN (pOff k) i.2
  let c := ifC (pWord k) (pCode k) o.2
  let d := ifD (pData k) c.2
  (⟨k, i.1, o.1, fin, c.1, r.1, d.1⟩, d.2)
/-- What may still be wrong with a frame that was read. -/
def frB (f : FrD) : Bool := decide (f.code ≤ 4611686018427387903) && (!pData f.kind || decide (f.off + f.data.length ≤ 4611686018427387903))
def kindOf (n : Nat) : Nat := if n = 14 ∨ n = 15 then 8 else n
/-- What is read of bytes: the frame, how many bytes it has, what is wrong. -/
def fdec (bs : List UInt8) : FrD × Nat × Int :=
  let n := yNum ⟨bs, 0, 0⟩
  if n.2.e ≠ 0 then (fnil, 0, n.2.e) else
  if n.1 = 8 then (fnil, 0, 2) else
  if kOk (kindOf n.1) = false then (fnil, 0, 2) else
  let f := fbody (kindOf n.1) (n.1 == 15) n.2
  if f.2.e ≠ 0 then (fnil, 0, f.2.e) else
  if frB f.1 = false then (fnil, 0, 6) else (f.1, f.2.u, 0)

/-! ### read as_v it was written -/
theorem yNum_back (n : Nat) (h : n ≤ 4611686018427387903) (r : List UInt8) (u : Nat) : yNum ⟨encB n ++ r, u, 0⟩ = (n, ⟨r, u + (encB n).length, 0⟩) := by
  have hd := dec_back n (by omega) r
  simp only [yNum, hd, Int.toNat_natCast, List.drop_left, ne_eq, not_true_eq_false, if_false]
theorem yTake_back (d r : List UInt8) (u n : Nat) (h : d.length = n) : yTake n ⟨d ++ r, u, 0⟩ = (d, ⟨r, u + n, 0⟩) := by
  subst h
  simp [yTake]
theorem yStep_back (x : Rng) (h1 : x.1 ≤ x.2) (h0 : 0 ≤ x.1) (h2 : x.2 ≤ 4611686018427387903) (r : List UInt8) (u : Nat) :
    yStep x.2 ⟨encB (x.2 - x.1).toNat ++ r, u, 0⟩ = (x, ⟨r, u + (encB (x.2 - x.1).toNat).length, 0⟩) := by
  have hn := yNum_back (x.2 - x.1).toNat (by omega) r u
  simp only [yStep, hn]
  have e : x.2 - ((x.2 - x.1).toNat : Int) = x.1 := by omega
  rw [e, if_neg (by omega)]
theorem yMore_back {p : Int} {l : List Rng} (h : goodDown p l) (hp : p ≤ 4611686018427387905) (r : List UInt8) (u : Nat) :
    yMore l.length p ⟨encRs p l ++ r, u, 0⟩ = (l, ⟨r, u + (encRs p l).length, 0⟩) := by
  induction l generalizing p u with
  | nil => rfl
  | cons x l ih =>
    obtain ⟨a1, a2, a3, a4⟩ := h
    have hx : 0 ≤ x.2 := by omega
    have e1 := yNum_back (p - x.2 - 2).toNat (by omega) (encB (x.2 - x.1).toNat ++ (encRs x.1 l ++ r)) u
    have e2 : p - (((p - x.2 - 2).toNat : Nat) : Int) - 2 = x.2 := by omega
    have e3 := yStep_back x a2 a3 (by omega) (encRs x.1 l ++ r) (u + (encB (p - x.2 - 2).toNat).length)
    have e4 := ih a4 (by omega) (u + (encB (p - x.2 - 2).toNat).length + (encB (x.2 - x.1).toNat).length)
    show yMore (l.length + 1) p _ = _
    rw [encRs, List.append_assoc, List.append_assoc]
    simp only [yMore, e1, e2, e3, e4, ne_eq, not_true_eq_false, if_false, List.length_append]
    simp only [Nat.add_assoc]
theorem yRngs_back {l : List Rng} (h : goodDown 4611686018427387905 l) (hl : l.length ≤ 6) (hn : l ≠ []) (r : List UInt8) (u : Nat) :
    yRngs ⟨encRng l ++ r, u, 0⟩ = (l, ⟨r, u + (encRng l).length, 0⟩) := by
  cases l with
  | nil => exact absurd rfl hn
  | cons x l =>
    obtain ⟨a1, a2, a3, a4⟩ := h
    simp only [List.length_cons] at hl
    have e1 := yNum_back x.2.toNat (by omega) (encB l.length ++ (encB (x.2 - x.1).toNat ++ (encRs x.1 l ++ r))) u
    have e2 := yNum_back l.length (by omega) (encB (x.2 - x.1).toNat ++ (encRs x.1 l ++ r)) (u + (encB x.2.toNat).length)
    have e3 := yStep_back x a2 a3 (by omega) (encRs x.1 l ++ r) (u + (encB x.2.toNat).length + (encB l.length).length)
    have e4 := yMore_back a4 (by omega) r (u + (encB x.2.toNat).length + (encB l.length).length + (encB (x.2 - x.1).toNat).length)
    have e5 : ((x.2.toNat : Nat) : Int) = x.2 := by omega
    rw [encRng, List.append_assoc, List.append_assoc, List.append_assoc]
    have e6 : ¬ 6 ≤ l.length := by omega
    simp only [yRngs, yMany, yList, e1, e2, e5, if_neg e6, e3, e4, ne_eq, not_true_eq_false, if_false, List.length_append]
    simp only [Nat.add_assoc]
theorem ifN_back (b : Bool) (n : Nat) (h : n ≤ 4611686018427387903) (h0 : b = false → n = 0) (r : List UInt8) (u : Nat) : ifN b ⟨encIf b n ++ r, u, 0⟩ = (n, ⟨r, u + (encIf b n).length, 0⟩) := by
  cases b with
  | true => exact yNum_back n h r u
  | false => rw [h0 rfl]; rfl
theorem ifC_back (w c : Bool) (n : Nat) (h : n ≤ 4611686018427387903) (h0 : c = false → n = 0) (r : List UInt8) (u : Nat) : ifC w c ⟨encC w c n ++ r, u, 0⟩ = (n, ⟨r, u + (encC w c n).length, 0⟩) := by
  cases w with
  | false => exact ifN_back c n h h0 r u
  | true =>
    have e := yTake_back (beB 8 n) r u 8 (beB_length 8 n)
    show (valB (yTake 8 ⟨beB 8 n ++ r, u, 0⟩).1 0, (yTake 8 ⟨beB 8 n ++ r, u, 0⟩).2) = _
    rw [e, valB_beB 8 n 0 (by omega)]
    simp [encC, beB_length]
theorem ifD_back (b : Bool) (d : List UInt8) (h : d.length ≤ 120) (h0 : b = false → d = []) (r : List UInt8) (u : Nat) : ifD b ⟨encD b d ++ r, u, 0⟩ = (d, ⟨r, u + (encD b d).length, 0⟩) := by
  cases b with
  | false => rw [h0 rfl]; rfl
  | true =>
    show yData ⟨(encB d.length ++ d) ++ r, u, 0⟩ = _
    have e := yNum_back d.length (by omega) (d ++ r) u
    rw [List.append_assoc]
    simp only [yData, e, if_neg (show ¬ 120 < d.length by omega), yTake_back d r _ _ rfl]
    simp [encD, Nat.add_assoc]
theorem ifR_back (k : Nat) {l : List Rng} (h : goodDown 4611686018427387905 l) (hl : l.length ≤ 6) (hk : k = 2 ↔ l ≠ []) (r : List UInt8) (u : Nat) :
    ifR (k == 2) ⟨encRng l ++ r, u, 0⟩ = (l, ⟨r, u + (encRng l).length, 0⟩) := by
  by_cases h2 : k = 2
  · rw [show (k == 2) = true from by simp [h2]]
    exact yRngs_back h hl (hk.1 h2) r u
  · rw [show (k == 2) = false from by simp [h2]]
    have : l = [] := Classical.not_not.1 fun hn => h2 (hk.2 hn)
    subst this; rfl
theorem frB_ok {f : FrD} (ok : FrOk f) : frB f = true := by
  have h1 := ok.code
  unfold frB
  rw [decide_eq_true h1]
  cases hp : pData f.kind with
  | false => rfl
  | true => simp [ok.far hp]
theorem fkind_cases (f : FrD) (ok : FrOk f) : fkind f ≤ 30 ∧ fkind f ≠ 8 ∧ kindOf (fkind f) = f.kind ∧ (fkind f == 15) = f.fin := by
  have hk := ok.kind
  have hf := ok.noFin
  have hle : f.kind = 0 ∨ f.kind = 1 ∨ f.kind = 2 ∨ f.kind = 30 ∨ f.kind = 4 ∨ f.kind = 5 ∨ f.kind = 8 ∨ f.kind = 17 ∨ f.kind = 6 ∨ f.kind = 16 ∨ f.kind = 18 ∨ f.kind = 26 ∨ f.kind = 27 ∨ f.kind = 28 ∨ f.kind = 7 := by
    simp only [kOk, pId, pOff, pCode, pData, Bool.or_eq_true, beq_iff_eq] at hk
    omega
  by_cases h8 : f.kind = 8
  · unfold fkind kindOf
    rw [if_pos h8]
    cases f.fin with
    | true => simp [h8]
    | false => simp [h8]
  · have hfin : f.fin = false := hf (by simp [pFin, h8])
    unfold fkind kindOf
    rw [if_neg h8, hfin, if_neg (by omega)]
    exact ⟨by omega, h8, rfl, by rcases hle with h | h | h | h | h | h | h | h | h | h | h | h | h | h | h <;> rw [h] <;> rfl⟩
theorem fbody_back (f : FrD) (ok : FrOk f) (r : List UInt8) (u : Nat) :
    fbody f.kind f.fin ⟨encRng f.rngs ++ (encIf (pId f.kind) f.id ++ (encIf (pOff f.kind) f.off ++ (encC (pWord f.kind) (pCode f.kind) f.code ++ (encD (pData f.kind) f.data ++ r)))), u, 0⟩ =
      (f, ⟨r, u + (encRng f.rngs).length + (encIf (pId f.kind) f.id).length + (encIf (pOff f.kind) f.off).length + (encC (pWord f.kind) (pCode f.kind) f.code).length + (encD (pData f.kind) f.data).length, 0⟩) := by
  simp only [fbody, ifR_back f.kind ok.rngs ok.many ok.ack, ifN_back _ _ ok.id ok.noId, ifN_back _ _ ok.off ok.noOff, ifC_back _ _ _ ok.code ok.noCode, ifD_back _ _ ok.len ok.noData]
/-- A frame is read as_v it was written, whatever stands behind it. -/
theorem fdec_back (f : FrD) (ok : FrOk f) (more : List UInt8) : fdec (fenc f ++ more) = (f, (fenc f).length, 0) := by
  obtain ⟨h1, h2, h3, h4⟩ := fkind_cases f ok
  have e1 := yNum_back (fkind f) (by omega) (encRng f.rngs ++ (encIf (pId f.kind) f.id ++ (encIf (pOff f.kind) f.off ++ (encC (pWord f.kind) (pCode f.kind) f.code ++ (encD (pData f.kind) f.data ++ more))))) 0
  have e2 := fbody_back f ok more (0 + (encB (fkind f)).length)
  have hb : fenc f ++ more = encB (fkind f) ++ (encRng f.rngs ++ (encIf (pId f.kind) f.id ++ (encIf (pOff f.kind) f.off ++ (encC (pWord f.kind) (pCode f.kind) f.code ++ (encD (pData f.kind) f.data ++ more))))) := by
    simp only [fenc, List.append_assoc]
  rw [hb]
  unfold fdec
  simp only [e1, h3, h4, e2, ok.kind, frB_ok ok, if_neg h2, ne_eq, not_true_eq_false, if_false, Bool.true_eq_false]
  simp only [fenc, List.length_append, Nat.zero_add]
def sameR (l m : List Rng) : Bool := decide (l = m)
/-- Are two frames the same? -/
def sameF (a b : FrD) : Bool := a.kind == b.kind && (a.id == b.id && (a.off == b.off && (a.fin == b.fin && (a.code == b.code && (decide (a.rngs = b.rngs) && a.data == b.data)))))
theorem encB_le8 (n : Nat) (h : n ≤ 4611686018427387903) : (encB n).length ≤ 8 ∧ 1 ≤ (encB n).length := by
  have := encB_pos n (by omega); omega
end Go.Proofs.YtbcagdjfegobnaaGreat
/- Plain: what is read of frames does not depend on what stands behind; what is read may be, and is written in no more bytes. -/
namespace Go.Proofs.YtbcagdjfegobnaaGreat
open Go.RowKit
set_option linter.unusedVariables false

theorem dropF_app {α : Type} (p q : List α) (k : Nat) (h : k ≤ p.length) : (p ++ q).drop k = p.drop k ++ q := List.drop_append_of_le_length h
theorem midF_app {α : Type} (p q : List α) (u n : Nat) (h : u + n ≤ p.length) : ((p ++ q).drop u).take n = (p.drop u).take n := by
  rw [List.drop_append_of_le_length (by omega), List.take_append_of_le_length (by simp; omega)]
theorem getDF_app {α : Type} (p q : List α) (i : Nat) (d : α) (h : i < p.length) : (p ++ q).getD i d = p.getD i d := by
  simp [List.getD, List.getElem?_append_left h]
theorem decRF_app (p q : List UInt8) (h : (decR p).2.2 = 0) : decR (p ++ q) = decR p := by
  rcases decR_cases p with ⟨e, _⟩ | ⟨n, K, e, e1, e2, e3, e4, e5⟩
  · rw [e] at h; simp at h
  · have hl : decLen (p ++ q) = decLen p := by unfold decLen; rw [getDF_app _ _ _ _ (by omega)]
    rw [e]
    unfold decR
    rw [hl, ← e1, if_neg (by simp; omega), e2]
    have : decN (p ++ q) (K - 1) = decN p (K - 1) := by
      unfold decN; rw [getDF_app _ _ _ _ (by omega), midF_app _ _ _ _ (by omega)]
    rw [this]

def ext (q : List UInt8) (y : EyeD) : EyeD := ⟨y.b ++ q, y.u, y.e⟩
/-- Errors stay; what is read, if it does not end too early, is read so whatever stands behind. -/
def Good {α : Type} (F : EyeD → α × EyeD) : Prop := (∀ y, y.e ≠ 0 → (F y).2.e = y.e) ∧ ∀ y q, (F y).2.e ≠ 4 → F (ext q y) = ((F y).1, ext q (F y).2)
theorem Good.bind {α β : Type} {F : EyeD → α × EyeD} {G : α → EyeD → β × EyeD} (hF : Good F) (hG : ∀ a, Good (G a)) : Good (fun y => G (F y).1 (F y).2) := by
  refine ⟨fun y h => ?_, fun y q h => ?_⟩
  · have h1 := hF.1 y h
    exact ((hG _).1 _ (by rw [h1]; exact h)).trans h1
  · have h4 : (F y).2.e ≠ 4 := fun h4 => h (by rw [(hG _).1 _ (by rw [h4]; decide)]; exact h4)
    show G (F (ext q y)).1 (F (ext q y)).2 = _
    rw [hF.2 y q h4]
    exact (hG _).2 _ q h
theorem Good.map {α β : Type} {F : EyeD → α × EyeD} (hF : Good F) (f : α → β) : Good (fun y => (f (F y).1, (F y).2)) :=
  ⟨fun y h => hF.1 y h, fun y q h => by show (f (F (ext q y)).1, (F (ext q y)).2) = _; rw [hF.2 y q h]⟩
theorem Good.pure {α : Type} (a : α) : Good (fun y => (a, y)) := ⟨fun _ _ => rfl, fun _ _ _ => rfl⟩
theorem yFail_ext (e : Int) (q : List UInt8) (y : EyeD) : yFail e (ext q y) = ext q (yFail e y) := by
  unfold yFail ext; split <;> rfl
theorem yFail_e {e : Int} {y : EyeD} (h : y.e ≠ 0) : yFail e y = y := if_neg h
theorem Good.fail {α : Type} (a : α) (e : Int) : Good (fun y => (a, yFail e y)) :=
  ⟨fun y h => by show (yFail e y).e = y.e; rw [yFail_e h], fun y q _ => by show (a, yFail e (ext q y)) = _; rw [yFail_ext]⟩
theorem Good.guard {α : Type} {F : EyeD → α × EyeD} (d : α) (hF : Good F) : Good (fun y => if y.e ≠ 0 then (d, y) else F y) := by
  refine ⟨fun y h => by show (if y.e ≠ 0 then (d, y) else F y).2.e = _; rw [if_pos h], fun y q h => ?_⟩
  show (if y.e ≠ 0 then (d, ext q y) else F (ext q y)) = _
  by_cases h0 : y.e ≠ 0
  · simp only [if_pos h0]
  · simp only [if_neg h0] at h ⊢; exact hF.2 y q h

theorem yNum_good : Good yNum := by
  refine ⟨fun y h => by unfold yNum; rw [if_pos h], fun y q h => ?_⟩
  unfold yNum at *
  show (if y.e ≠ 0 then (0, ext q y) else if (decR (y.b ++ q)).2.2 ≠ 0 then (0, ⟨y.b ++ q, y.u, (decR (y.b ++ q)).2.2⟩) else ((decR (y.b ++ q)).1.toNat, ⟨(y.b ++ q).drop (decR (y.b ++ q)).2.1.toNat, y.u + (decR (y.b ++ q)).2.1.toNat, 0⟩)) = _
  by_cases h0 : y.e ≠ 0
  · simp only [if_pos h0]
  · simp only [if_neg h0] at h ⊢
    rcases decR_cases y.b with ⟨e, _⟩ | ⟨n, K, e, e1, e2, e3, e4, e5⟩
    · exfalso; apply h; rw [e]; rfl
    · have hz : (decR y.b).2.2 = 0 := by rw [e]
      rw [decRF_app _ q hz, e]
      simp only [ne_eq, not_true_eq_false, if_false, Int.toNat_natCast, ext, dropF_app _ q _ e3]
theorem yTake_good (n : Nat) : Good (yTake n) := by
  refine ⟨fun y h => by unfold yTake; rw [if_pos h], fun y q h => ?_⟩
  unfold yTake at *
  show (if y.e ≠ 0 then ([], ext q y) else if (y.b ++ q).length < n then ([], ⟨y.b ++ q, y.u, 4⟩) else ((y.b ++ q).take n, ⟨(y.b ++ q).drop n, y.u + n, 0⟩)) = _
  by_cases h0 : y.e ≠ 0
  · simp only [if_pos h0]
  · simp only [if_neg h0] at h ⊢
    by_cases h1 : y.b.length < n
    · rw [if_pos h1] at h; exact absurd rfl h
    · rw [if_neg h1, if_neg (by simp; omega), List.take_append_of_le_length (by omega), dropF_app _ q _ (by omega)]
      rfl
theorem yStep_good (hi : Int) : Good (yStep hi) := by
  have := yNum_good.bind (G := fun (n : Nat) y => (((hi - n, hi) : Rng), if hi - n < 0 then yFail 6 y else y)) fun n => by
    by_cases h : hi - (n : Int) < 0
    · simp only [if_pos h]; exact Good.fail _ 6
    · simp only [if_neg h]; exact Good.pure _
  exact this
theorem yMore_good (k : Nat) : ∀ lo, Good (yMore k lo) := by
  induction k with
  | zero => exact fun lo => Good.pure _
  | succ k ih =>
    intro lo
    have h2 : ∀ n : Nat, Good (fun y => ((yStep (lo - n - 2) y).1 :: (yMore k (yStep (lo - n - 2) y).1.1 (yStep (lo - n - 2) y).2).1, (yMore k (yStep (lo - n - 2) y).1.1 (yStep (lo - n - 2) y).2).2)) := fun n => by
      have := (yStep_good (lo - n - 2)).bind (G := fun x y => (x :: (yMore k x.1 y).1, (yMore k x.1 y).2)) fun x => (ih x.1).map (fun l => x :: l)
      exact this
    have h3 := yNum_good.bind (G := fun (n : Nat) y => ((yStep (lo - n - 2) y).1 :: (yMore k (yStep (lo - n - 2) y).1.1 (yStep (lo - n - 2) y).2).1, (yMore k (yStep (lo - n - 2) y).1.1 (yStep (lo - n - 2) y).2).2)) h2
    have h4 := h3.guard []
    exact h4
theorem yMany_good : Good yMany := by
  have := yNum_good.bind (G := fun n y => (n, if 6 ≤ n then yFail 1 y else y)) fun n => by
    by_cases h : 6 ≤ n
    · simp only [if_pos h]; exact Good.fail _ 1
    · simp only [if_neg h]; exact Good.pure _
  exact this
theorem yList_good (hi : Int) (n : Nat) : Good (yList hi n) := by
  have := ((yStep_good hi).bind (G := fun x y => (x :: (yMore n x.1 y).1, (yMore n x.1 y).2)) fun x => (yMore_good n x.1).map (fun l => x :: l)).guard []
  exact this
theorem ifN_good (b : Bool) : Good (ifN b) := by cases b; exact Good.pure _; exact yNum_good
theorem ifC_good (w c : Bool) : Good (ifC w c) := by
  cases w with
  | false => exact ifN_good c
  | true => have := (yTake_good 8).map (fun l => valB l 0); exact this
theorem yData_good : Good yData := by
  have := yNum_good.bind (G := fun n y => yTake n (if 120 < n then yFail 1 y else y)) fun n => by
    by_cases h : 120 < n
    · simp only [if_pos h]
      have := (Good.fail () 1).bind (G := fun _ y => yTake n y) fun _ => yTake_good n
      exact this
    · simp only [if_neg h]; exact yTake_good n
  exact this
theorem ifD_good (b : Bool) : Good (ifD b) := by cases b; exact Good.pure _; exact yData_good
end Go.Proofs.YtbcagdjfegobnaaGreat
/- Plain: a frame that was read may be, and is written in no more bytes. -/
namespace Go.Proofs.YtbcagdjfegobnaaGreat
open Go.RowKit
set_option linter.unusedVariables false

/-- From y to z at least k bytes were read, none of them twice. -/
structure Uses (y z : EyeD) (k : Nat) : Prop where
  e : y.e = 0
  all : z.u + z.b.length = y.u + y.b.length
  few : y.u + k ≤ z.u
theorem Uses.trans {x y z : EyeD} {j k : Nat} (h : Uses x y j) (g : Uses y z k) : Uses x z (j + k) :=
  ⟨h.e, by rw [g.all, h.all], by have := h.few; have := g.few; omega⟩
theorem Uses.none {y : EyeD} (h : y.e = 0) : Uses y y 0 := ⟨h, rfl, Nat.le_refl _⟩
theorem Uses.as {y z : EyeD} {j k : Nat} (h : Uses y z j) (e : j = k) : Uses y z k := e ▸ h
theorem yFail_ne {e : Int} (he : e ≠ 0) (y : EyeD) : (yFail e y).e ≠ 0 := by
  unfold yFail; split
  · exact he
  · assumption

theorem yNum_ok {y : EyeD} (h : (yNum y).2.e = 0) : Uses y (yNum y).2 (encB (yNum y).1).length ∧ (yNum y).1 ≤ 4611686018427387903 := by
  unfold yNum at *
  by_cases h0 : y.e ≠ 0
  · rw [if_pos h0] at h; exact absurd h h0
  · simp only [if_neg h0] at h ⊢
    rcases decR_cases y.b with ⟨e, _⟩ | ⟨n, K, e, e1, e2, e3, e4, e5⟩
    · rw [e] at h; exact absurd h (by simp)
    · rw [e]
      simp only [ne_eq, not_true_eq_false, if_false, Int.toNat_natCast]
      obtain ⟨d1, d2⟩ := dec_size y.b n K e1 e5
      refine ⟨⟨Classical.not_not.1 h0, by simp; omega, ?_⟩, by omega⟩
      show y.u + (encB n).length ≤ y.u + K
      rw [encB_length]; omega
theorem yTake_ok {n : Nat} {y : EyeD} (h : (yTake n y).2.e = 0) : Uses y (yTake n y).2 n ∧ (yTake n y).1.length = n := by
  unfold yTake at *
  by_cases h0 : y.e ≠ 0
  · rw [if_pos h0] at h; exact absurd h h0
  · simp only [if_neg h0] at h ⊢
    by_cases h1 : y.b.length < n
    · rw [if_pos h1] at h; exact absurd h (show ¬ (4 : Int) = 0 by decide)
    · rw [if_neg h1]
      exact ⟨⟨Classical.not_not.1 h0, by simp; omega, Nat.le_refl _⟩, by simp; omega⟩
theorem yStep_ok {hi : Int} {y : EyeD} (h : (yStep hi y).2.e = 0) : Uses y (yStep hi y).2 (encB ((yStep hi y).1.2 - (yStep hi y).1.1).toNat).length ∧ (yStep hi y).1.2 = hi ∧ (yStep hi y).1.1 ≤ (yStep hi y).1.2 ∧ 0 ≤ (yStep hi y).1.1 := by
  unfold yStep at *
  simp only at h ⊢
  by_cases h0 : hi - (yNum y).1 < 0
  · rw [if_pos h0] at h; exact absurd h (yFail_ne (by decide) _)
  · rw [if_neg h0] at h ⊢
    obtain ⟨h1, h2⟩ := yNum_ok h
    refine ⟨?_, trivial, by omega, by omega⟩
    rw [show (hi - (hi - ((yNum y).1 : Int))).toNat = (yNum y).1 by omega]
    exact h1
theorem e_of {α : Type} {F : EyeD → α × EyeD} (hF : Good F) {y : EyeD} (h : (F y).2.e = 0) : y.e = 0 := by
  by_cases h0 : y.e = 0
  · exact h0
  · exact (hF.1 y h0).symm.trans h
theorem yMore_ok (k : Nat) {lo : Int} {y : EyeD} (hlo : lo ≤ 4611686018427387905) (h : (yMore k lo y).2.e = 0) : goodDown lo (yMore k lo y).1 ∧ Uses y (yMore k lo y).2 (encRs lo (yMore k lo y).1).length ∧ (yMore k lo y).1.length = k := by
  induction k generalizing lo y with
  | zero => exact ⟨trivial, Uses.none h, rfl⟩
  | succ k ih =>
    have hy := e_of (yMore_good (k + 1) lo) h
    simp only [yMore] at h ⊢
    rw [if_neg (by simp [hy])] at h ⊢
    simp only at h ⊢
    have h1 := e_of (yMore_good k _) h
    have h2 := e_of (yStep_good _) h1
    obtain ⟨a1, a2⟩ := yNum_ok h2
    obtain ⟨b1, b2, b3, b4⟩ := yStep_ok h1
    generalize (yNum y).1 = n at *
    generalize (yNum y).2 = z at *
    generalize yStep (lo - n - 2) z = s at *
    obtain ⟨c1, c2, c3⟩ := ih (by omega) h
    generalize yMore k s.1.1 s.2 = m at *
    refine ⟨⟨by omega, b3, b4, c1⟩, ?_, by simp [c3]⟩
    refine (a1.trans (b1.trans c2)).as ?_
    rw [encRs, List.length_append, List.length_append]
    rw [show (lo - s.1.2 - 2).toNat = n by omega]
theorem yRngs_ok {y : EyeD} (h : (yRngs y).2.e = 0) : goodDown 4611686018427387905 (yRngs y).1 ∧ Uses y (yRngs y).2 (encRng (yRngs y).1).length ∧ (yRngs y).1.length ≤ 6 ∧ (yRngs y).1 ≠ [] := by
  unfold yRngs at *
  have h3 := e_of (yList_good _ _) h
  have h2 := e_of yMany_good h3
  obtain ⟨a1, a2⟩ := yNum_ok h2
  generalize (yNum y).1 = n at *
  generalize (yNum y).2 = z at *
  unfold yList at *
  rw [if_neg (by simp [h3])] at h ⊢
  simp only at h ⊢
  obtain ⟨m1, m2, m3⟩ : Uses z (yMany z).2 (encB (yMany z).1).length ∧ (yMany z).1 < 6 ∧ True := by
    unfold yMany at *
    simp only at h3 ⊢
    by_cases h6 : 6 ≤ (yNum z).1
    · rw [if_pos h6] at h3; exact absurd h3 (yFail_ne (by decide) _)
    · rw [if_neg h6] at h3 ⊢; exact ⟨(yNum_ok h3).1, by omega, trivial⟩
  have h4 := e_of (yMore_good _ _) h
  obtain ⟨b1, b2, b3, b4⟩ := yStep_ok h4
  generalize (yMany z).1 = k at *
  generalize (yMany z).2 = x at *
  generalize yStep n x = s at *
  obtain ⟨c1, c2, c3⟩ := yMore_ok k (by omega) h
  generalize yMore k s.1.1 s.2 = m at *
  refine ⟨⟨by omega, b3, b4, c1⟩, ?_, by simp only [List.length_cons, c3]; omega, by simp⟩
  refine (a1.trans (m1.trans (b1.trans c2))).as ?_
  rw [encRng, List.length_append, List.length_append, List.length_append, c3]
  rw [show s.1.2.toNat = n by omega]
theorem ifN_ok (b : Bool) {y : EyeD} (h : (ifN b y).2.e = 0) : Uses y (ifN b y).2 (encIf b (ifN b y).1).length ∧ (ifN b y).1 ≤ 4611686018427387903 ∧ (b = false → (ifN b y).1 = 0) := by
  cases b with
  | false => exact ⟨Uses.none h, by show 0 ≤ _; omega, fun _ => rfl⟩
  | true =>
    obtain ⟨h1, h2⟩ := yNum_ok h
    exact ⟨h1, h2, fun h => by cases h⟩
theorem ifC_ok (w c : Bool) {y : EyeD} (hwc : w = true → c = true) (h : (ifC w c y).2.e = 0) : Uses y (ifC w c y).2 (encC w c (ifC w c y).1).length ∧ (c = false → (ifC w c y).1 = 0) := by
  cases w with
  | false => obtain ⟨h1, h2, h3⟩ := ifN_ok c h; exact ⟨h1, h3⟩
  | true =>
    obtain ⟨h1, h2⟩ := yTake_ok (n := 8) (y := y) h
    refine ⟨h1.as ?_, fun hc => by rw [hwc rfl] at hc; cases hc⟩
    show 8 = (beB 8 _).length
    rw [beB_length]
theorem ifD_ok (b : Bool) {y : EyeD} (h : (ifD b y).2.e = 0) : Uses y (ifD b y).2 (encD b (ifD b y).1).length ∧ (ifD b y).1.length ≤ 120 ∧ (b = false → (ifD b y).1 = []) := by
  cases b with
  | false => exact ⟨Uses.none h, by show 0 ≤ _; omega, fun _ => rfl⟩
  | true =>
    refine (fun (a : Uses y (yData y).2 (encD true (yData y).1).length ∧ (yData y).1.length ≤ 120) => ⟨a.1, a.2, fun h => by cases h⟩) ?_
    have h : (yData y).2.e = 0 := h
    unfold yData at *
    have h2 := e_of (yTake_good _) h
    by_cases h6 : 120 < (yNum y).1
    · rw [if_pos h6] at h2; exact absurd h2 (yFail_ne (by decide) _)
    · rw [if_neg h6] at h h2 ⊢
      obtain ⟨a1, a2⟩ := yNum_ok h2
      obtain ⟨b1, b2⟩ := yTake_ok h
      refine ⟨(a1.trans b1).as ?_, by omega⟩
      show _ = (encB _ ++ _).length
      rw [List.length_append, b2]
theorem ifR_ok (k : Nat) {y : EyeD} (h : (ifR (k == 2) y).2.e = 0) : goodDown 4611686018427387905 (ifR (k == 2) y).1 ∧ Uses y (ifR (k == 2) y).2 (encRng (ifR (k == 2) y).1).length ∧ (ifR (k == 2) y).1.length ≤ 6 ∧ (k = 2 ↔ (ifR (k == 2) y).1 ≠ []) := by
  by_cases h2 : k = 2
  · rw [show (k == 2) = true from by simp [h2]] at h ⊢
    obtain ⟨a1, a2, a3, a4⟩ := yRngs_ok h
    exact ⟨a1, a2, a3, ⟨fun _ => a4, fun _ => h2⟩⟩
  · rw [show (k == 2) = false from by simp [h2]] at h ⊢
    exact ⟨trivial, Uses.none h, by show 0 ≤ _; omega, ⟨fun e => absurd e h2, fun e => absurd rfl e⟩⟩
/-- What a frame's kind says. -/
theorem kind_word (k : Nat) : (pWord k = true → pCode k = true) ∧ (pFin k = true → pData k = true) := by
  constructor
  · intro h; simp only [pWord, pCode, Bool.or_eq_true, beq_iff_eq] at *; omega
  · intro h; simp only [pFin, pData, Bool.or_eq_true, beq_iff_eq] at *; omega
theorem fbody_ok (k : Nat) (fin : Bool) {y : EyeD} (hk : kOk k = true) (hf : pFin k = false → fin = false) (h : (fbody k fin y).2.e = 0) (hB : frB (fbody k fin y).1 = true) :
    FrOk (fbody k fin y).1 ∧ Uses y (fbody k fin y).2 ((encRng (fbody k fin y).1.rngs).length + ((encIf (pId k) (fbody k fin y).1.id).length + ((encIf (pOff k) (fbody k fin y).1.off).length + ((encC (pWord k) (pCode k) (fbody k fin y).1.code).length + (encD (pData k) (fbody k fin y).1.data).length)))) := by
  unfold fbody at *
  simp only at h hB ⊢
  have h4 := e_of (ifD_good _) h
  have h3 := e_of (ifC_good _ _) h4
  have h2 := e_of (ifN_good _) h3
  have h1 := e_of (ifN_good _) h2
  obtain ⟨r1, r2, r3, r4⟩ := ifR_ok k h1
  generalize ifR (k == 2) y = r at *
  obtain ⟨i1, i2, i3⟩ := ifN_ok _ h2
  generalize ifN (pId k) r.2 = i at *
  obtain ⟨o1, o2, o3⟩ := ifN_ok _ h3
  generalize ifN (pOff k) i.2 = o at *
  obtain ⟨c1, c2⟩ := ifC_ok _ _ (kind_word k).1 h4
  generalize ifC (pWord k) (pCode k) o.2 = c at *
  obtain ⟨d1, d2, d3⟩ := ifD_ok _ h
  generalize ifD (pData k) c.2 = d at *
  simp only [frB, Bool.and_eq_true, decide_eq_true_eq, Bool.or_eq_true, Bool.not_eq_true'] at hB
  refine ⟨⟨hk, d2, r3, i2, i3, o2, o3, hB.1, c2, fun hp => ?_, d3, hf, r4, r1⟩, r2.trans (i1.trans (o1.trans (c1.trans d1)))⟩
  rcases hB.2 with hq | hq
  · have hp : pData k = true := hp
    rw [hq] at hp; cases hp
  · exact hq
theorem fkind_of {n : Nat} (h8 : n ≠ 8) (f : FrD) (hk : f.kind = kindOf n) (hf : f.fin = (n == 15)) : fkind f = n := by
  unfold fkind kindOf at *
  by_cases h : n = 14 ∨ n = 15
  · rw [if_pos h] at hk
    rw [if_pos hk, hf]
    rcases h with rfl | rfl <;> rfl
  · rw [if_neg h] at hk
    rw [if_neg (by omega), hk]
/-- What is read may be, and is written in no more bytes. -/
theorem fdec_ok {bs : List UInt8} (h : (fdec bs).2.2 = 0) : FrOk (fdec bs).1 ∧ (fenc (fdec bs).1).length ≤ (fdec bs).2.1 ∧ (fdec bs).2.1 ≤ bs.length := by
  unfold fdec at *
  simp only at h ⊢
  have hn := @yNum_ok ⟨bs, 0, 0⟩
  generalize yNum ⟨bs, 0, 0⟩ = n at *
  by_cases h1 : n.2.e ≠ 0
  · rw [if_pos h1] at h; exact absurd h h1
  simp only [if_neg h1] at h ⊢
  by_cases h2 : n.1 = 8
  · rw [if_pos h2] at h; exact absurd h (by decide)
  simp only [if_neg h2] at h ⊢
  by_cases h3 : kOk (kindOf n.1) = false
  · rw [if_pos h3] at h; exact absurd h (by decide)
  simp only [if_neg h3] at h ⊢
  obtain ⟨n1, n2⟩ := hn (Classical.not_not.1 h1)
  have hb := @fbody_ok (kindOf n.1) (n.1 == 15) n.2 (by simpa using h3) (fun hf => by
    simp only [pFin, kindOf, beq_eq_false_iff_ne] at hf ⊢
    intro h15; exact hf (by simp [h15]))
  have hk : (fbody (kindOf n.1) (n.1 == 15) n.2).1.kind = kindOf n.1 := rfl
  have hf : (fbody (kindOf n.1) (n.1 == 15) n.2).1.fin = (n.1 == 15) := rfl
  generalize fbody (kindOf n.1) (n.1 == 15) n.2 = f at *
  by_cases h4 : f.2.e ≠ 0
  · rw [if_pos h4] at h; exact absurd h h4
  simp only [if_neg h4] at h ⊢
  by_cases h5 : frB f.1 = false
  · rw [if_pos h5] at h; exact absurd h (by decide)
  simp only [if_neg h5] at h ⊢
  obtain ⟨b1, b2⟩ := hb (Classical.not_not.1 h4) (by simpa using h5)
  have hu := n1.trans b2
  have h6 := hu.all
  have h7 := hu.few
  refine ⟨b1, ?_, by simp only at h6; omega⟩
  simp only [fenc, List.length_append, fkind_of h2 f.1 hk hf, hk]
  simp only at h7
  omega
end Go.Proofs.YtbcagdjfegobnaaGreat
