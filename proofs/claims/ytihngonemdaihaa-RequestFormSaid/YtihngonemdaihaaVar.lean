/- Plain numbers in bytes: their sizes. -/
import Derived.Test.YtihngonemdaihaaNum
namespace Go.Proofs.Ytihngonemdaihaa
open Go.RowKit
set_option linter.unusedVariables false

/-- How many bytes a number has (0: it is none). -/
def sizeI (n : Int) : Int := if n < 0 ∨ 4611686018427387903 < n then 0 else if n < 64 then 1 else if n < 16384 then 2 else if n < 1073741824 then 4 else 8
/-- What is wrong with it. -/
def sizeE (n : Int) : Int := if n < 0 ∨ 4611686018427387903 < n then 6 else 0

theorem sizeI_cases (n : Int) (h0 : 0 ≤ n) (h1 : n ≤ 4611686018427387903) :
    (n < 64 ∧ sizeI n = 1) ∨ (64 ≤ n ∧ n < 16384 ∧ sizeI n = 2) ∨ (16384 ≤ n ∧ n < 1073741824 ∧ sizeI n = 4) ∨ (1073741824 ≤ n ∧ sizeI n = 8) := by
  unfold sizeI; rw [if_neg (by omega)]
  by_cases a : n < 64
  · exact .inl ⟨a, if_pos a⟩
  · rw [if_neg a]
    by_cases b : n < 16384
    · exact .inr (.inl ⟨by omega, b, if_pos b⟩)
    · rw [if_neg b]
      by_cases c : n < 1073741824
      · exact .inr (.inr (.inl ⟨by omega, c, if_pos c⟩))
      · exact .inr (.inr (.inr ⟨by omega, if_neg c⟩))
theorem sizeE_ok (n : Int) (h0 : 0 ≤ n) (h1 : n ≤ 4611686018427387903) : sizeE n = 0 := by
  unfold sizeE; rw [if_neg (by omega)]

/-- The number of bytes, the highest first, behind a number. -/
def valB (bs : List UInt8) (n : Nat) : Nat := bs.foldl (fun n c => n * 256 + c.toNat) n
theorem valB_snoc (bs : List UInt8) (c : UInt8) (n : Nat) : valB (bs ++ [c]) n = valB bs n * 256 + c.toNat := by simp [valB]
theorem valB_cons (bs : List UInt8) (c : UInt8) (n : Nat) : valB (c :: bs) n = valB bs (n * 256 + c.toNat) := rfl
theorem valB_lt (bs : List UInt8) (n m : Nat) (h : n < m) : valB bs n < m * 256 ^ bs.length := by
  induction bs generalizing n m with
  | nil => simpa [valB] using h
  | cons c l ih =>
    have hc := c.toNat_lt
    have := ih (n * 256 + c.toNat) (m * 256) (by omega)
    rw [valB_cons, List.length_cons, Nat.pow_succ, Nat.mul_comm (256 ^ l.length), ← Nat.mul_assoc]
    exact this

/-- How many bytes a written number has, by its first one. -/
def decLen (bs : List UInt8) : Nat := 2 ^ ((bs.getD 0 0).toNat / 64)
/-- The number of the first byte's low bits and k bytes more. -/
def decN (bs : List UInt8) (k : Nat) : Nat := valB ((bs.drop 1).take k) ((bs.getD 0 0).toNat % 64)
theorem decN_zero (bs : List UInt8) : decN bs 0 = (bs.getD 0 0).toNat % 64 := rfl
theorem decN_lt (bs : List UInt8) (k : Nat) (h : k < bs.length) : decN bs k < 64 * 256 ^ k := by
  have := valB_lt ((bs.drop 1).take k) ((bs.getD 0 0).toNat % 64) 64 (by omega)
  rwa [List.length_take, List.length_drop, Nat.min_eq_left (by omega)] at this
theorem decN_succ (bs : List UInt8) (k : Nat) (h : k + 1 < bs.length) : decN bs (k + 1) = decN bs k * 256 + (bs.getD (1 + k) 0).toNat := by
  unfold decN
  rw [List.take_succ_eq_append_getElem (by simp; omega), valB_snoc]
  simp [List.getD, h, Nat.add_comm 1 k]
theorem decLen_cases (bs : List UInt8) : decLen bs = 1 ∨ decLen bs = 2 ∨ decLen bs = 4 ∨ decLen bs = 8 := by
  have h := (bs.getD 0 0).toNat_lt
  unfold decLen
  have : (bs.getD 0 0).toNat / 64 = 0 ∨ (bs.getD 0 0).toNat / 64 = 1 ∨ (bs.getD 0 0).toNat / 64 = 2 ∨ (bs.getD 0 0).toNat / 64 = 3 := by omega
  rcases this with h | h | h | h <;> rw [h] <;> decide
/-- What is read of bytes: the number, how many bytes it has, what is wrong. -/
def decR (bs : List UInt8) : Int × Int × Int :=
  if bs.length < decLen bs then (0, 0, 4) else (decN bs (decLen bs - 1), decLen bs, 0)

theorem or_i64_nat (a b : Nat) (ha : a < 9223372036854775808) (hb : b < 9223372036854775808) : bits .or .i64 (a : Int) (b : Int) = ((a ||| b : Nat) : Int) := by
  have hx : a ||| b < 2 ^ 63 := Nat.or_lt_two_pow (by omega) (by omega)
  have h1 : (BitVec.ofInt 64 (a : Int)).toNat = a := by
    rw [BitVec.ofInt_natCast, BitVec.toNat_ofNat]; exact Nat.mod_eq_of_lt (by omega)
  have h2 : (BitVec.ofInt 64 (b : Int)).toNat = b := by
    rw [BitVec.ofInt_natCast, BitVec.toNat_ofNat]; exact Nat.mod_eq_of_lt (by omega)
  show IntKind.i64.wrap ((BitVec.ofInt 64 (a : Int) ||| BitVec.ofInt 64 (b : Int)).toNat : Int) = _
  rw [BitVec.toNat_or, h1, h2, wrap_i64]
  omega
/-- 'n<<8 | c'. -/
theorem or_byte (N c : Nat) (hN : N < 18014398509481984) (hc : c < 256) : bits .or .i64 ((N : Int) * 256) (c : Int) = ((N * 256 + c : Nat) : Int) := by
  have e : (N : Int) * 256 = ((N * 256 : Nat) : Int) := by omega
  rw [e, or_i64_nat _ _ (by omega) (by omega), nat_join 8 (N * 256) c (by omega) (by omega)]

theorem decR_cases (bs : List UInt8) : (decR bs = (0, 0, 4) ∧ bs.length < decLen bs) ∨
    ∃ n K : Nat, decR bs = ((n : Int), (K : Int), 0) ∧ K = decLen bs ∧ n = decN bs (K - 1) ∧ K ≤ bs.length ∧ 1 ≤ K ∧ n < 64 * 256 ^ (K - 1) := by
  have hd := decLen_cases bs
  by_cases h : bs.length < decLen bs
  · exact .inl ⟨if_pos h, h⟩
  · exact .inr ⟨_, _, if_neg h, rfl, rfl, by omega, by omega, decN_lt _ _ (by omega)⟩

/-- What is read may be, and has no fewer bytes than it needs. -/
theorem dec_size (bs : List UInt8) (n K : Nat) (hK : K = decLen bs) (hn : n < 64 * 256 ^ (K - 1)) : (n : Int) ≤ 4611686018427387903 ∧ sizeI n ≤ K := by
  have hd := decLen_cases bs
  rw [← hK] at hd
  rcases hd with rfl | rfl | rfl | rfl
  all_goals
    simp at hn
    have hb : (n : Int) ≤ 4611686018427387903 := by omega
    refine ⟨hb, ?_⟩
    rcases sizeI_cases n (by omega) hb with h | h | h | h <;> omega

/-- The k low bytes of a number, the highest first. -/
def beB : Nat → Nat → List UInt8
  | 0, _ => []
  | k + 1, n => UInt8.ofNat (n / 256 ^ k) :: beB k n
theorem beB_length (k n : Nat) : (beB k n).length = k := by
  induction k with
  | zero => rfl
  | succ k ih => simp [beB, ih]
theorem beB_add (k j n m : Nat) (h : k ≤ j) : beB k (n + m * 256 ^ j) = beB k n := by
  induction k with
  | zero => rfl
  | succ k ih =>
    have e : (n + m * 256 ^ j) / 256 ^ k = n / 256 ^ k + (m * 256 ^ (j - k - 1)) * 256 := by
      have : m * 256 ^ j = (m * 256 ^ (j - k - 1) * 256) * 256 ^ k := by
        rw [Nat.mul_assoc, Nat.mul_assoc, Nat.mul_comm 256, ← Nat.pow_succ, ← Nat.pow_add]; congr 2; omega
      rw [this, Nat.add_mul_div_right _ _ (Nat.pow_pos (by decide))]
    rw [beB, beB, ih (by omega), e]
    congr 1
    apply UInt8.toNat_inj.1
    simp
theorem valB_beB (k n m : Nat) (h : n < 256 ^ k) : valB (beB k n) m = m * 256 ^ k + n := by
  induction k generalizing n m with
  | zero => simp [beB, valB] at h ⊢; omega
  | succ k ih =>
    have hp : 0 < 256 ^ k := Nat.pow_pos (by decide)
    have hq : n / 256 ^ k < 256 := by rw [Nat.div_lt_iff_lt_mul hp, Nat.mul_comm, ← Nat.pow_succ]; exact h
    have hb : beB k n = beB k (n % 256 ^ k) := by
      have := beB_add k k (n % 256 ^ k) (n / 256 ^ k) (Nat.le_refl _)
      rwa [Nat.mul_comm, Nat.mod_add_div] at this
    rw [beB, valB_cons, hb, ih _ _ (Nat.mod_lt _ hp)]
    have : (UInt8.ofNat (n / 256 ^ k)).toNat = n / 256 ^ k := by simp; omega
    rw [this, Nat.add_mul, Nat.mul_assoc, Nat.mul_comm 256, ← Nat.pow_succ, Nat.add_assoc, Nat.mul_comm (n / 256 ^ k), Nat.div_add_mod]

/-- The bits that tell how many bytes a number has. -/
def tagOf (k : Nat) : Nat := if k = 1 then 0 else if k = 2 then 1 else if k = 4 then 2 else 3
/-- A number written in bytes. -/
def encK (k n : Nat) : List UInt8 := beB k (n + tagOf k * 64 * 256 ^ (k - 1))
def encB (n : Nat) : List UInt8 := encK (sizeI n).toNat n
theorem encK_length (k n : Nat) : (encK k n).length = k := beB_length _ _
theorem encB_length (n : Nat) : (encB n).length = (sizeI n).toNat := beB_length _ _
/-- The low bytes of a number, its highest one with the tag. -/
theorem encK_cons (k n : Nat) (h : n < 64 * 256 ^ k) : encK (k + 1) n = UInt8.ofNat (n / 256 ^ k + tagOf (k + 1) * 64) :: beB k n := by
  unfold encK
  rw [beB, Nat.add_sub_cancel, beB_add k k _ _ (Nat.le_refl _), Nat.add_mul_div_right _ _ (Nat.pow_pos (by decide))]
/-- The tag laid on a byte of six bits. -/
theorem or_tag (N : Nat) (h : N < 64) : bits .or .u8 (N : Int) 64 = ((UInt8.ofNat (N + 1 * 64)).toNat : Int) ∧ bits .or .u8 (N : Int) 128 = ((UInt8.ofNat (N + 2 * 64)).toNat : Int) ∧ bits .or .u8 (N : Int) 192 = ((UInt8.ofNat (N + 3 * 64)).toNat : Int) := by
  have key : ∀ t : Nat, t < 4 → bits .or .u8 (N : Int) ((t * 64 : Nat) : Int) = ((UInt8.ofNat (N + t * 64)).toNat : Int) := by
    intro t ht
    rw [u8_or_nat _ _ (by omega) (by omega), Nat.or_comm, nat_join 6 (t * 64) N (by omega) h]
    simp; omega
  exact ⟨key 1 (by decide), key 2 (by decide), key 3 (by decide)⟩

theorem less_beB (k n m : Nat) (hn : n < 256 ^ k) (hm : m < 256 ^ k) : Op.bytesLess (beB k n) (beB k m) = decide (n < m) := by
  induction k generalizing n m with
  | zero => simp at hn hm; subst hn; subst hm; rfl
  | succ k ih =>
    have hp : 0 < 256 ^ k := Nat.pow_pos (by decide)
    have low : ∀ n, beB k n = beB k (n % 256 ^ k) := fun n => by
      have := beB_add k k (n % 256 ^ k) (n / 256 ^ k) (Nat.le_refl _)
      rwa [Nat.mul_comm, Nat.mod_add_div] at this
    have hi : ∀ n, n < 256 ^ (k + 1) → n / 256 ^ k < 256 := fun n h => by
      rw [Nat.div_lt_iff_lt_mul hp, Nat.mul_comm, ← Nat.pow_succ]; exact h
    have a := hi n hn
    have b := hi m hm
    rw [beB, beB, Op.bytesLess, low n, low m, ih _ _ (Nat.mod_lt _ hp) (Nat.mod_lt _ hp)]
    have e1 := Nat.div_add_mod n (256 ^ k)
    have e2 := Nat.div_add_mod m (256 ^ k)
    have l1 := Nat.mod_lt n hp
    have l2 := Nat.mod_lt m hp
    have u : ∀ q, q < 256 → (UInt8.ofNat q).toNat = q := fun q h => by simp; omega
    rw [Bool.eq_iff_iff]
    simp only [Bool.or_eq_true, Bool.and_eq_true, decide_eq_true_eq, UInt8.lt_iff_toNat_lt, beq_iff_eq, ← UInt8.toNat_inj, u _ a, u _ b]
    generalize n / 256 ^ k = x at *
    generalize m / 256 ^ k = y at *
    generalize n % 256 ^ k = p at *
    generalize m % 256 ^ k = q at *
    rw [← e1, ← e2]
    generalize 256 ^ k = M at *
    constructor
    · rintro (h | ⟨h, h'⟩)
      · have : M * (x + 1) ≤ M * y := Nat.mul_le_mul_left _ h
        rw [Nat.mul_add] at this; omega
      · subst h; omega
    · intro h
      rcases Nat.lt_trichotomy x y with c | c | c
      · exact .inl c
      · subst c; exact .inr ⟨rfl, by omega⟩
      · have : M * (y + 1) ≤ M * x := Nat.mul_le_mul_left _ c
        rw [Nat.mul_add] at this; omega
/-- Of numbers of one size the greater one has the greater bytes. -/
theorem less_encB (a b : Nat) (ha : (a : Int) ≤ 4611686018427387903) (hb : (b : Int) ≤ 4611686018427387903) (h : (encB a).length = (encB b).length) :
    Op.bytesLess (encB a) (encB b) = decide (a < b) := by
  rw [encB_length, encB_length] at h
  have ca := sizeI_cases a (by omega) ha
  have cb := sizeI_cases b (by omega) hb
  unfold encB encK
  rw [← h]
  have : (sizeI a).toNat = 1 ∧ a < 64 ∧ b < 64 ∨ (sizeI a).toNat = 2 ∧ a < 16384 ∧ b < 16384 ∨ (sizeI a).toNat = 4 ∧ a < 1073741824 ∧ b < 1073741824 ∨ (sizeI a).toNat = 8 := by omega
  rcases this with ⟨e, h1, h2⟩ | ⟨e, h1, h2⟩ | ⟨e, h1, h2⟩ | e
  all_goals
    rw [e, less_beB _ _ _ (by simp [tagOf]; omega) (by simp [tagOf]; omega)]
    simp [tagOf]

theorem encB_pos (a : Nat) (ha : (a : Int) ≤ 4611686018427387903) : 1 ≤ (encB a).length ∧ (encB a).length ≤ 8 := by
  rw [encB_length]; have := sizeI_cases a (by omega) ha; omega
/-- A greater number has no fewer bytes. -/
theorem encB_mono (a b : Nat) (ha : (a : Int) ≤ 4611686018427387903) (hb : (b : Int) ≤ 4611686018427387903) (h : a ≤ b) : (encB a).length ≤ (encB b).length := by
  rw [encB_length, encB_length]
  have := sizeI_cases a (by omega) ha
  have := sizeI_cases b (by omega) hb
  omega

theorem beB_low (k n : Nat) : beB k n = beB k (n % 256 ^ k) := by
  have := beB_add k k (n % 256 ^ k) (n / 256 ^ k) (Nat.le_refl _)
  rwa [Nat.mul_comm, Nat.mod_add_div] at this

/-- What a number's bytes are: the first one tells how many there are. -/
theorem encB_form (m : Nat) (hm : (m : Int) ≤ 4611686018427387903) : ∃ k t : Nat, encB m = UInt8.ofNat (m / 256 ^ k + t * 64) :: beB k m ∧ m / 256 ^ k < 64 ∧ t < 4 ∧ 2 ^ t = k + 1 := by
  have key : ∀ k t, (sizeI m).toNat = k + 1 → tagOf (k + 1) = t → t < 4 → 2 ^ t = k + 1 → m < 64 * 256 ^ k → ∃ k t : Nat, encB m = UInt8.ofNat (m / 256 ^ k + t * 64) :: beB k m ∧ m / 256 ^ k < 64 ∧ t < 4 ∧ 2 ^ t = k + 1 := by
    intro k t h1 h2 h3 h4 h5
    refine ⟨k, t, ?_, by rwa [Nat.div_lt_iff_lt_mul (Nat.pow_pos (by decide))], h3, h4⟩
    unfold encB
    rw [h1, encK_cons k m h5, h2]
  rcases sizeI_cases m (by omega) hm with ⟨h, e⟩ | ⟨_, h, e⟩ | ⟨_, h, e⟩ | ⟨_, e⟩
  · exact key 0 0 (by omega) rfl (by decide) rfl (by omega)
  · exact key 1 1 (by omega) rfl (by decide) rfl (by simp; omega)
  · exact key 3 2 (by omega) rfl (by decide) rfl (by simp; omega)
  · exact key 7 3 (by omega) rfl (by decide) rfl (by simp; omega)

theorem tag_div (q t : Nat) (hq : q < 64) : (q + t * 64) / 64 = t := by omega
theorem tag_mod (q t : Nat) (hq : q < 64) : (q + t * 64) % 64 = q := by omega
theorem ofNat_tag (q t : Nat) (hq : q < 64) (ht : t < 4) : (UInt8.ofNat (q + t * 64)).toNat = q + t * 64 := by simp; omega

/-- A number is read as it was written, whatever stands behind it. -/
theorem dec_back (m : Nat) (hm : (m : Int) ≤ 4611686018427387903) (more : List UInt8) : decR (encB m ++ more) = ((m : Int), ((encB m).length : Int), 0) := by
  obtain ⟨k, t, e, hq, ht, hk⟩ := encB_form m hm
  have hl : (encB m).length = k + 1 := by rw [e]; simp [beB_length]
  have hd : decLen (encB m ++ more) = k + 1 := by
    unfold decLen; rw [e]
    simp only [List.cons_append, List.getD, List.getElem?_cons_zero, Option.getD_some]
    rw [ofNat_tag _ _ hq ht, tag_div _ _ hq, hk]
  unfold decR
  rw [if_neg (by rw [hd, List.length_append]; omega), hd, hl]
  have hN : decN (encB m ++ more) (k + 1 - 1) = m := by
    unfold decN; rw [e]
    simp only [List.cons_append, List.getD, List.getElem?_cons_zero, Option.getD_some, List.drop_succ_cons, List.drop_zero, Nat.add_sub_cancel]
    have hta : (beB k m ++ more).take k = beB k m := by
      have := List.take_left (l₁ := beB k m) (l₂ := more)
      rwa [beB_length] at this
    rw [ofNat_tag _ _ hq ht, tag_mod _ _ hq, hta, beB_low, valB_beB _ _ _ (Nat.mod_lt _ (Nat.pow_pos (by decide)))]
    rw [Nat.mul_comm]; exact Nat.div_add_mod _ _
  rw [hN]

/-- Cut short it is none. -/
theorem dec_cut (m : Nat) (hm : (m : Int) ≤ 4611686018427387903) (j : Nat) (hj : j < (encB m).length) : decR ((encB m).take j) = (0, 0, 4) := by
  obtain ⟨k, t, e, hq, ht, hk⟩ := encB_form m hm
  have hl : (encB m).length = k + 1 := by rw [e]; simp [beB_length]
  unfold decR
  refine if_pos ?_
  rw [List.length_take, Nat.min_eq_left (by omega)]
  rcases Nat.eq_zero_or_pos j with h | h
  · subst h
    have : decLen (List.take 0 (encB m)) = 1 := by simp [decLen]
    omega
  · have hd : decLen ((encB m).take j) = k + 1 := by
      obtain ⟨i, rfl⟩ : ∃ i, j = i + 1 := ⟨j - 1, by omega⟩
      unfold decLen; rw [e]
      simp only [List.take_succ_cons, List.getD, List.getElem?_cons_zero, Option.getD_some]
      rw [ofNat_tag _ _ hq ht, tag_div _ _ hq, hk]
    omega

theorem beB_take_length (k n m : Nat) : ((beB k n).take (k - m)).length = k - m := by rw [List.length_take, beB_length]; omega
/-- The first bytes, one more. -/
theorem beB_take (k n m : Nat) (h : 1 ≤ m) (hm : m ≤ k) : (beB k n).take (k - m) ++ [UInt8.ofNat (n / 256 ^ (m - 1))] = (beB k n).take (k - (m - 1)) := by
  induction k with
  | zero => omega
  | succ k ih =>
    by_cases e : m = k + 1
    · subst e
      rw [Nat.sub_self, Nat.add_sub_cancel, show k + 1 - k = 1 from by omega, beB]; rfl
    · rw [show k + 1 - m = (k - m) + 1 from by omega, show k + 1 - (m - 1) = (k - (m - 1)) + 1 from by omega, beB, List.take_succ_cons, List.take_succ_cons, List.cons_append, ih (by omega)]

/-- The byte of a number shifted. -/
theorem byte_shift (n j : Nat) : (n : Int) / 2 ^ (8 * j) % 256 = ((UInt8.ofNat (n / 256 ^ j)).toNat : Int) := by
  have e : (256 : Nat) ^ j = 2 ^ (8 * j) := by rw [Nat.pow_mul]
  rw [e]; simp

/-- How many bytes of a number one needs who is so far behind. -/
def cutK (d : Nat) : Nat := if d ≤ 128 then 1 else if d ≤ 32768 then 2 else if d ≤ 8388608 then 3 else 4
theorem cutK_cases (d : Nat) : (cutK d = 1 ∧ d ≤ 128) ∨ (cutK d = 2 ∧ 128 < d ∧ d ≤ 32768) ∨ (cutK d = 3 ∧ 32768 < d ∧ d ≤ 8388608) ∨ (cutK d = 4 ∧ 8388608 < d) := by
  unfold cutK
  by_cases h1 : d ≤ 128
  · exact .inl ⟨if_pos h1, h1⟩
  · rw [if_neg h1]
    by_cases h2 : d ≤ 32768
    · exact .inr (.inl ⟨if_pos h2, by omega, h2⟩)
    · rw [if_neg h2]
      by_cases h3 : d ≤ 8388608
      · exact .inr (.inr (.inl ⟨if_pos h3, by omega, h3⟩))
      · exact .inr (.inr (.inr ⟨if_neg h3, by omega⟩))

theorem nat_clear (a k : Nat) (hk : k ≤ 64) (ha : a < 2 ^ 64) : a &&& (2 ^ 64 - 2 ^ k) = a - a % 2 ^ k := by
  have hp : 0 < 2 ^ k := Nat.pow_pos (by decide)
  have hM : 2 ^ 64 - 2 ^ k = (2 ^ (64 - k) - 1) * 2 ^ k := by
    rw [Nat.sub_mul, ← Nat.pow_add, show 64 - k + k = 64 from by omega, Nat.one_mul]
  have h1 : (a &&& (2 ^ 64 - 2 ^ k)) % 2 ^ k = 0 := by
    rw [Nat.and_mod_two_pow, hM, Nat.mul_mod_left, Nat.and_zero]
  have h2 : (a &&& (2 ^ 64 - 2 ^ k)) / 2 ^ k = a / 2 ^ k := by
    rw [← Nat.shiftRight_eq_div_pow, Nat.shiftRight_and_distrib, Nat.shiftRight_eq_div_pow, Nat.shiftRight_eq_div_pow, hM, Nat.mul_div_cancel _ hp, Nat.and_two_pow_sub_one_eq_mod]
    apply Nat.mod_eq_of_lt
    rw [Nat.div_lt_iff_lt_mul hp, ← Nat.pow_add, show 64 - k + k = 64 from by omega]
    exact ha
  have h3 := Nat.div_add_mod (a &&& (2 ^ 64 - 2 ^ k)) (2 ^ k)
  have h4 := Nat.div_add_mod a (2 ^ k)
  rw [h1, h2] at h3
  omega

/-- 'x &^ (2^k - 1)'. -/
theorem andNot_i64 (x : Int) (k : Nat) (h0 : 0 ≤ x) (h1 : x < 9223372036854775808) (hk : k ≤ 62) : bits .andNot .i64 x ((2 ^ k : Nat) - 1 : Int) = x - x % (2 ^ k : Nat) := by
  obtain ⟨X, rfl⟩ := Int.eq_ofNat_of_zero_le h0
  have hp : 0 < 2 ^ k := Nat.pow_pos (by decide)
  have hle : 2 ^ k ≤ 2 ^ 62 := Nat.pow_le_pow_right (by decide) hk
  have e1 : ((2 ^ k : Nat) - 1 : Int) = ((2 ^ k - 1 : Nat) : Int) := by omega
  rw [e1]
  show IntKind.i64.wrap ((BitVec.ofInt 64 (X : Int) &&& ~~~BitVec.ofInt 64 ((2 ^ k - 1 : Nat) : Int)).toNat : Int) = _
  rw [BitVec.toNat_and, BitVec.toNat_not, ofInt_u64 X (by omega), ofInt_u64 (2 ^ k - 1) (by omega), show 2 ^ 64 - 1 - (2 ^ k - 1) = 2 ^ 64 - 2 ^ k from by omega, nat_clear X k (by omega) (by omega), wrap_i64]
  have := Nat.mod_le X (2 ^ k)
  have e : (((X - X % 2 ^ k : Nat)) : Int) = (X : Int) - (X : Int) % ((2 ^ k : Nat) : Int) := by
    rw [← Int.natCast_emod]; omega
  rw [← e]
  omega

/-- 'x &^ (2^k - 1) | low'. -/
theorem clear_or (x : Int) (k low : Nat) (h0 : 0 ≤ x) (h1 : x < 9223372036854775808) (hk : k ≤ 62) (hl : low < 2 ^ k) :
    bits .or .i64 (x - x % (2 ^ k : Nat)) (low : Int) = x - x % (2 ^ k : Nat) + low := by
  obtain ⟨X, rfl⟩ := Int.eq_ofNat_of_zero_le h0
  have hle : 2 ^ k ≤ 2 ^ 62 := Nat.pow_le_pow_right (by decide) hk
  have hm := Nat.mod_le X (2 ^ k)
  have e : (X : Int) - (X : Int) % ((2 ^ k : Nat) : Int) = ((X - X % 2 ^ k : Nat) : Int) := by
    rw [← Int.natCast_emod]; omega
  have hz : (X - X % 2 ^ k) % 2 ^ k = 0 := by
    have h4 := Nat.div_add_mod X (2 ^ k)
    rw [show X - X % 2 ^ k = 2 ^ k * (X / 2 ^ k) from by omega, Nat.mul_mod_right]
  rw [e, or_i64_nat _ _ (by omega) (by omega), nat_join k _ low hz hl]
  omega

/-- The number made whole: the next one, the window, the low bits. -/
def wholeN (next win low : Int) : Int :=
  if next - next % win + low ≤ next - win / 2 ∧ next - next % win + low < 4611686018427387904 - win then next - next % win + low + win
  else if next + win / 2 < next - next % win + low ∧ win ≤ next - next % win + low then next - next % win + low - win
  else next - next % win + low

theorem valB_take (bs : List UInt8) (n k : Nat) (h : k < bs.length) : valB (bs.take (k + 1)) n = valB (bs.take k) n * 256 + (bs.getD k 0).toNat := by
  rw [List.take_succ_eq_append_getElem h, valB_snoc]
  simp [List.getD, h]

/-- What was cut is made whole. -/
theorem whole_back (m a top : Int) (K : Nat) (hm0 : 0 ≤ m) (hm : m ≤ 2305843009213693952) (ha : -1 ≤ a) (ham : a < m) (ht : a ≤ top) (htm : top < m) (hd : m - a ≤ 1048576 + 1) (hK : cutK (m - a).toNat = K) :
    wholeN (top + 1) (256 ^ K : Nat) (valB (beB K m.toNat) 0) = m := by
  have hp : 0 < 256 ^ K := Nat.pow_pos (by decide)
  have hv : ((valB (beB K m.toNat) 0 : Nat) : Int) = m % (256 ^ K : Nat) := by
    rw [beB_low, valB_beB _ _ _ (Nat.mod_lt _ hp), Nat.zero_mul, Nat.zero_add, Int.natCast_emod, Int.toNat_of_nonneg hm0]
  rw [hv]
  have hc := cutK_cases (m - a).toNat
  rw [hK] at hc
  clear hv
  have h1 := Int.mul_ediv_add_emod m (256 ^ K : Nat)
  have h2 := Int.mul_ediv_add_emod (top + 1) (256 ^ K : Nat)
  have b1 := Int.emod_nonneg m (show ((256 ^ K : Nat) : Int) ≠ 0 by omega)
  have b2 := Int.emod_lt_of_pos m (show (0 : Int) < ((256 ^ K : Nat) : Int) by omega)
  have b3 := Int.emod_nonneg (top + 1) (show ((256 ^ K : Nat) : Int) ≠ 0 by omega)
  have b4 := Int.emod_lt_of_pos (top + 1) (show (0 : Int) < ((256 ^ K : Nat) : Int) by omega)
  have fin : ∀ W : Int, ((256 ^ K : Nat) : Int) = W → (W = 256 ∨ W = 65536 ∨ W = 16777216) → 2 * (m - a) ≤ W → wholeN (top + 1) (256 ^ K : Nat) (m % (256 ^ K : Nat)) = m := by
    intro W hW hW' hda
    rw [hW] at h1 h2 b1 b2 b3 b4 ⊢
    unfold wholeN
    rcases hW' with rfl | rfl | rfl <;> (split <;> (try split) <;> omega)
  rcases hc with ⟨e, h⟩ | ⟨e, h, h'⟩ | ⟨e, h, h'⟩ | ⟨e, h⟩
  · exact fin 256 (by rw [e]; rfl) (by simp) (by omega)
  · exact fin 65536 (by rw [e]; rfl) (by simp) (by omega)
  · exact fin 16777216 (by rw [e]; rfl) (by simp) (by omega)
  · omega

theorem beB_get (k n j : Nat) (h : j < k) : (beB k n).getD j 0 = UInt8.ofNat (n / 256 ^ (k - 1 - j)) := by
  induction k generalizing j with
  | zero => omega
  | succ k ih =>
    cases j with
    | zero => simp [beB]
    | succ j =>
      have := ih j (by omega)
      simp only [beB, List.getD_cons_succ] at this ⊢
      rw [this, show k + 1 - 1 - (j + 1) = k - 1 - j from by omega]
/-- A row filled from its head on: one more. -/
theorem fill_set (l : List UInt8) (N k : Nat) (hl : l.length = N) (hk : k < N) : (l.take k ++ List.replicate (N - k) 0).set k (l.getD k 0) = l.take (k + 1) ++ List.replicate (N - (k + 1)) 0 := by
  rw [List.set_append_right _ _ (by simp; omega), List.take_succ_eq_append_getElem (by omega), List.append_assoc, show N - k = (N - (k + 1)) + 1 from by omega, List.replicate_succ]
  congr 1
  simp [List.length_take, Nat.min_eq_left (show k ≤ l.length by omega), List.getD, show k < l.length by omega]
theorem eight_byte (n k : Nat) (hk : k < 8) : (n : Int) / 2 ^ (56 - 8 * k) % 256 = (((beB 8 n).getD k 0).toNat : Int) := by
  rw [beB_get 8 n k hk, show 56 - 8 * k = 8 * (8 - 1 - k) from by omega, byte_shift]
end Go.Proofs.Ytihngonemdaihaa
