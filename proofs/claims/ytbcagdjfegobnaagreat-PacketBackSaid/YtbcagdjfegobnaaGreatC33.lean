/- Texts of the proof, laid together: SomeWalk Token. -/
import Derived.Test.YtbcagdjfegobnaaGreatC02
import Derived.Test.YtbcagdjfegobnaaGreatC15
import Derived.Test.YtbcagdjfegobnaaGreatC04
/- The contract of some. -/
namespace Go.Proofs.YtbcagdjfegobnaaGreat
open Go.ChangeShapes Go.WideShapes Go.ChangeAt Go.RowKit
set_option linter.unusedVariables false

theorem some_any (A : Option Addr) (len cap k : Nat) (m : Int) (hl : len ≤ cap) (hc : cap ≤ 9223372036854775807) (hm0 : 0 ≤ m) (hm : m ≤ 9223372036854775807) (hk : min (len : Int) m = k) (w : World) :
    Calls Tryz.prog 20 #[.slice A len cap, .int .i64 m] w fun e w' => e = .returned (.slice A k cap) ∧ w = w' := by
  obtain ⟨M, rfl⟩ := Int.eq_ofNat_of_zero_le hm0
  rcases Nat.lt_trichotomy len M with h | h | h
  · obtain rfl : k = len := by omega
    clear hk
    go_enter Tryz.func20, Tryz.ntmps20
    go_wp2_with fail
    all_goals (go_ret; exact ⟨rfl, rfl⟩)
  · subst h
    obtain rfl : k = len := by omega
    clear hk
    go_enter Tryz.func20, Tryz.ntmps20
    go_wp2_with fail
    all_goals (go_ret; exact ⟨rfl, rfl⟩)
  · obtain rfl : k = M := by omega
    clear hk
    go_enter Tryz.func20, Tryz.ntmps20
    go_wp2_with fail
    all_goals (go_ret; exact ⟨rfl, rfl⟩)
end Go.Proofs.YtbcagdjfegobnaaGreat
/- Plain: what a token is. -/
namespace Go.Proofs.YtbcagdjfegobnaaGreat
open Go.RowKit
set_option linter.unusedVariables false

/-- The bytes of a token: its time, and a seal. -/
def tokB (s a t : Int) : List UInt8 := beB 8 t.toNat ++ beB 8 (mixI (bits .xor .u64 (keyI s a) (mixI t))).toNat
theorem tokB_length (s a t : Int) : (tokB s a t).length = 16 := by unfold tokB; rw [List.length_append, beB_length, beB_length]

theorem beB_inj (k n m : Nat) (hn : n < 256 ^ k) (hm : m < 256 ^ k) (h : beB k n = beB k m) : n = m := by
  have h1 := valB_beB k n 0 hn
  have h2 := valB_beB k m 0 hm
  rw [h] at h1; omega

theorem tokB_inj (s a b t u : Int) (ht0 : 0 ≤ t) (ht1 : t ≤ 1099511627776) (hu0 : 0 ≤ u) (hu1 : u ≤ 1099511627776)
    (ha0 : -9223372036854775808 ≤ a) (ha1 : a ≤ 9223372036854775807) (hb0 : -9223372036854775808 ≤ b) (hb1 : b ≤ 9223372036854775807)
    (h : tokB s a t = tokB s b u) : a = b ∧ t = u := by
  obtain ⟨h1, h2⟩ := List.append_inj h (by rw [beB_length, beB_length])
  have e := beB_inj 8 _ _ (by omega) (by omega) h1
  have etu : t = u := by omega
  subst etu
  have r1 := mixI_range (bits .xor .u64 (keyI s a) (mixI t))
  have r2 := mixI_range (bits .xor .u64 (keyI s b) (mixI t))
  have e2 := beB_inj 8 _ _ (by omega) (by omega) h2
  have e3 : mixI (bits .xor .u64 (keyI s a) (mixI t)) = mixI (bits .xor .u64 (keyI s b) (mixI t)) := by omega
  have e4 := mixI_inj _ _ (xor_range _ _).1 (xor_range _ _).2 (xor_range _ _).1 (xor_range _ _).2 e3
  obtain ⟨K, hK, eK⟩ := of_range (mixI t) (mixI_range t).1 (mixI_range t).2
  obtain ⟨X, hX, eX⟩ := of_range (keyI s a) (keyI_range s a).1 (keyI_range s a).2
  obtain ⟨Y, hY, eY⟩ := of_range (keyI s b) (keyI_range s b).1 (keyI_range s b).2
  rw [eK, eX, eY, bits_xor_u64_nat _ _ hX hK, bits_xor_u64_nat _ _ hY hK] at e4
  have h' := Int.ofNat_inj.mp e4
  have ex : ∀ Z, (Z ^^^ K) ^^^ K = Z := fun Z => by rw [Nat.xor_assoc, Nat.xor_self, Nat.xor_zero]
  have hXY : X = Y := by rw [← ex X, ← ex Y, h']
  exact ⟨keyI_inj s a b ha0 ha1 hb0 hb1 (by rw [eX, eY, hXY]), rfl⟩

/-- Two tokens as_v strings are one just where address and time are. -/
theorem tokB_beq (s a b t u : Int) (ht0 : 0 ≤ t) (ht1 : t ≤ 1099511627776) (hu0 : 0 ≤ u) (hu1 : u ≤ 1099511627776)
    (ha0 : -9223372036854775808 ≤ a) (ha1 : a ≤ 9223372036854775807) (hb0 : -9223372036854775808 ≤ b) (hb1 : b ≤ 9223372036854775807) :
    (tokB s a t == tokB s b u) = (a == b && t == u) := by
  rw [Bool.eq_iff_iff, Bool.and_eq_true, beq_iff_eq, beq_iff_eq, beq_iff_eq]
  exact ⟨tokB_inj s a b t u ht0 ht1 hu0 hu1 ha0 ha1 hb0 hb1, fun ⟨h1, h2⟩ => by rw [h1, h2]⟩

/-- 'n<<8 | c' of words. -/
theorem or_byte_u64 (N c : Nat) (hN : N < 72057594037927936) (hc : c < 256) : bits .or .u64 ((N : Int) * 256) (c : Int) = ((N * 256 + c : Nat) : Int) := by
  have e : (N : Int) * 256 = ((N * 256 : Nat) : Int) := by omega
  rw [e, u64_or_nat _ _ (by omega) (by omega), nat_join 8 (N * 256) c (by omega) (by omega)]

/-- What a look at sixteen bytes tells of a token. -/
def chkI (s a now : Int) (bs : List UInt8) : Int :=
  if 1099511627776 < valB (bs.take 8) 0 then 10 else if tokB s a (valB (bs.take 8) 0) = bs then (if now < valB (bs.take 8) 0 ∨ 50 < now - valB (bs.take 8) 0 then 16 else 0) else 10

theorem tok_time (s a t : Int) (h0 : 0 ≤ t) (h1 : t ≤ 1099511627776) : ((valB ((tokB s a t).take 8) 0 : Nat) : Int) = t := by
  have : (tokB s a t).take 8 = beB 8 t.toNat := by
    have := List.take_left (l₁ := beB 8 t.toNat) (l₂ := beB 8 (mixI (bits .xor .u64 (keyI s a) (mixI t))).toNat)
    rwa [beB_length] at this
  rw [this, valB_beB _ _ _ (by omega)]; omega

theorem chk_tok (s a t d : Int) (h0 : 0 ≤ t) (h1 : t ≤ 1099511627776) (hd : 0 ≤ d) : chkI s a (t + d) (tokB s a t) = if d ≤ 50 then 0 else 16 := by
  have ht := tok_time s a t h0 h1
  unfold chkI
  rw [if_neg (by omega), ht, if_pos rfl]
  by_cases h : d ≤ 50
  · rw [if_pos h, if_neg (by omega)]
  · rw [if_neg h, if_pos (by omega)]

/-- What is taken is what was made, so many ticks ago. -/
theorem chk_zero (s a now : Int) (bs : List UInt8) (h : chkI s a now bs = 0) : ∃ n : Nat, tokB s a n = bs ∧ (n : Int) ≤ 1099511627776 ∧ (n : Int) ≤ now ∧ now - n ≤ 50 := by
  unfold chkI at h
  by_cases h1 : 1099511627776 < valB (bs.take 8) 0
  · rw [if_pos h1] at h; omega
  · rw [if_neg h1] at h
    by_cases h2 : tokB s a (valB (bs.take 8) 0) = bs
    · rw [if_pos h2] at h
      by_cases h3 : now < valB (bs.take 8) 0 ∨ 50 < now - valB (bs.take 8) 0
      · rw [if_pos h3] at h; omega
      · exact ⟨_, h2, by omega, by omega, by omega⟩
    · rw [if_neg h2] at h; omega
/-- Tokens of two times differ. -/
theorem tok_other (s a t u : Int) (ht0 : 0 ≤ t) (ht1 : t ≤ 1099511627776) (hu0 : 0 ≤ u) (hu1 : u ≤ 1099511627776) (h : t ≠ u) : tokB s a t ≠ tokB s a u := by
  intro e
  have h1 := tok_time s a t ht0 ht1
  have h2 := tok_time s a u hu0 hu1
  rw [e] at h1; omega
/-- A byte turned. -/
theorem xor_byte (x y : Int) : ∃ b : UInt8, bits .xor .u8 x y = (b.toNat : Int) := by
  have : ∃ n, bits .xor .u8 x y = IntKind.u8.wrap n := ⟨_, rfl⟩
  obtain ⟨n, hn⟩ := this
  refine ⟨UInt8.ofNat (n % 256).toNat, ?_⟩
  rw [hn, IntKind.wrap_u8']
  simp; omega
end Go.Proofs.YtbcagdjfegobnaaGreat
