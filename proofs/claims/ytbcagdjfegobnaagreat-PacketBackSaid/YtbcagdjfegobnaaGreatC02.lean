/- Texts of the proof, laid together: Num PickWalk Ranges. -/
import Derived.WalkKit
import Derived.Laws.Bits64
import Derived.Laws.BitsAllLaws
import Derived.Test.YtbcagdjfegobnaaGreatRows
import Derived.ProofKit
import Derived.OpenShut
import Derived.WalkSpells
import Derived.WalkLawsBesides
import Derived.Outline
/- Plain numbers: what number and picked come to. -/
namespace Go.Proofs.YtbcagdjfegobnaaGreat
open Go.RowKit
set_option linter.unusedVariables false

theorem i64_bounds {a : Int} (h : (Lit.int .i64 a).wf = true) : -9223372036854775808 ≤ a ∧ a ≤ 9223372036854775807 := by
  simpa [Lit.wf, IntKind.min, IntKind.max, IntKind.signed, IntKind.bits] using h
theorem u8_bounds {a : Int} (h : (Lit.int .u8 a).wf = true) : 0 ≤ a ∧ a ≤ 255 := by
  simpa [Lit.wf, IntKind.min, IntKind.max, IntKind.signed, IntKind.bits] using h

theorem wrap_i64 (n : Int) : IntKind.i64.wrap n = (n + 9223372036854775808) % 18446744073709551616 - 9223372036854775808 := by
  simp [IntKind.wrap, IntKind.bits, IntKind.signed]; split <;> omega

theorem ofInt_toNat (n : Int) : ((BitVec.ofInt 64 n).toNat : Int) = n % 18446744073709551616 := by
  rw [BitVec.toNat_ofInt]; simp; omega

/-- 'n & MaxVar' of whatever int. -/
theorem and_maxvar (n : Int) : bits .and .i64 n 4611686018427387903 = n % 4611686018427387904 := by
  show IntKind.i64.wrap ((BitVec.ofInt 64 n &&& BitVec.ofInt 64 4611686018427387903).toNat : Int) = _
  have h : ((BitVec.ofInt 64 n &&& BitVec.ofInt 64 4611686018427387903).toNat : Int) = n % 4611686018427387904 := by
    rw [BitVec.toNat_and]
    have : (BitVec.ofInt 64 4611686018427387903).toNat = 2 ^ 62 - 1 := by decide
    rw [this, Nat.and_two_pow_sub_one_eq_mod, Int.natCast_emod, ofInt_toNat]
    omega
  rw [h, wrap_i64]; omega

/-- A number, from whatever int. -/
def numI (n : Int) : Int := n % 4611686018427387904
theorem numI_range (n : Int) : 0 ≤ numI n ∧ numI n ≤ 4611686018427387903 := by unfold numI; omega

theorem tmod_neg_add (n m : Int) (hm : 0 < m) (h : n.tmod m < 0) : n.tmod m + m = n % m := by
  have h1 := Int.emod_emod_of_dvd n (Int.dvd_refl m)
  rw [Int.tmod_eq_emod] at h ⊢
  split at h
  · have := Int.emod_nonneg n (Int.ne_of_gt hm); omega
  · rename_i hc
    rw [if_neg hc]
    have : (m.natAbs : Int) = m := by omega
    omega
theorem tmod_nonneg' (n m : Int) (hm : 0 < m) (h : 0 ≤ n.tmod m) : n.tmod m = n % m := by
  rw [Int.tmod_eq_emod] at h ⊢
  split at h
  · rename_i hc; rw [if_pos hc]; omega
  · rename_i hc
    rw [if_neg hc]
    have := Int.emod_lt_of_pos n hm
    have : (m.natAbs : Int) = m := by omega
    omega

/-- The same as_v a natural number. -/
def numN (n : Int) : Nat := (numI n).toNat
theorem numN_eq (n : Int) : numI n = (numN n : Int) := by have := numI_range n; unfold numN; omega
theorem numN_le (n : Int) : (numN n : Int) ≤ 4611686018427387903 := by have := numI_range n; unfold numN; omega
end Go.Proofs.YtbcagdjfegobnaaGreat
/- The contracts of picked. -/
namespace Go.Proofs.YtbcagdjfegobnaaGreat
open Go.ChangeShapes Go.WideShapes Go.ChangeAt Go.RowKit
set_option linter.unusedVariables false

theorem picked_any (n m : Int) (h0 : -9223372036854775808 ≤ n) (h1 : n ≤ 9223372036854775807) (hm : 0 < m) (hm1 : m ≤ 9223372036854775807) (w : World) :
    Calls Tryz.prog 15 #[.int .i64 n, .int .i64 m] w fun e w' => e = .returned (.int .i64 (n % m)) ∧ w = w' := by
  have hlt := Int.tmod_lt_of_pos n hm
  have hgt := Int.lt_tmod_of_pos n hm
  have hz : (m == 0) = false := by simp; omega
  go_enter Tryz.func15, Tryz.ntmps15
  go_wp2
  · have h := tmod_neg_add n m hm (by assumption)
    go_ret
    exact ⟨by rw [h]; rfl, rfl⟩
  · have h := tmod_nonneg' n m hm (by assumption)
    go_ret
    exact ⟨by rw [h]; rfl, rfl⟩

/-- picked answers some number below the second one. -/
theorem picked_ex (n m : Int) (h0 : -9223372036854775808 ≤ n) (h1 : n ≤ 9223372036854775807) (hm : 0 < m) (hm1 : m ≤ 9223372036854775807) (w : World) :
    Calls Tryz.prog 15 #[.int .i64 n, .int .i64 m] w fun e w' => ∃ y, 0 ≤ y ∧ y < m ∧ e = .returned (.int .i64 y) ∧ w = w' :=
  (picked_any n m h0 h1 hm hm1 w).mono fun e w' ⟨he, hw⟩ => ⟨n % m, Int.emod_nonneg n (by omega), Int.emod_lt_of_pos n hm, he, hw⟩
end Go.Proofs.YtbcagdjfegobnaaGreat
/- Plain: sets of numbers, range by range. -/
namespace Go.Proofs.YtbcagdjfegobnaaGreat
set_option linter.unusedVariables false

abbrev Rng := Int × Int
/-- Ranges in order, from b on, none touching the next one. -/
def goodFrom : Int → List Rng → Prop
  | _, [] => True
  | b, x :: l => b ≤ x.1 ∧ x.1 ≤ x.2 ∧ x.2 ≤ 4611686018427387903 ∧ goodFrom (x.2 + 2) l
/-- A number is in one of the ranges. -/
def memR (l : List Rng) (n : Int) : Prop := ∃ x, x ∈ l ∧ x.1 ≤ n ∧ n ≤ x.2
/-- Add, as_v the code does it. -/
def addR : List Rng → Rng → Bool → List Rng
  | [], r, put => if put then [] else [r]
  | x :: l, r, put =>
    if x.2 + 1 < r.1 then x :: addR l r put
    else if r.2 + 1 < x.1 then (if put then x :: addR l r put else r :: x :: addR l r true)
    else addR l (min r.1 x.1, max r.2 x.2) put
/-- Cut, as_v the code does it. -/
def cutR : List Rng → Rng → List Rng
  | [], _ => []
  | x :: l, r => (if x.1 < r.1 then [(x.1, min x.2 (r.1 - 1))] else []) ++ ((if r.2 < x.2 then [(max x.1 (r.2 + 1), x.2)] else []) ++ cutR l r)

theorem memR_nil (n : Int) : ¬ memR [] n := by rintro ⟨x, h, _⟩; cases h
theorem memR_cons (x : Rng) (l : List Rng) (n : Int) : memR (x :: l) n ↔ (x.1 ≤ n ∧ n ≤ x.2) ∨ memR l n := by
  constructor
  · rintro ⟨y, h, h1⟩
    rcases List.mem_cons.1 h with rfl | h
    · exact .inl h1
    · exact .inr ⟨y, h, h1⟩
  · rintro (h | ⟨y, h, h1⟩)
    · exact ⟨x, List.mem_cons_self, h⟩
    · exact ⟨y, List.mem_cons_of_mem _ h, h1⟩
theorem memR_append (l m : List Rng) (n : Int) : memR (l ++ m) n ↔ memR l n ∨ memR m n := by
  induction l with
  | nil => simp [memR_nil]
  | cons x l ih => rw [List.cons_append, memR_cons, memR_cons, ih, or_assoc]

theorem goodFrom_mono {b c : Int} {l : List Rng} (h : goodFrom b l) (hc : c ≤ b) : goodFrom c l := by
  cases l with
  | nil => trivial
  | cons x l => exact ⟨by have := h.1; omega, h.2⟩
theorem goodFrom_low {b : Int} {l : List Rng} (h : goodFrom b l) (n : Int) (hn : memR l n) : b ≤ n := by
  induction l generalizing b with
  | nil => exact absurd hn (memR_nil n)
  | cons x l ih =>
    rcases (memR_cons x l n).1 hn with h1 | h1
    · have := h.1; omega
    · have := ih h.2.2.2 h1
      have := h.1; have := h.2.1; omega

/-- Two sets that have the same numbers are the same. -/
theorem goodFrom_same {b c : Int} {l m : List Rng} (hl : goodFrom b l) (hm : goodFrom c m) (h : ∀ n, memR l n ↔ memR m n) : l = m := by
  induction l generalizing b c m with
  | nil =>
    cases m with
    | nil => rfl
    | cons y m => exact absurd ((h y.1).2 ((memR_cons y m _).2 (.inl ⟨Int.le_refl _, hm.2.1⟩))) (memR_nil _)
  | cons x l ih =>
    cases m with
    | nil => exact absurd ((h x.1).1 ((memR_cons x l _).2 (.inl ⟨Int.le_refl _, hl.2.1⟩))) (memR_nil _)
    | cons y m =>
      obtain ⟨_, hx, _, hl'⟩ := hl
      obtain ⟨_, hy, _, hm'⟩ := hm
      have tl := fun n => goodFrom_low hl' n
      have tm := fun n => goodFrom_low hm' n
      have e1 : x.1 = y.1 := by
        have h1 := (h x.1).1 ((memR_cons x l _).2 (.inl ⟨Int.le_refl _, hx⟩))
        have h2 := (h y.1).2 ((memR_cons y m _).2 (.inl ⟨Int.le_refl _, hy⟩))
        rcases (memR_cons y m _).1 h1 with h1 | h1
        · rcases (memR_cons x l _).1 h2 with h2 | h2
          · omega
          · have := tl _ h2; omega
        · have := tm _ h1
          rcases (memR_cons x l _).1 h2 with h2 | h2
          · omega
          · have := tl _ h2; omega
      have e2 : x.2 = y.2 := by
        rcases Int.lt_trichotomy x.2 y.2 with hlt | he | hlt
        · have h2 := (h (x.2 + 1)).2 ((memR_cons y m _).2 (.inl ⟨by omega, by omega⟩))
          rcases (memR_cons x l _).1 h2 with h2 | h2
          · omega
          · have := tl _ h2; omega
        · exact he
        · have h2 := (h (y.2 + 1)).1 ((memR_cons x l _).2 (.inl ⟨by omega, by omega⟩))
          rcases (memR_cons y m _).1 h2 with h2 | h2
          · omega
          · have := tm _ h2; omega
      have e3 : l = m := by
        refine ih hl' hm' fun n => ?_
        constructor
        · intro hn
          have h1 := tl n hn
          rcases (memR_cons y m _).1 ((h n).1 ((memR_cons x l _).2 (.inr hn))) with h2 | h2
          · omega
          · exact h2
        · intro hn
          have h1 := tm n hn
          rcases (memR_cons x l _).1 ((h n).2 ((memR_cons y m _).2 (.inr hn))) with h2 | h2
          · omega
          · exact h2
      rw [e3, show x = y from Prod.ext e1 e2]

/-- Behind what was put in, nothing changes. -/
theorem addR_put {b : Int} {l : List Rng} (h : goodFrom b l) (r : Rng) (hr : r.1 ≤ r.2) (hb : r.2 + 2 ≤ b) : addR l r true = l := by
  induction l generalizing b with
  | nil => rfl
  | cons x l ih =>
    obtain ⟨h1, h2, _, h3⟩ := h
    rw [addR, if_neg (by omega), if_pos (by omega), if_pos rfl, ih h3 (by omega)]

theorem addR_good {b : Int} {l : List Rng} (h : goodFrom b l) (r : Rng) (hb : b ≤ r.1) (hr : r.1 ≤ r.2) (hM : r.2 ≤ 4611686018427387903) : goodFrom b (addR l r false) := by
  induction l generalizing b r with
  | nil => exact ⟨hb, hr, hM, trivial⟩
  | cons x l ih =>
    obtain ⟨h1, h2, h4, h3⟩ := h
    rw [addR]
    by_cases c1 : x.2 + 1 < r.1
    · rw [if_pos c1]; exact ⟨h1, h2, h4, ih h3 r (by omega) hr hM⟩
    · rw [if_neg c1]
      by_cases c2 : r.2 + 1 < x.1
      · rw [if_pos c2, if_neg (by decide), addR_put h3 r hr (by omega)]
        exact ⟨hb, hr, hM, by omega, h2, h4, h3⟩
      · rw [if_neg c2]
        exact ih (goodFrom_mono h3 (by omega)) _ (by show b ≤ min r.1 x.1; omega) (by show min r.1 x.1 ≤ max r.2 x.2; omega) (by show max r.2 x.2 ≤ _; omega)

theorem addR_mem {b : Int} {l : List Rng} (h : goodFrom b l) (r : Rng) (hr : r.1 ≤ r.2) (n : Int) : memR (addR l r false) n ↔ memR l n ∨ (r.1 ≤ n ∧ n ≤ r.2) := by
  induction l generalizing b r with
  | nil => show memR [r] n ↔ _; rw [memR_cons]; simp [memR_nil]
  | cons x l ih =>
    obtain ⟨h1, h2, h4, h3⟩ := h
    rw [addR]
    by_cases c1 : x.2 + 1 < r.1
    · rw [if_pos c1, memR_cons, memR_cons, ih h3 r hr, or_assoc]
    · rw [if_neg c1]
      by_cases c2 : r.2 + 1 < x.1
      · rw [if_pos c2, if_neg (by decide), addR_put h3 r hr (by omega), memR_cons]
        exact or_comm
      · rw [if_neg c2, ih h3 _ (by show min r.1 x.1 ≤ max r.2 x.2; omega), memR_cons]
        show memR l n ∨ (min r.1 x.1 ≤ n ∧ n ≤ max r.2 x.2) ↔ _
        by_cases hm : memR l n
        · simp [hm]
        · simp only [hm, false_or, or_false]; omega

theorem cutR_good {b : Int} {l : List Rng} (h : goodFrom b l) (r : Rng) (hr : r.1 ≤ r.2) (c : Int) (hc : c ≤ b) : goodFrom c (cutR l r) := by
  induction l generalizing b c with
  | nil => trivial
  | cons x l ih =>
    obtain ⟨h1, h2, h4, h3⟩ := h
    rw [cutR]
    by_cases c1 : x.1 < r.1
    · rw [if_pos c1]
      by_cases c2 : r.2 < x.2
      · rw [if_pos c2]
        refine ⟨by show c ≤ x.1; omega, by show x.1 ≤ min x.2 (r.1 - 1); omega, by show min x.2 (r.1 - 1) ≤ _; omega, ?_⟩
        refine ⟨by show min x.2 (r.1 - 1) + 2 ≤ max x.1 (r.2 + 1); omega, by show max x.1 (r.2 + 1) ≤ x.2; omega, h4, ?_⟩
        exact ih h3 _ (Int.le_refl _)
      · rw [if_neg c2]
        exact ⟨by show c ≤ x.1; omega, by show x.1 ≤ min x.2 (r.1 - 1); omega, by show min x.2 (r.1 - 1) ≤ _; omega, ih h3 _ (by show min x.2 (r.1 - 1) + 2 ≤ _; omega)⟩
    · rw [if_neg c1]
      by_cases c2 : r.2 < x.2
      · rw [if_pos c2]
        exact ⟨by show c ≤ max x.1 (r.2 + 1); omega, by show max x.1 (r.2 + 1) ≤ x.2; omega, h4, ih h3 _ (Int.le_refl _)⟩
      · rw [if_neg c2]
        exact ih h3 c (by omega)

theorem cutR_mem (l : List Rng) (r : Rng) (hr : r.1 ≤ r.2) (n : Int) : memR (cutR l r) n ↔ memR l n ∧ ¬ (r.1 ≤ n ∧ n ≤ r.2) := by
  induction l with
  | nil => simp [cutR, memR_nil]
  | cons x l ih =>
    rw [cutR, memR_append, memR_append, ih, memR_cons]
    by_cases hm : memR l n
    · by_cases c1 : x.1 < r.1 <;> by_cases c2 : r.2 < x.2 <;> simp [c1, c2, memR_cons, memR_nil, hm] <;> omega
    · by_cases c1 : x.1 < r.1 <;> by_cases c2 : r.2 < x.2 <;> simp [c1, c2, memR_cons, memR_nil, hm] <;> omega
end Go.Proofs.YtbcagdjfegobnaaGreat
