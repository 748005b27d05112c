/- Texts of the proof, laid together: Ranges. -/
import Derived.Test.YtbcagdjfegobnaaGreatC00
/- Plain: sets of numbers, range by range. -/
namespace Go.Proofs.YtbcagdjfegobnaaGreat
set_option linter.unusedVariables false

abbrev Rng := Int × Int
/-- Ranges in order, from b on, none touching the next one. -/
def goodFrom : Int → List Rng → Prop
  | _, [] => True
  | b, x :: l => b ≤ x.1 ∧ x.1 ≤ x.2 ∧ x.2 ≤ 4611686018427387903 ∧ goodFrom (x.2 + 2) l
/-- A number is in one of the ranges. -/
def memR (l : List Rng) (n : Int) : Prop := ∃ x, x ∈ l ∧ x.1 ≤ n ∧ n ≤ x.2
/-- Add, as_v the code does it. -/
def addR : List Rng → Rng → Bool → List Rng
  | [], r, put => if put then [] else [r]
  | x :: l, r, put =>
    if x.2 + 1 < r.1 then x :: addR l r put
    else if r.2 + 1 < x.1 then (if put then x :: addR l r put else r :: x :: addR l r true)
    else addR l (min r.1 x.1, max r.2 x.2) put
/-- Cut, as_v the code does it. -/
def cutR : List Rng → Rng → List Rng
  | [], _ => []
  | x :: l, r => (if x.1 < r.1 then [(x.1, min x.2 (r.1 - 1))] else []) ++ ((if r.2 < x.2 then [(max x.1 (r.2 + 1), x.2)] else []) ++ cutR l r)

theorem memR_nil (n : Int) : ¬ memR [] n := by rintro ⟨x, h, _⟩; cases h
theorem memR_cons (x : Rng) (l : List Rng) (n : Int) : memR (x :: l) n ↔ (x.1 ≤ n ∧ n ≤ x.2) ∨ memR l n := by
  constructor
  · rintro ⟨y, h, h1⟩
    rcases List.mem_cons.1 h with rfl | h
    · exact .inl h1
    · exact .inr ⟨y, h, h1⟩
  · rintro (h | ⟨y, h, h1⟩)
    · exact ⟨x, List.mem_cons_self, h⟩
    · exact ⟨y, List.mem_cons_of_mem _ h, h1⟩
theorem memR_append (l m : List Rng) (n : Int) : memR (l ++ m) n ↔ memR l n ∨ memR m n := by
  induction l with
  | nil => simp [memR_nil]
  | cons x l ih => rw [List.cons_append, memR_cons, memR_cons, ih, or_assoc]

theorem goodFrom_mono {b c : Int} {l : List Rng} (h : goodFrom b l) (hc : c ≤ b) : goodFrom c l := by
  cases l with
  | nil => trivial
  | cons x l => exact ⟨by have := h.1; omega, h.2⟩


/-- Behind what was put in, nothing changes. -/
theorem addR_put {b : Int} {l : List Rng} (h : goodFrom b l) (r : Rng) (hr : r.1 ≤ r.2) (hb : r.2 + 2 ≤ b) : addR l r true = l := by
  induction l generalizing b with
  | nil => rfl
  | cons x l ih =>
    obtain ⟨h1, h2, _, h3⟩ := h
    rw [addR, if_neg (by omega), if_pos (by omega), if_pos rfl, ih h3 (by omega)]

theorem addR_good {b : Int} {l : List Rng} (h : goodFrom b l) (r : Rng) (hb : b ≤ r.1) (hr : r.1 ≤ r.2) (hM : r.2 ≤ 4611686018427387903) : goodFrom b (addR l r false) := by
  induction l generalizing b r with
  | nil => exact ⟨hb, hr, hM, trivial⟩
  | cons x l ih =>
    obtain ⟨h1, h2, h4, h3⟩ := h
    rw [addR]
    by_cases c1 : x.2 + 1 < r.1
    · rw [if_pos c1]; exact ⟨h1, h2, h4, ih h3 r (by omega) hr hM⟩
    · rw [if_neg c1]
      by_cases c2 : r.2 + 1 < x.1
      · rw [if_pos c2, if_neg (by decide), addR_put h3 r hr (by omega)]
        exact ⟨hb, hr, hM, by omega, h2, h4, h3⟩
      · rw [if_neg c2]
        exact ih (goodFrom_mono h3 (by omega)) _ (by show b ≤ min r.1 x.1; omega) (by show min r.1 x.1 ≤ max r.2 x.2; omega) (by show max r.2 x.2 ≤ _; omega)

theorem addR_mem {b : Int} {l : List Rng} (h : goodFrom b l) (r : Rng) (hr : r.1 ≤ r.2) (n : Int) : memR (addR l r false) n ↔ memR l n ∨ (r.1 ≤ n ∧ n ≤ r.2) := by
  induction l generalizing b r with
  | nil => show memR [r] n ↔ _; rw [memR_cons]; simp [memR_nil]
  | cons x l ih =>
    obtain ⟨h1, h2, h4, h3⟩ := h
    rw [addR]
    by_cases c1 : x.2 + 1 < r.1
    · rw [if_pos c1, memR_cons, memR_cons, ih h3 r hr, or_assoc]
    · rw [if_neg c1]
      by_cases c2 : r.2 + 1 < x.1
      · rw [if_pos c2, if_neg (by decide), addR_put h3 r hr (by omega), memR_cons]
        exact or_comm
      · rw [if_neg c2, ih h3 _ (by show min r.1 x.1 ≤ max r.2 x.2; omega), memR_cons]
        show memR l n ∨ (min r.1 x.1 ≤ n ∧ n ≤ max r.2 x.2) ↔ _
        by_cases hm : memR l n
        · simp [hm]
        · simp only [hm, false_or, or_false]; omega

theorem cutR_good {b : Int} {l : List Rng} (h : goodFrom b l) (r : Rng) (hr : r.1 ≤ r.2) (c : Int) (hc : c ≤ b) : goodFrom c (cutR l r) := by
  induction l generalizing b c with
  | nil => trivial
  | cons x l ih =>
    obtain ⟨h1, h2, h4, h3⟩ := h
    rw [cutR]
    by_cases c1 : x.1 < r.1
    · rw [if_pos c1]
      by_cases c2 : r.2 < x.2
      · rw [if_pos c2]
        refine ⟨by show c ≤ x.1; omega, by show x.1 ≤ min x.2 (r.1 - 1); omega, by show min x.2 (r.1 - 1) ≤ _; omega, ?_⟩
        refine ⟨by show min x.2 (r.1 - 1) + 2 ≤ max x.1 (r.2 + 1); omega, by show max x.1 (r.2 + 1) ≤ x.2; omega, h4, ?_⟩
        exact ih h3 _ (Int.le_refl _)
      · rw [if_neg c2]
        exact ⟨by show c ≤ x.1; omega, by show x.1 ≤ min x.2 (r.1 - 1); omega, by show min x.2 (r.1 - 1) ≤ _; omega, ih h3 _ (by show min x.2 (r.1 - 1) + 2 ≤ _; omega)⟩
    · rw [if_neg c1]
      by_cases c2 : r.2 < x.2
      · rw [if_pos c2]
        exact ⟨by show c ≤ max x.1 (r.2 + 1); omega, by show max x.1 (r.2 + 1) ≤ x.2; omega, h4, ih h3 _ (Int.le_refl _)⟩
      · rw [if_neg c2]
        exact ih h3 c (by omega)

theorem cutR_mem (l : List Rng) (r : Rng) (hr : r.1 ≤ r.2) (n : Int) : memR (cutR l r) n ↔ memR l n ∧ ¬ (r.1 ≤ n ∧ n ≤ r.2) := by
  induction l with
  | nil => simp [cutR, memR_nil]
  | cons x l ih =>
    rw [cutR, memR_append, memR_append, ih, memR_cons]
    by_cases hm : memR l n
    · by_cases c1 : x.1 < r.1 <;> by_cases c2 : r.2 < x.2 <;> simp [c1, c2, memR_cons, memR_nil, hm] <;> omega
    · by_cases c1 : x.1 < r.1 <;> by_cases c2 : r.2 < x.2 <;> simp [c1, c2, memR_cons, memR_nil, hm] <;> omega
end Go.Proofs.YtbcagdjfegobnaaGreat
