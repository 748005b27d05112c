/- Plain: how many rounds a sender still needs. -/
import Derived.Test.YtoonohhjcfceeaaSenderSt
namespace Go.Proofs.Ytoonohhjcfceeaa
set_option linter.unusedVariables false

/-- Ranges behind what is cut out stay. -/
theorem cutR_far {b : Int} {l : List Rng} (h : goodFrom b l) (r : Rng) (hr : r.1 ≤ r.2) (hb : r.2 < b) : cutR l r = l := by
  induction l generalizing b with
  | nil => rfl
  | cons x l ih =>
    obtain ⟨h1, h2, h3, h4⟩ := h
    unfold cutR
    rw [if_neg (by omega), if_pos (by omega), ih h4 (by omega), show max x.1 (r.2 + 1) = x.1 by omega]
    rfl
/-- The first range's front is cut out. -/
theorem cutR_front {x : Rng} {l : List Rng} (h : goodFrom 0 (x :: l)) (hi : Int) (h1 : x.1 < hi) (h2 : hi ≤ x.2 + 1) : cutR (x :: l) (x.1, hi - 1) = if hi = x.2 + 1 then l else (hi, x.2) :: l := by
  obtain ⟨g1, g2, g3, g4⟩ := h
  unfold cutR
  rw [cutR_far g4 (x.1, hi - 1) (by simp only; omega) (by simp only; omega)]
  by_cases hc : hi = x.2 + 1
  · rw [if_pos hc, if_neg (by simp only; omega), if_neg (by simp only; omega)]; rfl
  · rw [if_neg hc, if_neg (by simp only; omega), if_pos (by simp only; omega), show max x.1 ((x.1, hi - 1).2 + 1) = hi by simp only; omega]
    rfl
/-- Pieces of forty bytes that lie in the ranges. -/
def need (l : List Rng) : Int := (l.map fun x => (x.2 - x.1 + 40) / 40).sum
theorem need_nil : need [] = 0 := rfl
theorem need_cons (x : Rng) (l : List Rng) : need (x :: l) = (x.2 - x.1 + 40) / 40 + need l := by simp [need]
theorem need_pos {l : List Rng} {b : Int} (h : goodFrom b l) : 0 ≤ need l ∧ (l ≠ [] → 1 ≤ need l) := by
  induction l generalizing b with
  | nil => exact ⟨by rw [need_nil]; omega, fun h => absurd rfl h⟩
  | cons x l ih =>
    obtain ⟨h1, h2, h3, h4⟩ := h
    have := (ih h4).1
    rw [need_cons]
    exact ⟨by omega, fun _ => by omega⟩
/-- A piece of forty bytes less. -/
theorem need_cut {x : Rng} {l : List Rng} (h : goodFrom 0 (x :: l)) : need (cutR (x :: l) (x.1, min (x.2 + 1) (x.1 + 40) - 1)) = need (x :: l) - 1 := by
  have g2 := h.2.1
  rw [cutR_front h _ (by omega) (by omega), need_cons]
  by_cases hc : min (x.2 + 1) (x.1 + 40) = x.2 + 1
  · rw [if_pos hc]; omega
  · rw [if_neg hc, need_cons]
    simp only
    omega
/-- Few pieces: a fortieth of the bytes, and one for each range. -/
theorem need_few {l : List Rng} {b nx : Int} (h : goodFrom b l) (hx : ∀ i, memR l i → i < nx) (hb : b ≤ nx) : 40 * need l ≤ (nx - b) + 40 * l.length := by
  induction l generalizing b with
  | nil => rw [need_nil]; simp; omega
  | cons x l ih =>
    obtain ⟨h1, h2, h3, h4⟩ := h
    have hx2 := hx x.2 ⟨x, List.mem_cons_self, h2, Int.le_refl _⟩
    rw [need_cons, List.length_cons]
    by_cases hl : l = []
    · subst hl
      rw [need_nil]
      simp only [List.length_nil]
      omega
    · have h5 : x.2 + 2 ≤ nx := by
        cases l with
        | nil => exact absurd rfl hl
        | cons y l =>
          have h6 := h4.1
          have h7 := h4.2.1
          have := hx y.2 ⟨y, List.mem_cons_of_mem _ List.mem_cons_self, h7, Int.le_refl _⟩
          omega
      have := ih h4 (fun i hi => hx i (by obtain ⟨y, hy, hz⟩ := hi; exact ⟨y, List.mem_cons_of_mem _ hy, hz⟩)) h5
      push_cast
      omega
theorem cutR_front_len {x : Rng} {l : List Rng} (h : goodFrom 0 (x :: l)) (hi : Int) (h1 : x.1 < hi) (h2 : hi ≤ x.2 + 1) : (cutR (x :: l) (x.1, hi - 1)).length ≤ l.length + 1 := by
  rw [cutR_front h hi h1 h2]
  split <;> simp
/-- What is in no range that was heard of is one hole. -/
theorem holes_whole {l : List Rng} (h : goodFrom 0 l) (lo hi : Int) (h0 : 0 ≤ lo) (h1 : lo ≤ hi) (h2 : hi ≤ 4611686018427387903) (hd : ∀ i, lo ≤ i → i ≤ hi → ¬ memR l i) : holesR l [(lo, hi)] = [(lo, hi)] := by
  have hM : SetOk [(lo, hi)] hi := ⟨⟨h0, h1, h2, trivial⟩, fun i hi_ => by
    rcases (memR_cons _ _ _).1 hi_ with h3 | h3
    · exact h3.2
    · exact absurd h3 (memR_nil i)⟩
  refine goodFrom_same (holesR_ok l hM (good_each h)).1 hM.1 fun n => ?_
  rw [holesR_mem l _ (good_each h) n]
  constructor
  · exact fun h3 => h3.1
  · intro h3
    refine ⟨h3, ?_⟩
    rcases (memR_cons _ _ _).1 h3 with h4 | h4
    · exact hd n h4.1 h4.2
    · exact absurd h4 (memR_nil n)
end Go.Proofs.Ytoonohhjcfceeaa
