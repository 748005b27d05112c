/- Plain: the state of SenderEver's rounds. -/
import Derived.Test.YtoonohhjcfceeaaEverPlain
import Derived.Test.YtoonohhjcfceeaaSnPiece
import Derived.Test.YtoonohhjcfceeaaSnHeard
import Derived.Test.YtoonohhjcfceeaaSnLose
import Derived.Test.YtoonohhjcfceeaaSnOver
namespace Go.Proofs.Ytoonohhjcfceeaa
set_option linter.unusedVariables false

/-- The state at the head of round i (L: how many raw things there are). -/
structure EvOk (N : Nat) (nx : Int) (lost acked : List Rng) (over : Bool) (L i : Nat) : Prop where
  ok : SnOk N true nx 300 lost acked false over
  n300 : N ≤ 300
  cov : ∀ j, 0 ≤ j → j < nx → memR lost j ∨ memR acked j
  cnt : i ≤ L → lost.length ≤ i
  mea : L ≤ 15 → L ≤ i → need lost + ((N : Int) - nx + 39) / 40 + (if over then 0 else 1) + i ≤ 60
theorem EvOk.begin (N L : Nat) (h : N ≤ 300) : EvOk N 0 [] [] false L 0 :=
  ⟨⟨by omega, by omega, by omega, by omega, by omega, trivial, trivial, fun i h => absurd h (memR_nil i), fun i h => absurd h (memR_nil i), fun i h => absurd h (memR_nil i), .inl rfl, .inl ⟨rfl, rfl⟩, by simp⟩, h, fun j h0 h1 => by omega, fun _ => Nat.le_refl _, fun _ _ => by rw [need_nil]; simp only [Bool.false_eq_true, if_false]; omega⟩
/-- What a piece is, of a sender that has lost something, or nothing. -/
theorem EvOk.pc {N : Nat} {nx : Int} {lost acked : List Rng} {over : Bool} {L i : Nat} (h : EvOk N nx lost acked over L i) (room : Int) (h0 : 1 ≤ room) (lo hi : Int) (hlo : pcLo nx lost room = lo) (hhi : pcHi N nx 300 lost room 100 = hi) :
    (∃ x l, lost = x :: l ∧ lo = x.1 ∧ hi = min (x.2 + 1) (x.1 + room) ∧ hi ≤ nx ∧ lo < hi) ∨ (lost = [] ∧ lo = nx ∧ hi = min (N : Int) (nx + min room 100) ∧ nx ≤ hi) := by
  have hx0 := h.ok.x0
  have hx1 := h.ok.x1
  have hn := h.n300
  cases hl : lost with
  | nil =>
    right
    subst hl
    unfold pcLo at hlo
    unfold pcHi pcNew at hhi
    rw [if_neg (by simp)] at hlo hhi
    exact ⟨rfl, hlo.symm, by omega, by omega⟩
  | cons x l =>
    left
    subst hl
    unfold pcLo at hlo
    unfold pcHi at hhi
    rw [if_pos ⟨by simp, by omega⟩] at hlo hhi
    simp only [List.getD_cons_zero] at hlo hhi
    have h2 := good_each h.ok.hl x List.mem_cons_self
    have h3 := h.ok.lh' x List.mem_cons_self
    exact ⟨x, l, rfl, hlo.symm, hhi.symm, by omega, by omega⟩
/-- What is lost behind a piece: no more ranges, nothing of the piece. -/
theorem EvOk.lost1 {N : Nat} {nx : Int} {lost acked : List Rng} {over : Bool} {L i : Nat} (h : EvOk N nx lost acked over L i) (room : Int) (h0 : 1 ≤ room) (lo hi : Int) (hlo : pcLo nx lost room = lo) (hhi : pcHi N nx 300 lost room 100 = hi) :
    (pcLost lost lo hi).length ≤ lost.length ∧ (∀ j, memR (pcLost lost lo hi) j ↔ memR lost j ∧ ¬ (lo ≤ j ∧ j < hi)) ∧ goodFrom 0 (pcLost lost lo hi) := by
  rcases h.pc room h0 lo hi hlo hhi with ⟨x, l, rfl, rfl, e, hx, hl⟩ | ⟨rfl, e1, e2, e3⟩
  · have hg := h.ok.hl
    unfold pcLost
    rw [if_pos hl]
    refine ⟨cutR_front_len hg hi hl (by omega), fun j => ?_, cutR_good hg _ (by simp only; omega) 0 (Int.le_refl _)⟩
    rw [cutR_mem _ _ (by simp only; omega)]
    simp only
    constructor
    · rintro ⟨a, b⟩; exact ⟨a, fun hc => b ⟨hc.1, by omega⟩⟩
    · rintro ⟨a, b⟩; exact ⟨a, fun hc => b ⟨hc.1, by omega⟩⟩
  · have e : pcLost [] lo hi = [] := by unfold pcLost; split <;> rfl
    rw [e]
    exact ⟨Nat.le_refl _, fun j => ⟨fun hj => absurd hj (memR_nil j), fun hj => absurd hj.1 (memR_nil j)⟩, trivial⟩
/-- What was heard of was not lost any more. -/
theorem heardL_same {l : List Rng} (h : goodFrom 0 l) (lo q : Int) (hd : ∀ j, memR l j → ¬ (lo ≤ j ∧ j < lo + q)) : heardL l lo q = l := by
  unfold heardL
  by_cases hq : 0 < q
  · rw [if_pos hq]
    refine goodFrom_same (cutR_good h _ (by simp only; omega) 0 (Int.le_refl _)) h fun j => ?_
    rw [cutR_mem _ _ (by simp only; omega)]
    simp only
    exact ⟨fun hj => hj.1, fun hj => ⟨hj, fun hc => hd j hj ⟨hc.1, by omega⟩⟩⟩
  · rw [if_neg hq]
/-- What may be told of a piece. -/
theorem EvOk.part {N : Nat} {nx : Int} {lost acked : List Rng} {over : Bool} {L i : Nat} (h : EvOk N nx lost acked over L i) (room : Int) (h0 : 1 ≤ room) (lo hi : Int) (hlo : pcLo nx lost room = lo) (hhi : pcHi N nx 300 lost room 100 = hi) (F : Bool) (hF : pcFin N true false over hi = F) :
    partOk N true (max nx hi) F over lo (hi - lo) F := by
  obtain ⟨p0, p1, p2, p3, p4⟩ := h.ok.pc room 100 (by omega) (by decide)
  rw [hlo, hhi] at p1 p4
  rw [hlo] at p0
  rw [hhi] at p2
  refine ⟨p0, by omega, by omega, by omega, fun hf => ⟨.inl hf, ?_⟩⟩
  rw [hf] at hF
  unfold pcFin at hF
  simp at hF
  omega
theorem EvOk.okPiece {N : Nat} {nx : Int} {lost acked : List Rng} {over : Bool} {L i : Nat} (h : EvOk N nx lost acked over L i) (room : Int) (h0 : 1 ≤ room) (lo hi : Int) (hlo : pcLo nx lost room = lo) (hhi : pcHi N nx 300 lost room 100 = hi) (F : Bool) (hF : pcFin N true false over hi = F) :
    SnOk N true (max nx hi) 300 (pcLost lost lo hi) acked F over := by
  have hk := h.ok.pieceAny room 100 (by omega) (by decide) lo hi hlo hhi
  rw [hF] at hk
  simpa using hk
theorem EvOk.heard {N : Nat} {nx : Int} {lost acked : List Rng} {over : Bool} {L i : Nat} (h : EvOk N nx lost acked over L i) (room : Int) (h0 : 1 ≤ room) (h40 : L ≤ i → room = 40) (lo hi : Int) (hlo : pcLo nx lost room = lo) (hhi : pcHi N nx 300 lost room 100 = hi) (F : Bool) (hF : pcFin N true false over hi = F) (hg : lo < hi ∨ F = true) :
    EvOk N (max nx hi) (heardL (pcLost lost lo hi) lo (hi - lo)) (heardA acked lo (hi - lo)) (if F then true else over) L (i + 1) := by
  have hpc := h.pc room h0 lo hi hlo hhi
  obtain ⟨l1, l2, l3⟩ := h.lost1 room h0 lo hi hlo hhi
  have hk := h.okPiece room h0 lo hi hlo hhi F hF
  have hp := h.part room h0 lo hi hlo hhi F hF
  have hh := hk.heardAny lo (hi - lo) F hp
  have hn3 := h.n300
  have hx0 := h.ok.x0
  have hx1 := h.ok.x1
  have e : heardL (pcLost lost lo hi) lo (hi - lo) = pcLost lost lo hi := heardL_same l3 _ _ fun j hj hc => ((l2 j).1 hj).2 ⟨hc.1, by omega⟩
  have hF2 : F = true → over = false ∧ hi = N := fun hf => by
    rw [hf] at hF; unfold pcFin at hF; simp at hF; exact hF
  refine ⟨?_, h.n300, fun j j0 j1 => ?_, fun hi1 => ?_, fun hL hi1 => ?_⟩
  · cases F with
    | false => simpa using hh
    | true => simpa using hh
  · rw [e]
    by_cases hin : lo ≤ j ∧ j < hi
    · right
      unfold heardA
      rw [if_pos (by omega), addR_mem h.ok.ha _ (by simp only; omega)]
      exact .inr ⟨hin.1, by simp only; omega⟩
    · have hj : j < nx := by rcases hpc with ⟨x, l, _, _, _, hx, _⟩ | ⟨_, e1, _, _⟩ <;> omega
      rcases h.cov j j0 hj with h1 | h1
      · exact .inl ((l2 j).2 ⟨h1, hin⟩)
      · right
        unfold heardA
        by_cases hq : 0 < hi - lo
        · rw [if_pos hq, addR_mem h.ok.ha _ (by simp only; omega)]; exact .inl h1
        · rw [if_neg hq]; exact h1
  · rw [e]
    have := h.cnt (by omega)
    omega
  · rw [e]
    by_cases hLi : L ≤ i
    · have hm := h.mea hL hLi
      have hr := h40 hLi
      subst hr
      rcases hpc with ⟨x, l, rfl, e1, e2, hx, hl⟩ | ⟨rfl, e1, e2, e3⟩
      · have hc := need_cut h.ok.hl
        have e4 : pcLost (x :: l) lo hi = cutR (x :: l) (x.1, min (x.2 + 1) (x.1 + 40) - 1) := by unfold pcLost; rw [if_pos hl, e1, e2]
        rw [e4, hc, show max nx hi = nx by omega]
        cases F with
        | false => simp only [Bool.false_eq_true, if_false]; push_cast; omega
        | true => simp only [if_true]; have := (hF2 rfl).1; subst this; simp only [Bool.false_eq_true, if_false] at hm; push_cast; omega
      · have e4 : pcLost [] lo hi = [] := by unfold pcLost; split <;> rfl
        rw [e4]
        rw [need_nil] at hm ⊢
        rw [show max nx hi = hi by omega]
        cases F with
        | false =>
          simp only [Bool.false_eq_true, if_false]
          have : lo < hi := hg.resolve_right (by simp)
          push_cast; omega
        | true => simp only [if_true]; have := (hF2 rfl); rw [this.1] at hm; simp only [Bool.false_eq_true, if_false] at hm; push_cast; omega
    · have hLe : L = i + 1 := by omega
      have hc := h.cnt (by omega)
      have hf := need_few (nx := max nx hi) l3 (fun j hj => hk.lh j hj) (by omega)
      have h01 : (if (if F = true then true else over) = true then (0 : Int) else 1) ≤ 1 := by split <;> omega
      have hx2 := hk.x1
      push_cast
      omega
theorem EvOk.lose {N : Nat} {nx : Int} {lost acked : List Rng} {over : Bool} {L i : Nat} (h : EvOk N nx lost acked over L i) (room : Int) (h0 : 1 ≤ room) (hL : i < L) (lo hi : Int) (hlo : pcLo nx lost room = lo) (hhi : pcHi N nx 300 lost room 100 = hi) (F : Bool) (hF : pcFin N true false over hi = F) :
    EvOk N (max nx hi) (loseL (pcLost lost lo hi) acked lo (hi - lo)) acked over L (i + 1) := by
  have hpc := h.pc room h0 lo hi hlo hhi
  obtain ⟨l1, l2, l3⟩ := h.lost1 room h0 lo hi hlo hhi
  have hk := h.okPiece room h0 lo hi hlo hhi F hF
  have hp := h.part room h0 lo hi hlo hhi F hF
  have hh := hk.loseAny lo (hi - lo) F hp
  have hn3 := h.n300
  have hx0 := h.ok.x0
  have hx1 := h.ok.x1
  have hx2 := hk.x1
  have hlo0 := hp.1
  have hd : ∀ j, lo ≤ j → j ≤ lo + (hi - lo) - 1 → ¬ memR acked j := fun j j0 j1 hj => by
    have h3 := h.ok.ah j hj
    rcases hpc with ⟨x, l, rfl, rfl, e, hx, hl⟩ | ⟨rfl, e1, e2, e3⟩
    · exact h.ok.dj j ⟨x, List.mem_cons_self, j0, by omega⟩ hj
    · omega
  have hlen : (loseL (pcLost lost lo hi) acked lo (hi - lo)).length ≤ lost.length + 1 := by
    unfold loseL
    by_cases hq : 0 < hi - lo
    · rw [if_pos hq, holes_whole h.ok.ha lo (lo + (hi - lo) - 1) hlo0 (by omega) (by omega) hd]
      have := (addR_len (pcLost lost lo hi) (lo, lo + (hi - lo) - 1) false).1
      show (addR (pcLost lost lo hi) (lo, lo + (hi - lo) - 1) false).length ≤ _
      omega
    · rw [if_neg hq]; omega
  refine ⟨by simpa using hh, h.n300, fun j j0 j1 => ?_, fun hi1 => ?_, fun hL15 hi1 => ?_⟩
  · by_cases hin : lo ≤ j ∧ j < hi
    · left
      unfold loseL
      rw [if_pos (by omega), holes_whole h.ok.ha lo (lo + (hi - lo) - 1) hlo0 (by omega) (by omega) hd]
      show memR (addR (pcLost lost lo hi) (lo, lo + (hi - lo) - 1) false) j
      rw [addR_mem l3 _ (by simp only; omega)]
      exact .inr ⟨hin.1, by simp only; omega⟩
    · have hj : j < nx := by rcases hpc with ⟨x, l, _, _, _, hx, _⟩ | ⟨_, e1, _, _⟩ <;> omega
      rcases h.cov j j0 hj with h1 | h1
      · left
        have h2 := (l2 j).2 ⟨h1, hin⟩
        unfold loseL
        by_cases hq : 0 < hi - lo
        · rw [if_pos hq, holes_whole h.ok.ha lo (lo + (hi - lo) - 1) hlo0 (by omega) (by omega) hd]
          show memR (addR (pcLost lost lo hi) (lo, lo + (hi - lo) - 1) false) j
          rw [addR_mem l3 _ (by simp only; omega)]
          exact .inl h2
        · rw [if_neg hq]; exact h2
      · exact .inr h1
  · have := h.cnt (by omega); omega
  · have hc := h.cnt (by omega)
    have hf := need_few (nx := max nx hi) hh.hl (fun j hj => hh.lh j hj) (by omega)
    have h01 : (if over = true then (0 : Int) else 1) ≤ 1 := by split <;> omega
    push_cast
    omega
/-- All was heard of. -/
theorem EvOk.all {N : Nat} {nx : Int} {acked : List Rng} {L i : Nat} (h : EvOk N nx [] acked true L i) (hn : nx = N) : overR N acked true = true ∧ ∀ j, memR acked j ↔ 0 ≤ j ∧ j < N := by
  have hmem : ∀ j, memR acked j ↔ 0 ≤ j ∧ j < (N : Int) := fun j => by
    constructor
    · intro hj
      exact ⟨goodFrom_low h.ok.ha j hj, by have := h.ok.ah j hj; omega⟩
    · rintro ⟨j0, j1⟩
      exact (h.cov j j0 (by omega)).resolve_left (memR_nil j)
  refine ⟨?_, hmem⟩
  unfold overR
  by_cases h0 : N = 0
  · simp [h0]
  · have h3 := h.n300
    have : acked = [(0, (N : Int) - 1)] := goodFrom_same h.ok.ha (show goodFrom 0 [(0, (N : Int) - 1)] from ⟨by simp, by simp only; omega, by simp only; omega, trivial⟩) fun j => by
      rw [hmem j, memR_cons]
      simp only
      constructor
      · exact fun hj => .inl ⟨hj.1, by omega⟩
      · rintro (hj | hj)
        · exact ⟨hj.1, by omega⟩
        · exact absurd hj (memR_nil j)
    simp [this]
/-- Where nothing is to be sent all was heard of. -/
theorem EvOk.still {N : Nat} {nx : Int} {lost acked : List Rng} {over : Bool} {L i : Nat} (h : EvOk N nx lost acked over L i) (room : Int) (h0 : 1 ≤ room) (lo hi : Int) (hlo : pcLo nx lost room = lo) (hhi : pcHi N nx 300 lost room 100 = hi) (F : Bool) (hF : pcFin N true false over hi = F) (hg : ¬ lo < hi) (hf : F = false) : lost = [] ∧ nx = N ∧ over = true := by
  have hx1 := h.ok.x1
  have hn3 := h.n300
  rcases h.pc room h0 lo hi hlo hhi with ⟨x, l, rfl, rfl, e, hx, hl⟩ | ⟨rfl, e1, e2, e3⟩
  · exact absurd hl hg
  · have hN : nx = N := by omega
    refine ⟨rfl, hN, ?_⟩
    rw [hf] at hF
    unfold pcFin at hF
    cases over with
    | true => rfl
    | false => simp at hF; omega
/-- Behind sixty rounds all was heard of. -/
theorem EvOk.sixty {N : Nat} {nx : Int} {lost acked : List Rng} {over : Bool} {L i : Nat} (h : EvOk N nx lost acked over L i) (hL : L ≤ 15) (hi : 60 ≤ i) : lost = [] ∧ nx = N ∧ over = true := by
  have hm := h.mea hL (by omega)
  have hx1 := h.ok.x1
  obtain ⟨n0, n1⟩ := need_pos h.ok.hl
  have h01 : 0 ≤ (if over = true then (0 : Int) else 1) := by split <;> omega
  refine ⟨?_, by omega, ?_⟩
  · by_cases hc : lost = []
    · exact hc
    · have := n1 hc; omega
  · cases over with
    | true => rfl
    | false => simp only [Bool.false_eq_true, if_false] at hm; omega
end Go.Proofs.Ytoonohhjcfceeaa
