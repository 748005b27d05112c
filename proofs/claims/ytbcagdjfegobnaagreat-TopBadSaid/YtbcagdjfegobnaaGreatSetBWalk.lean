/- The contracts of set, sameRanges, rangesTell. -/
import Derived.Test.YtbcagdjfegobnaaGreatHasBWalk
namespace Go.Proofs.YtbcagdjfegobnaaGreat
open Go.ChangeShapes Go.WideShapes Go.ChangeAt Go.RowKit
set_option linter.unusedVariables false

/-- A good set of numbers up to M. -/
def SetOk (l : List Rng) (M : Int) : Prop := goodFrom 0 l ∧ ∀ n, memR l n → n ≤ M
theorem good_len {b M : Int} {l : List Rng} (h : goodFrom b l) (hM : ∀ n, memR l n → n ≤ M) (hb : b ≤ M + 2) : 2 * (l.length : Int) ≤ M - b + 2 := by
  induction l generalizing b with
  | nil => simp; omega
  | cons x l ih =>
    obtain ⟨h1, h2, h3, h4⟩ := h
    have hx := hM x.2 ((memR_cons x l _).2 (.inl ⟨h2, Int.le_refl _⟩))
    have := ih h4 (fun n hn => hM n ((memR_cons x l _).2 (.inr hn))) (by omega)
    simp only [List.length_cons]; omega
theorem SetOk.len {l : List Rng} {M : Int} (h : SetOk l M) (hM : 0 ≤ M) : 2 * (l.length : Int) ≤ M + 2 := by
  have := good_len h.1 h.2 (by omega); omega
theorem SetOk.nil (M : Int) : SetOk [] M := ⟨trivial, fun n hn => absurd hn (memR_nil n)⟩
theorem SetOk.add {l : List Rng} {M : Int} (h : SetOk l M) (lo hi : Int) (h0 : 0 ≤ lo) (h1 : lo ≤ hi) (h2 : hi ≤ M) (hM : M ≤ 4611686018427387903) : SetOk (addR l (lo, hi) false) M := by
  refine ⟨addR_good h.1 (lo, hi) h0 h1 (by show hi ≤ _; omega), fun n hn => ?_⟩
  rcases (addR_mem h.1 (lo, hi) h1 n).1 hn with h3 | h3
  · exact h.2 n h3
  · have : n ≤ hi := h3.2
    omega
theorem SetOk.cut {l : List Rng} {M : Int} (h : SetOk l M) (lo hi : Int) (h1 : lo ≤ hi) : SetOk (cutR l (lo, hi)) M :=
  ⟨cutR_good h.1 (lo, hi) h1 0 (Int.le_refl _), fun n hn => h.2 n ((cutR_mem l (lo, hi) h1 n).1 hn).1⟩
theorem SetOk.mono {l : List Rng} {M N : Int} (h : SetOk l M) (hMN : M ≤ N) : SetOk l N := ⟨h.1, fun n hn => by have := h.2 n hn; omega⟩

theorem rAdd_rd (A : Option Addr) (n c : Nat) (l : List Rng) (hn : l.length = n) (hl : goodFrom 0 l) (hnc : n ≤ c) (hcm : c ≤ 9223372036854775807) (hnb : n ≤ 1000000) (lo hi : Int) (h0 : 0 ≤ lo) (h1 : lo ≤ hi) (h2 : hi ≤ 4611686018427387903)
    (R : List Rng) (k_ : Nat) (hR : addR l (lo, hi) false = R) (hk : R.length = k_) (w : World) (hr : RdX rcells 2 w A l) :
    Calls Tryz.prog 169 #[.slice A n c, .agg #[.int .i64 lo, .int .i64 hi]] w fun e w' => ∃ A' c', e = .returned (.tuple #[.slice A' k_ c', .int .i64 0]) ∧ k_ ≤ c' ∧ c' ≤ 9223372036854775807 ∧ RdX rcells 2 w' A' R ∧ Below w.heap.size w w' :=
  (rAdd_own A n c l hn hl hnc hcm hnb lo hi h0 h1 h2 R k_ hR hk w hr).mono fun e w' ⟨A', c', he, hc, hc', ho, hb⟩ => ⟨A', c', he, hc, hc', ho.rd, hb⟩
theorem rCut_rd (A : Option Addr) (n c : Nat) (l : List Rng) (hn : l.length = n) (hl : goodFrom 0 l) (hnc : n ≤ c) (hcm : c ≤ 9223372036854775807) (hnb : n ≤ 1000000) (lo hi : Int) (h0 : 0 ≤ lo) (h1 : lo ≤ hi) (h2 : hi ≤ 4611686018427387903)
    (R : List Rng) (k_ : Nat) (hR : cutR l (lo, hi) = R) (hk : R.length = k_) (w : World) (hr : RdX rcells 2 w A l) :
    Calls Tryz.prog 186 #[.slice A n c, .agg #[.int .i64 lo, .int .i64 hi]] w fun e w' => ∃ A' c', e = .returned (.tuple #[.slice A' k_ c', .int .i64 0]) ∧ k_ ≤ c' ∧ c' ≤ 9223372036854775807 ∧ RdX rcells 2 w' A' R ∧ Below w.heap.size w w' :=
  (rCut_own A n c l hn hl hnc hcm hnb lo hi h0 h1 h2 R k_ hR hk w hr).mono fun e w' ⟨A', c', he, hc, hc', ho, hb⟩ => ⟨A', c', he, hc, hc', ho.rd, hb⟩

end Go.Proofs.YtbcagdjfegobnaaGreat
