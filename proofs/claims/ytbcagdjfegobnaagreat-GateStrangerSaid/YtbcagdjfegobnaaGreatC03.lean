/- Texts of the proof, laid together: RangeBWalk RangeWalk AddWalk RCutWalk HasBWalk SetBWalk NoteBWalk. -/
import Derived.Test.YtbcagdjfegobnaaGreatC00
import Derived.Test.YtbcagdjfegobnaaGreatC01
import Derived.Test.YtbcagdjfegobnaaGreatC02
import Derived.BigQuiet
import Derived.Deep.RegionHeld3
import Derived.Deep.DeepCutAuto
/- The contracts of ranges.good and Check. -/
namespace Go.Proofs.YtbcagdjfegobnaaGreat
open Go.ChangeShapes Go.WideShapes Go.ChangeAt Go.RowKit
set_option linter.unusedVariables false

def rcells (x : Rng) : List Value := [.int .i64 x.1, .int .i64 x.2]
theorem rcells_len (x : Rng) : (rcells x).length = 2 := rfl
theorem rcells_one (xs : List Rng) : ∀ u ∈ xs.flatMap rcells, u.oneCell' = true := by
  intro u hu
  obtain ⟨x, _, hx⟩ := List.mem_flatMap.1 hu
  simp [rcells] at hx
  rcases hx with rfl | rfl <;> rfl
abbrev RdR (w : World) (A : Option Addr) (xs : List Rng) : Prop := RdX rcells 2 w A xs
theorem RdX.rcell {w : World} {A : Option Addr} {xs : List Rng} (h : RdX rcells 2 w A xs) (hn : 0 < xs.length) : ∃ b off, A = some ⟨b, off, none⟩ ∧ ∀ k, k < xs.length → w.cell? ⟨b, off + k * 2, none⟩ = some (.int .i64 (xs.getD k (0, 0)).1) ∧ w.cell? ⟨b, off + k * 2 + 1, none⟩ = some (.int .i64 (xs.getD k (0, 0)).2) := by
  obtain ⟨b, off, e, hc⟩ := RdX.at_ rcells_len h (0, 0) hn
  exact ⟨b, off, e, fun k hk => ⟨hc k hk 0 _ (by decide) rfl, hc k hk 1 _ (by decide) rfl⟩⟩
theorem goodFrom_at {b : Int} {l : List Rng} (h : goodFrom b l) (hb : 0 ≤ b) (k : Nat) (hk : k < l.length) : 0 ≤ (l.getD k (0, 0)).1 ∧ (l.getD k (0, 0)).1 ≤ (l.getD k (0, 0)).2 ∧ (l.getD k (0, 0)).2 ≤ 4611686018427387903 := by
  induction l generalizing b k with
  | nil => simp at hk
  | cons x l ih =>
    obtain ⟨h1, h2, h3, h4⟩ := h
    cases k with
    | zero => exact ⟨by show 0 ≤ x.1; omega, h2, h3⟩
    | succ k => exact ih h4 (by omega) k (by simpa using hk)
theorem goodFrom_next {b : Int} {l : List Rng} (h : goodFrom b l) (k : Nat) (hk : k + 1 < l.length) : (l.getD k (0, 0)).2 + 2 ≤ (l.getD (k + 1) (0, 0)).1 := by
  induction l generalizing b k with
  | nil => simp at hk
  | cons x l ih =>
    obtain ⟨h1, h2, h3, h4⟩ := h
    cases k with
    | zero =>
      cases l with
      | nil => simp at hk
      | cons y l => exact h4.1
    | succ k => exact ih h4 k (by simpa using hk)

theorem rgood_ok (lo hi : Int) (h0 : 0 ≤ lo) (h1 : lo ≤ hi) (h2 : hi ≤ 4611686018427387903) (w : World) :
    Calls Tryz.prog 162 #[.agg #[.int .i64 lo, .int .i64 hi]] w fun e w' => e = .returned (.bool true) ∧ Below w.heap.size w w' := by
  go_enter Tryz.func162, Tryz.ntmps162
  go_wp2
  go_ret
  exact ⟨by simp, (Below.refl _ _).alloc (Nat.le_refl _) _⟩

set_option maxHeartbeats 1000000 in
theorem rCheck_ok (A : Option Addr) (n c : Nat) (l : List Rng) (hn : l.length = n) (hl : goodFrom 0 l) (hnc : n ≤ c) (hcm : c ≤ 9223372036854775807) (w : World) (hr : RdX rcells 2 w A l) :
    Calls Tryz.prog 124 #[.slice A n c] w fun e w' => e = .returned (.int .i64 0) ∧ Below w.heap.size w w' := by
  have HN := Lib.hid hn
  have HL := Lib.hid hl
  have HR := Lib.hid hr
  clear hn hl hr
  go_enter Tryz.func124, Tryz.ntmps124
  go_wp2_with fail
  go_loopw [7] (fun i wr => ∃ k : Nat, k ≤ n ∧ i = .int .i64 k ∧ Below w.heap.size w wr) (fun i _ => n - (intOf i).toNat)
  case atStart => exact ⟨0, Nat.zero_le _, rfl, Below.refl _ _⟩
  case round =>
    obtain ⟨k, hk, rfl, hb⟩ := hrel
    by_cases hlt : k < n
    · have hlen := HN.out
      obtain ⟨b, off, rfl, hcell⟩ := (RdX.below HR.out hb).rcell (by omega)
      obtain ⟨c0, c1⟩ := hcell k (by omega)
      obtain ⟨g0, g1, g2⟩ := goodFrom_at HL.out (by decide) k (by omega)
      have hprev : 0 < k → wr.cell? ⟨b, off + (k - 1) * 2 + 1, none⟩ = some (.int .i64 (l.getD (k - 1) (0, 0)).2) ∧ 0 ≤ (l.getD (k - 1) (0, 0)).2 ∧ (l.getD (k - 1) (0, 0)).2 + 2 ≤ (l.getD k (0, 0)).1 := fun h0 => by
        have := goodFrom_next HL.out (k - 1) (by omega)
        rw [show k - 1 + 1 = k from by omega] at this
        have h2 := goodFrom_at HL.out (by decide) (k - 1) (by omega)
        exact ⟨(hcell (k - 1) (by omega)).2, by omega, this⟩
      have HPR := Lib.hid hprev
      clear hcell hlen hprev
      obtain ⟨x1, x2, hx⟩ : ∃ x1 x2, l.getD k (0, 0) = (x1, x2) := ⟨_, _, rfl⟩
      have HPR2 : Hid (0 < k → wr.cell? ⟨b, off + (k - 1) * 2 + 1, none⟩ = some (.int .i64 (l.getD (k - 1) (0, 0)).2) ∧ 0 ≤ (l.getD (k - 1) (0, 0)).2 ∧ (l.getD (k - 1) (0, 0)).2 + 2 ≤ x1) := by
        have := HPR.out; rw [hx] at this; exact this
      rw [hx] at c0 c1 g0 g1 g2
      replace g0 : 0 ≤ x1 := g0
      replace g1 : x1 ≤ x2 := g1
      replace g2 : x2 ≤ 4611686018427387903 := g2
      clear hx HPR
      have hbl : b < wr.heap.size := World.block_lt_of_cell? wr _ c0
      go_upto_region 4 with (fail)
      refine wp_world (fun w' => Blk w' wr.heap.size 116 #[.int .i64 x1, .int .i64 x2] ∧ Below w.heap.size w w' ∧ (0 < k → w'.cell? ⟨b, off + (k - 1) * 2 + 1, none⟩ = some (.int .i64 (l.getD (k - 1) (0, 0)).2))) ⟨Blk.new _ _ _, hb.alloc hb.size _, fun h0 => (World.cell?_alloc_lt _ _ _ hbl).trans (HPR2.out h0).1⟩ ?_
      have hwr := hb.size
      clear hb c0 c1
      rintro w2 ⟨hB, hb, hpc⟩
      have HPC := Lib.hid hpc
      clear hpc
      have hg2 := hB.lt
      rcases Nat.eq_zero_or_pos k with h0 | h0
      · subst h0
        have hfacts : ∀ w', Below w2.heap.size w2 w' → w'.cell? ⟨wr.heap.size, 0, none⟩ = some (.int .i64 x1) ∧ w'.cell? ⟨wr.heap.size, 1, none⟩ = some (.int .i64 x2) := fun w' hw' => ⟨(hB.carry hw').two.1, (hB.carry hw').two.2.1⟩
        have HFA := Lib.hid hfacts
        clear hfacts
        refine wp_region_quiet (C := fun w' => Below (w2).heap.size (w2) w') (by kernel_rfl) (by kernel_rfl) (Below.refl _ _).drew ?_
        repeat (
          with_reducible refine wpQuiet_step ?_
          intro K hK
          go_simp
          first
            | (refine hK _ ?_; clear hK K)
            | (apply Exists.intro
               refine ⟨fun w' hw' => ?_, hK _ ?_⟩
               first
                 | (go_at_call 162; exact (rgood_ok x1 x2 g0 g1 g2 _).mono (fun e w'' ⟨he, hb⟩ => ⟨he, hw'.trans (hb.mono hw'.size)⟩))
                 | (have FF := HFA.out w' hw'; go_simp; done)
                 | (have FF := HFA.out w' hw'; go_simp; exact rfl)
               clear hK K))
        
        refine wpQuiet_nil ?_
        intro wq hwq
        have hb2 := hb.trans (hwq.mono hb.size)
        clear hb hB HFA hwq
        go_wp2_with fail
        go_roundw
        case rel => exact ⟨1, by omega, by go_num, hb2⟩
        case measure => simp [intOf]; omega
      · obtain ⟨j, rfl⟩ : ∃ j, k = j + 1 := ⟨k - 1, by omega⟩
        have p1 := HPC.out (by omega)
        obtain ⟨_, p2, p3⟩ := HPR2.out (by omega)
        rw [Nat.add_sub_cancel] at p1 p2 p3
        generalize (l.getD j (0, 0)).2 = z at *
        have hfacts : ∀ w', Below w2.heap.size w2 w' → w'.cell? ⟨wr.heap.size, 0, none⟩ = some (.int .i64 x1) ∧ w'.cell? ⟨wr.heap.size, 1, none⟩ = some (.int .i64 x2) ∧ w'.cell? ⟨b, off + j * 2 + 1, none⟩ = some (.int .i64 z) := fun w' hw' => ⟨(hB.carry hw').two.1, (hB.carry hw').two.2.1, cell_keep hw' p1⟩
        have HFA := Lib.hid hfacts
        have hj0 : (0 : Int) ≤ (j : Int) := by omega
        have hj1 : (j : Int) < (n : Int) := by omega
        have hw1 : IntKind.i64.wrap (j : Int) = (j : Int) := IntWalk.i64_in _ (by omega)
        have hz1 : IntKind.i64.wrap (z + 1) = z + 1 := IntWalk.i64_in _ (by omega)
        have hd : decide (0 < (j : Int) + 1) = true := decide_eq_true (by omega)
        have hd2 : decide (x1 ≤ z + 1) = false := decide_eq_false (by omega)
        clear hfacts p1
        refine wp_region_quiet (C := fun w' => Below (w2).heap.size (w2) w') (by kernel_rfl) (by kernel_rfl) (Below.refl _ _).drew ?_
        repeat (
          with_reducible refine wpQuiet_step ?_
          intro K hK
          go_simp
          first
            | (refine hK _ ?_; clear hK K)
            | (apply Exists.intro
               refine ⟨fun w' hw' => ?_, hK _ ?_⟩
               first
                 | (go_at_call 162; exact (rgood_ok x1 x2 g0 g1 g2 _).mono (fun e w'' ⟨he, hb⟩ => ⟨he, hw'.trans (hb.mono hw'.size)⟩))
                 | (have FF := HFA.out w' hw'; go_simp; done)
                 | (have FF := HFA.out w' hw'; go_simp; exact rfl)
               clear hK K))
        
        refine wpQuiet_nil ?_
        intro wq hwq
        have hb2 := hb.trans (hwq.mono hb.size)
        clear hb hB HFA hwq hw1 hz1
        go_wp2_with fail
        go_roundw
        case rel => exact ⟨j + 1 + 1, by omega, by go_num, hb2⟩
        case measure => simp [intOf]; omega
    · go_wp2_with fail
      go_ret
      exact ⟨rfl, hb⟩

end Go.Proofs.YtbcagdjfegobnaaGreat
/- The contract of ranges.fault. -/
namespace Go.Proofs.YtbcagdjfegobnaaGreat
open Go.ChangeShapes Go.WideShapes Go.ChangeAt Go.RowKit
set_option linter.unusedVariables false

end Go.Proofs.YtbcagdjfegobnaaGreat
/- The contract of ranges.Add. -/
namespace Go.Proofs.YtbcagdjfegobnaaGreat
open Go.ChangeShapes Go.WideShapes Go.ChangeAt Go.RowKit
set_option linter.unusedVariables false



end Go.Proofs.YtbcagdjfegobnaaGreat
/- The contract of ranges.Cut. -/
namespace Go.Proofs.YtbcagdjfegobnaaGreat
open Go.ChangeShapes Go.WideShapes Go.ChangeAt Go.RowKit
set_option linter.unusedVariables false


end Go.Proofs.YtbcagdjfegobnaaGreat
/- The contracts of ranges.Has, and of the laws' has, sameRanges, rangesTell. -/
namespace Go.Proofs.YtbcagdjfegobnaaGreat
open Go.ChangeShapes Go.WideShapes Go.ChangeAt Go.RowKit
set_option linter.unusedVariables false

/-- Is a number in one of the ranges? -/
def hasB (l : List Rng) (n : Int) : Bool := l.any fun x => decide (x.1 ≤ n ∧ n ≤ x.2)

end Go.Proofs.YtbcagdjfegobnaaGreat
/- The contracts of set, sameRanges, rangesTell. -/
namespace Go.Proofs.YtbcagdjfegobnaaGreat
open Go.ChangeShapes Go.WideShapes Go.ChangeAt Go.RowKit
set_option linter.unusedVariables false

/-- A good set of numbers up to M. -/
def SetOk (l : List Rng) (M : Int) : Prop := goodFrom 0 l ∧ ∀ n, memR l n → n ≤ M
theorem good_len {b M : Int} {l : List Rng} (h : goodFrom b l) (hM : ∀ n, memR l n → n ≤ M) (hb : b ≤ M + 2) : 2 * (l.length : Int) ≤ M - b + 2 := by
  induction l generalizing b with
  | nil => simp; omega
  | cons x l ih =>
    obtain ⟨h1, h2, h3, h4⟩ := h
    have hx := hM x.2 ((memR_cons x l _).2 (.inl ⟨h2, Int.le_refl _⟩))
    have := ih h4 (fun n hn => hM n ((memR_cons x l _).2 (.inr hn))) (by omega)
    simp only [List.length_cons]; omega
theorem SetOk.len {l : List Rng} {M : Int} (h : SetOk l M) (hM : 0 ≤ M) : 2 * (l.length : Int) ≤ M + 2 := by
  have := good_len h.1 h.2 (by omega); omega
theorem SetOk.nil (M : Int) : SetOk [] M := ⟨trivial, fun n hn => absurd hn (memR_nil n)⟩
theorem SetOk.add {l : List Rng} {M : Int} (h : SetOk l M) (lo hi : Int) (h0 : 0 ≤ lo) (h1 : lo ≤ hi) (h2 : hi ≤ M) (hM : M ≤ 4611686018427387903) : SetOk (addR l (lo, hi) false) M := by
  refine ⟨addR_good h.1 (lo, hi) h0 h1 (by show hi ≤ _; omega), fun n hn => ?_⟩
  rcases (addR_mem h.1 (lo, hi) h1 n).1 hn with h3 | h3
  · exact h.2 n h3
  · have : n ≤ hi := h3.2
    omega
theorem SetOk.cut {l : List Rng} {M : Int} (h : SetOk l M) (lo hi : Int) (h1 : lo ≤ hi) : SetOk (cutR l (lo, hi)) M :=
  ⟨cutR_good h.1 (lo, hi) h1 0 (Int.le_refl _), fun n hn => h.2 n ((cutR_mem l (lo, hi) h1 n).1 hn).1⟩
theorem SetOk.mono {l : List Rng} {M N : Int} (h : SetOk l M) (hMN : M ≤ N) : SetOk l N := ⟨h.1, fun n hn => by have := h.2 n hn; omega⟩


end Go.Proofs.YtbcagdjfegobnaaGreat
/- The contract of ranges.Note. -/
namespace Go.Proofs.YtbcagdjfegobnaaGreat
open Go.ChangeShapes Go.WideShapes Go.ChangeAt Go.RowKit
set_option linter.unusedVariables false

/-- Note, as_v the code does it. -/
def noteR (l : List Rng) (n : Int) : List Rng := (addR l (n, n) false).drop ((addR l (n, n) false).length - 6)

end Go.Proofs.YtbcagdjfegobnaaGreat
