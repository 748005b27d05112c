/- The contract of sender.Over. -/
import Derived.Test.YtoonohhjcfceeaaSnBase
namespace Go.Proofs.Ytoonohhjcfceeaa
open Go.ChangeShapes Go.WideShapes Go.ChangeAt Go.RowKit
set_option linter.unusedVariables false

/-- Was all heard of? -/
def overR (n : Nat) (acked : List Rng) (over : Bool) : Bool := over && (decide (n = 0) || decide (acked = [(0, (n : Int) - 1)]))

set_option maxRecDepth 100000 in
set_option maxHeartbeats 8000000 in
theorem snOver_ok (w : World) (A : Option Addr) (n c : Nat) (bs : List UInt8) (fin : Bool) (nx mx : Int) (B : Option Addr) (m d : Nat) (lost : List Rng) (C : Option Addr) (k e : Nat) (acked : List Rng) (ended over : Bool) (h : SnV w A n c bs fin nx mx B m d lost C k e acked ended over) (R : Bool) (hR : overR n acked over = R) :
    Calls Try.prog 28 #[.agg #[.slice A n c, .bool fin, .int .i64 nx, .int .i64 mx, .slice B m d, .slice C k e, .bool ended, .bool over]] w fun e' w' => e' = .returned (.tuple #[.bool R, .int .i64 0]) ∧ Below w.heap.size w w' := by
  have HV := Lib.hid h
  have hn6 := h.ok.n600
  have HRR := Lib.hid hR
  clear h hR
  have g1 : IntKind.i64.wrap ((n : Int) - 1) = (n : Int) - 1 := IntWalk.i64_in _ (by omega)
  go_enter Try.func28, Try.ntmps28
  go_upto_region 1 with (fail)
  refine wp_world (fun w' => Blk w' w.heap.size 55 #[.slice A n c, .bool fin, .int .i64 nx, .int .i64 mx, .slice B m d, .slice C k e, .bool ended, .bool over] ∧ Below w.heap.size w w') ⟨Blk.new _ _ _, (Below.refl _ _).alloc (Nat.le_refl _) _⟩ ?_
  rintro w1 ⟨hS, hb1⟩
  have FS := hS.facts8
  go_wp2_with fail
  refine (HV.out.below hb1).check.mono ?_
  rintro e1 w2 ⟨rfl, hb2⟩
  have hS2 := hS.carry hb2
  have hbb := hb1.trans (hb2.mono hb1.size)
  clear FS hS hb1 hb2
  have FS := hS2.facts8
  have hR := HRR.out
  unfold overR at hR
  clear HRR
  cases over with
  | false =>
    simp at hR
    subst hR
    go_wp2_with fail
    all_goals first
      | (exfalso; rename_i hx hy; simp at hx; done)
      | (go_ret2; exact ⟨rfl, hbb⟩)
  | true =>
    by_cases h0 : n = 0
    · subst h0
      simp at hR
      subst hR
      go_wp2_with fail
      all_goals first
        | (exfalso; rename_i hx hy; simp at hx; done)
        | (go_ret2; exact ⟨rfl, hbb⟩)
    · by_cases hk : k = 1
      · subst hk
        obtain ⟨b, off, hC, hcell⟩ := (HV.out.below hbb).rc.rcell (by rw [HV.out.hk]; decide)
        obtain ⟨c0, c1⟩ := hcell 0 (by rw [HV.out.hk]; decide)
        rw [Nat.zero_mul, Nat.add_zero] at c0 c1
        obtain ⟨x, hx⟩ : ∃ x, acked = [x] := List.length_eq_one_iff.1 HV.out.hk
        rw [hx] at c0 c1
        obtain ⟨xl, xh⟩ := x
        simp only [List.getD_cons_zero] at c0 c1
        have hR2 : decide (xl = 0 ∧ xh = (n : Int) - 1) = R := by rw [← hR, hx]; simp [h0]
        have HN := Lib.hid h0
        subst hC
        clear hcell hx hR h0
        by_cases h1 : xl = 0
        · subst h1
          by_cases h2 : xh = (n : Int) - 1
          · have H2 := Lib.hid h2
            simp [h2] at hR2
            subst hR2
            rw [h2] at c1
            clear h2
            have t1 : ((n : Int) == 0) = false := by have := HN.out; simp; omega
            have t2 : n ≠ 0 := HN.out
            go_wp2_with fail
            all_goals first
              | (exfalso; rename_i hx hy; simp at hx; done)
              | (go_ret2; exact ⟨by first | rfl | (simp; done), hbb⟩)
          · have H2 := Lib.hid h2
            simp [h2] at hR2
            subst hR2
            have t2 : n ≠ 0 := HN.out
            have t3 : ¬ xh = (n : Int) - 1 := h2
            go_wp2_with fail
            all_goals first
              | (exfalso; rename_i hx hy; simp at hx; done)
              | (go_ret2; exact ⟨by first | rfl | (simp; done) | (simp; omega), hbb⟩)
        · have H1 := Lib.hid h1
          simp [h1] at hR2
          subst hR2
          have t2 : n ≠ 0 := HN.out
          go_wp2_with fail
          all_goals first
            | (exfalso; rename_i hx hy; simp at hx; done)
            | (go_ret2; exact ⟨by first | rfl | (simp; done) | (simp; omega), hbb⟩)
      · have hR2 : R = false := by
          rw [← hR]
          have : acked ≠ [(0, (n : Int) - 1)] := fun e => hk (by rw [← HV.out.hk, e]; rfl)
          simp [h0, this]
        subst hR2
        have t2 : n ≠ 0 := h0
        have t3 : k ≠ 1 := hk
        clear hR
        go_wp2_with fail
        all_goals first
          | (exfalso; rename_i hx hy; simp at hx; done)
          | (go_ret2; exact ⟨by first | rfl | (simp; done) | (simp; omega), hbb⟩)
end Go.Proofs.Ytoonohhjcfceeaa
