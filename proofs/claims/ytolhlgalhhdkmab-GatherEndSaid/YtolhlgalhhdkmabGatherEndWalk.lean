/- The walk of the law GatherEnd. -/
import Derived.Test.YtolhlgalhhdkmabGatherTellsWalk
namespace Go.Proofs.Ytolhlgalhhdkmab
open Go.ChangeShapes Go.WideShapes Go.ChangeAt Go.RowKit
set_option linter.unusedVariables false

/-- Put of nothing, with an end: that stands, or it is another one. -/
theorem gPut_again (f win off : Int) (h0 : 0 ≤ f) (h1 : f ≤ win) (h2 : win ≤ 4611686018427387903) (ho : 0 ≤ off) (hon : off ≤ 4611686018427387903) (w : World) :
    Calls Try.prog 25 #[.agg #[.int .i64 0, .slice none 0 0, .int .i64 f, .int .i64 win], .int .i64 off, .slice none 0 0, .bool true] w fun e w' => ∃ (x3 x4 E : Int), e = .returned (.tuple #[.agg #[.int .i64 0, .slice none 0 0, .int .i64 x3, .int .i64 x4], .int .i64 E]) ∧ (E == 12) = (off != f) ∧ Below w.heap.size w w' := by
  rcases Int.lt_trichotomy off f with h | h | h
  · exact (gPut_less f win off h0 (by omega) h2 ho hon h w).mono fun e w' ⟨he, hb⟩ => ⟨_, _, 12, he, by simp; omega, hb⟩
  · subst h
    exact (gPut_nil2 win off (by omega) h2 ho h1 w).mono fun e w' ⟨he, hb⟩ => ⟨_, _, 0, he, by simp, hb⟩
  · exact (gPut_more f win off h0 (by omega) h2 ho hon h w).mono fun e w' ⟨he, hb⟩ => ⟨_, _, 12, he, by simp; omega, hb⟩

set_option maxRecDepth 100000 in
set_option maxHeartbeats 1000000 in
theorem gatherEnd_walk (n_ m_ k_ : Int) (w : World) (hn : (Lit.int .i64 n_).wf = true) (hm : (Lit.int .i64 m_).wf = true) (hk : (Lit.int .i64 k_).wf = true) :
    Calls Try.prog 10 #[.int .i64 n_, .int .i64 m_, .int .i64 k_] w fun e w' => e = .returned (.bool true) ∧ Below w.heap.size w w' := by
  have rn := i64_bounds' hn
  have rm := i64_bounds' hm
  have rk := i64_bounds' hk
  clear hn hm hk
  obtain ⟨y, HY, y0, y1⟩ := mod_ex n_ 100 (by decide)
  obtain ⟨z, HZ, z0, z1⟩ := mod_ex k_ 100 (by decide)
  obtain ⟨x, HX, x0, x1⟩ := mod_ex m_ 50 (by decide)
  obtain ⟨p, HP, p0, p1⟩ := mod_ex m_ (y + 1) (by omega)
  obtain ⟨q, hq⟩ : ∃ q : Nat, y + 1 = (q : Int) := ⟨(y + 1).toNat, by omega⟩
  have HQ := Lib.hid hq
  have q0 : (q : Int) ≤ 100 := by omega
  have q1 : y < p + (q : Int) := by omega
  have q2 : p + (q : Int) ≤ 4611686018427387903 := by omega
  have hyw : IntKind.i64.wrap (y + 1) = y + 1 := by rw [IntKind.wrap_i64]; omega
  clear hq
  go_enter Try.func10, Try.ntmps10
  go_wp2_with fail
  refine (picked_at n_ 100 y rn.1 rn.2 (by decide) (by decide) HY _).mono ?_
  rintro e w' ⟨rfl, rfl⟩
  go_wp2_with fail
  refine (gBegin_ok 100 (by decide) (by decide) _).mono ?_
  rintro e w1 ⟨rfl, hb1⟩
  go_upto_region 3 with (fail)
  refine wp_world (fun w' => Blk w' w1.heap.size 47 #[.int .i64 0, .slice none 0 0, .int .i64 (-1), .int .i64 100] ∧ Below w.heap.size w w') ⟨Blk.new _ _ _, hb1.alloc hb1.size _⟩ ?_
  have hz1 := hb1.size
  clear hb1
  rintro w2 ⟨hG, hb⟩
  have FG := hG.facts4
  go_wp2_with fail
  refine (gPut_nil 100 y (by decide) (by decide) y0 (by omega) _).mono ?_
  rintro e w3 ⟨rfl, hb3⟩
  have hG3 := hG.carry hb3
  have hbz := hb.trans (hb3.mono hb.size)
  clear FG hG hb hb3
  have FG := hG3.facts4
  go_upto_region 4 with (fail)
  refine wp_world (fun w' => Blk w' w1.heap.size 47 #[.int .i64 0, .slice none 0 0, .int .i64 y, .int .i64 100] ∧ Below w.heap.size w w') ⟨by (apply Blk.as; (case h => (repeat (first | with_reducible exact hG3 | with_reducible apply Blk.drew | with_reducible apply Blk.set4 | with_reducible apply Blk.set_ | (with_reducible apply Blk.far4 (hne := ?side); case side => (first | omega | (simp; omega) | (simp; done))) | (with_reducible apply Blk.far (hp := ?side); case side => (first | omega | (simp; omega) | (simp; done))) | with_reducible apply Blk.alloc))); (case e => (first | with_reducible rfl | (simp; done) | rfl))), by (repeat (first | with_reducible exact hbz | with_reducible refine Below.drew ?_ | (with_reducible refine Below.set4 ?_ ?side _ _ _ _; case side => (first | omega | (simp; omega) | (simp; done))) | (with_reducible refine Below.setCell ?_ ?side _; case side => (first | omega | (simp; omega) | (simp; done))) | (with_reducible refine Below.alloc ?_ ?side _; case side => (first | omega | (simp; omega) | (simp; done)))))⟩ ?_
  clear FG hG3 hbz
  rintro w4 ⟨hG, hb⟩
  have FG := hG.facts4
  have hmk : ∀ W, (Instr.makeSlice 43 (.int .i64 (y + 1)) (.int .i64 (y + 1))).run Try.prog W = .ok (.slice (some ⟨W.heap.size, 0, none⟩) q q) (W.alloc (.cells (madeCells #[.int .u8 0] q) 5)) :=
    fun W => by rw [HQ.out]; exact run_make_row' 43 5 (.int .u8 0) 1 Try.underlying43 u8_infoG rfl .i64 .i64 q (by omega) (by omega) W
  go_cut [12] (fun s12 wx => s12 = .int .i64 12 ∧ Blk wx w1.heap.size 47 #[.int .i64 0, .slice none 0 0, .int .i64 y, .int .i64 100] ∧ Below w.heap.size w wx)
  case first =>
    have n0 := World.new_ne w4 _ FG.2.1
    have hgl := FG.1
    have n1 : ¬ w4.heap.size + 1 = w1.heap.size := by omega
    have n2 : w4.heap.size + 1 ≠ w1.heap.size := n1
    have n3 : ¬ w4.heap.size = w1.heap.size := by omega
    go_region_held3 (fun w' => w'.cell? ⟨w1.heap.size, 0, none⟩ = some (.int .i64 0) ∧ w'.cell? ⟨w1.heap.size, 1, none⟩ = some (.slice none 0 0) ∧ w'.cell? ⟨w1.heap.size, 2, none⟩ = some (.int .i64 y) ∧ w'.cell? ⟨w1.heap.size, 3, none⟩ = some (.int .i64 100)) (go_keep)
      (first
        | (go_at_call 12; refine (picked_at m_ (y + 1) p rm.1 rm.2 (by omega) (by omega) HP _).mono ?_; rintro e w' ⟨rfl, rfl⟩)
        | (go_at_call 25; refine (gPut_behind y 100 p _ q q y0 (by decide) (by decide) p0 q2 q1 _).mono ?_; rintro e wq ⟨rfl, hbq⟩; have hcq := cell_under hbq; have hfq := frozen_under hbq; have nq : ¬ wq.heap.size = w1.heap.size := (by have := hbq.size; first | omega | (simp at this; omega)); have k0 := hcq w1.heap.size 0 (by first | omega | (simp; omega)); have k1 := hcq w1.heap.size 1 (by first | omega | (simp; omega)); have k2 := hcq w1.heap.size 2 (by first | omega | (simp; omega)); have k3 := hcq w1.heap.size 3 (by first | omega | (simp; omega))))
    all_goals
      go_wp2_with fail
      go_meet
      have hs4 := hb.size
      have hsq : w.heap.size ≤ wq.heap.size := by have := hbq.size; first | omega | (simp at this; omega)
      refine ⟨rfl, ?_, ?_⟩
      · (apply Blk.as; (case h => (repeat (first | with_reducible exact hG | with_reducible apply Blk.drew | with_reducible apply Blk.set4 | with_reducible apply Blk.set_ | (with_reducible apply Blk.far4 (hne := ?side); case side => (first | omega | (simp; omega) | (simp; done))) | (with_reducible apply Blk.far (hp := ?side); case side => (first | omega | (simp; omega) | (simp; done))) | with_reducible apply Blk.alloc | (with_reducible apply Blk.below (hb := hbq) (hg := ?side); case side => (first | omega | (simp; omega) | (simp; done)))))); (case e => (first | with_reducible rfl | (simp; done) | rfl)))
      · (repeat (first | with_reducible exact hb | with_reducible refine Below.drew ?_ | (with_reducible refine Below.set4 ?_ ?side _ _ _ _; case side => (first | omega | (simp; omega) | (simp; done))) | (with_reducible refine Below.setCell ?_ ?side _; case side => (first | omega | (simp; omega) | (simp; done))) | (with_reducible refine Below.alloc ?_ ?side _; case side => (first | omega | (simp; omega) | (simp; done))) | (with_reducible refine Below.trans ?_ (Below.mono hbq ?side); case side => (first | omega | (simp; omega) | (simp; done)))))
  case rest =>
    obtain ⟨rfl, hG, hb⟩ := hcut
    have FG := hG.facts4
    clear hmk
    go_wp2_with fail
    refine (picked_at k_ 100 z rk.1 rk.2 (by decide) (by decide) HZ _).mono ?_
    rintro e w' ⟨rfl, rfl⟩
    go_wp2_with fail
    refine (gPut_again y 100 z y0 (by omega) (by decide) z0 (by omega) _).mono ?_
    rintro e w5 ⟨x3, x4, E, rfl, hE, hb5⟩
    have hbz : Below w.heap.size w w5 := hb.trans (hb5.mono hb.size)
    clear FG hG hb hb5
    go_wp2_with fail
    refine (gBegin_ok 50 (by decide) (by decide) _).mono ?_
    rintro e w6 ⟨rfl, hb6⟩
    have hb7 : ∀ o, Below w.heap.size w (w6.alloc o) := fun o => by
      have h1 := hbz.alloc hbz.size (.cells #[.int .i64 0, .slice none 0 0, .int .i64 x3, .int .i64 x4] 47)
      have h2 := h1.trans (hb6.mono h1.size)
      exact h2.alloc h2.size o
    go_upto_region 8 with (fail)
    refine wp_world (fun w' => Blk w' w6.heap.size 47 #[.int .i64 0, .slice none 0 0, .int .i64 (-1), .int .i64 50] ∧ Below w.heap.size w w') ⟨Blk.new _ _ _, hb7 _⟩ ?_
    clear hb7 hbz hb6
    rintro w7 ⟨hG, hb⟩
    have FG := hG.facts4
    have hmk : ∀ W, (Instr.makeSlice 43 (.int .i64 50) (.int .i64 50)).run Try.prog W = .ok (.slice (some ⟨W.heap.size, 0, none⟩) 50 50) (W.alloc (.cells (madeCells #[.int .u8 0] 50) 5)) :=
      fun W => run_make_row' 43 5 (.int .u8 0) 1 Try.underlying43 u8_infoG rfl .i64 .i64 50 (by omega) (by omega) W
    have hxw : IntKind.i64.wrap (1 + x) = 1 + x := by rw [IntKind.wrap_i64]; omega
    go_cut [19] (fun s19 wx => s19 = .int .i64 11 ∧ Blk wx w6.heap.size 47 #[.int .i64 0, .slice none 0 0, .int .i64 (-1), .int .i64 50] ∧ Below w.heap.size w wx)
    case first =>
      have n0 := World.new_ne w7 _ FG.2.1
      have hgl := FG.1
      have n1 : ¬ w7.heap.size + 1 = w6.heap.size := by omega
      have n2 : w7.heap.size + 1 ≠ w6.heap.size := n1
      have n3 : ¬ w7.heap.size = w6.heap.size := by omega
      go_region_held3 (fun w' => w'.cell? ⟨w6.heap.size, 0, none⟩ = some (.int .i64 0) ∧ w'.cell? ⟨w6.heap.size, 1, none⟩ = some (.slice none 0 0) ∧ w'.cell? ⟨w6.heap.size, 2, none⟩ = some (.int .i64 (-1)) ∧ w'.cell? ⟨w6.heap.size, 3, none⟩ = some (.int .i64 50)) (go_keep)
        (first
          | (go_at_call 12; refine (picked_at m_ 50 x rm.1 rm.2 (by omega) (by omega) HX _).mono ?_; rintro e w' ⟨rfl, rfl⟩)
          | (go_at_call 25; refine (gPut_flow 50 (1 + x) _ 50 50 (by decide) (by decide) (by omega) (by omega) (by omega) _).mono ?_; rintro e wq ⟨rfl, hbq⟩; have hcq := cell_under hbq; have hfq := frozen_under hbq; have nq : ¬ wq.heap.size = w6.heap.size := (by have := hbq.size; first | omega | (simp at this; omega)); have k0 := hcq w6.heap.size 0 (by first | omega | (simp; omega)); have k1 := hcq w6.heap.size 1 (by first | omega | (simp; omega)); have k2 := hcq w6.heap.size 2 (by first | omega | (simp; omega)); have k3 := hcq w6.heap.size 3 (by first | omega | (simp; omega))))
      all_goals
        go_wp2_with fail
        go_meet
        have hs4 := hb.size
        have hsq : w.heap.size ≤ wq.heap.size := by have := hbq.size; first | omega | (simp at this; omega)
        refine ⟨rfl, ?_, ?_⟩
        · (apply Blk.as; (case h => (repeat (first | with_reducible exact hG | with_reducible apply Blk.drew | with_reducible apply Blk.set4 | with_reducible apply Blk.set_ | (with_reducible apply Blk.far4 (hne := ?side); case side => (first | omega | (simp; omega) | (simp; done))) | (with_reducible apply Blk.far (hp := ?side); case side => (first | omega | (simp; omega) | (simp; done))) | with_reducible apply Blk.alloc | (with_reducible apply Blk.below (hb := hbq) (hg := ?side); case side => (first | omega | (simp; omega) | (simp; done)))))); (case e => (first | with_reducible rfl | (simp; done) | rfl)))
        · (repeat (first | with_reducible exact hb | with_reducible refine Below.drew ?_ | (with_reducible refine Below.set4 ?_ ?side _ _ _ _; case side => (first | omega | (simp; omega) | (simp; done))) | (with_reducible refine Below.setCell ?_ ?side _; case side => (first | omega | (simp; omega) | (simp; done))) | (with_reducible refine Below.alloc ?_ ?side _; case side => (first | omega | (simp; omega) | (simp; done))) | (with_reducible refine Below.trans ?_ (Below.mono hbq ?side); case side => (first | omega | (simp; omega) | (simp; done)))))
    case rest =>
      obtain ⟨rfl, hG, hb⟩ := hcut
      have FG := hG.facts4
      clear hmk hxw
      go_wp2_with fail
      refine (gPut_range (-1) 50 (-1) (by decide) (by decide) (by decide) (by decide) _).mono ?_
      rintro e w8 ⟨rfl, hb8⟩
      have hbz := hb.trans (hb8.mono hb.size)
      have hbz2 : ∀ o, Below w.heap.size w (w8.alloc o) := fun o => hbz.alloc hbz.size o
      clear FG hG hb hb8
      go_wp2_with fail
      refine (gatherTells_any _).mono ?_
      rintro e w9 ⟨rfl, hb9⟩
      have hbf : Below w.heap.size w w9 := (hbz2 _).trans (hb9.mono (hbz2 _).size)
      have hEE : ((E == 12) == (z != y)) = true := by rw [hE]; simp
      clear hE
      go_wp2_with fail
      go_ret
      exact ⟨by first | rfl | simp, hbf⟩
end Go.Proofs.Ytolhlgalhhdkmab
