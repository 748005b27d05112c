/- A connection that has just begun: its cells; the contracts of conn.Begin, Check. -/
import Derived.Test.YtbcagdjfegobnaaGreatSpace
import Derived.Test.YtbcagdjfegobnaaGreatPaceWalk
import Derived.Test.YtbcagdjfegobnaaGreatFlowWalk
import Derived.Test.YtbcagdjfegobnaaGreatBig
import Derived.Test.YtbcagdjfegobnaaGreatFacts
namespace Go.Proofs.YtbcagdjfegobnaaGreat
open Go.ChangeShapes Go.WideShapes Go.ChangeAt Go.RowKit
set_option linter.unusedVariables false

/-- Its cells: the ranges heard of and the numbers left out may lie in any empty slice. -/
def bg0 (cl : Bool) (A : Option Addr) (c : Nat) (B : Option Addr) (d : Nat) (last ids grant : Int) : Array Value :=
  #[.bool cl, .int .i64 0, .slice none 0 0, .int .i64 (-1), .slice A 0 c, .slice B 0 d, .int .i64 400, .int .i64 0, .int .i64 0, .int .i64 (-1), .int .i64 700, .int .i64 0, .int .i64 700, .int .i64 0,
    .int .i64 ids, .int .i64 grant, .int .i64 0, .slice none 0 0, .bool false, .slice none 0 0, .int .i64 last, .int .i64 0, .bool false, .int .i64 0]

theorem bg0_one (cl : Bool) (A : Option Addr) (c : Nat) (B : Option Addr) (d : Nat) (last ids grant : Int) : ∀ u ∈ (bg0 cl A c B d last ids grant).toList, u.oneCell' = true := by
  intro u hu
  simp only [bg0, List.mem_cons, List.not_mem_nil, or_false] at hu
  rcases hu with rfl | rfl | rfl | rfl | rfl | rfl | rfl | rfl | rfl | rfl | rfl | rfl | rfl | rfl | rfl | rfl | rfl | rfl | rfl | rfl | rfl | rfl | rfl | rfl <;> rfl
def bgc (cl : Bool) (A : Option Addr) (c : Nat) (B : Option Addr) (d : Nat) (last : Int) : Array Value := bg0 cl A c B d last (if cl then 4 else 0) (if cl then 0 else 4)

theorem spBegin_begun (w : World) : Calls Tryz.prog 107 #[] w fun e w' => e = .returned (.agg #[.int .i64 0, .slice none 0 0, .int .i64 (-1), .slice none 0 0, .slice none 0 0]) ∧ Below w.heap.size w w' := by
  go_enter Tryz.func107, Tryz.ntmps107
  go_wp2_with fail
  refine bodyPost_ret (v := .agg #[.int .i64 0, .slice none 0 0, .int .i64 (-1), .slice none 0 0, .slice none 0 0]) ?_ rfl ⟨rfl, ?_⟩
  · simp [results, Tryz.results107, go_sem] <;> rfl
  · exact (Below.refl _ _).alloc (Nat.le_refl _) _

set_option maxRecDepth 100000 in
set_option maxHeartbeats 4000000 in
theorem connBegin_ok (cl : Bool) (now : Int) (h0 : 0 ≤ now) (h1 : now ≤ 1099511627776) (w : World) :
    Calls Tryz.prog 69 #[.bool cl, .int .i64 now] w fun e w' => e = .returned (.tuple #[.agg (bgc cl none 0 none 0 now), .int .i64 0]) ∧ Below w.heap.size w w' := by
  go_enter Tryz.func69, Tryz.ntmps69
  go_upto_region 1 with (fail)
  refine wp_world (fun w' => (∃ cs, cs.size = 24 ∧ Blk w' w.heap.size 43 cs) ∧ Below w.heap.size w w') ⟨⟨_, rfl, Blk.new _ _ _⟩, (Below.refl _ _).alloc (Nat.le_refl _) _⟩ ?_
  rintro w1 ⟨⟨z, hz, hZ⟩, hb1⟩
  go_wp2_with fail
  refine (spBegin_begun _).mono ?_
  rintro e w2 ⟨rfl, hb2⟩
  have hZ := hZ.carry hb2
  have hb := hb1.trans (hb2.mono hb1.size)
  clear hb1 hb2
  go_wp2_with fail
  refine (paceBegin_any _).mono ?_
  rintro e w3 ⟨rfl, hb3⟩
  have hZ := hZ.carry hb3
  have hb := hb.trans (hb3.mono hb.size)
  have hs3 := hb.size
  have hz3 := hZ.lt
  clear hb3
  go_upto_region 4 with (first
    | (refine wpList_storeP rfl 43 (.tmp 6) (.tmp 20) rfl w3.heap.size 0 rfl (bg0 cl none 0 none 0 now 0 0) rfl 43 _ (Blk.new _ _ _) (by kernel_rfl) (by simp [bg0]) (bg0_one _ _ _ _ _ _ _ _) _ (splice_all _ _ (by simp [bg0])) ?_
       intro w4 hB4 hw4
       have hZ4 := (hZ.alloc _).wr hw4 (by omega)
       have hb4 := hw4.trans_below (hb.alloc (by omega) _) (by omega)
       have s4 : w3.heap.size < w4.heap.size := hB4.lt))
  clear hw4
  unfold bg0 at hB4
  have HZ4 := Lib.hid hZ4
  have HB4 := Lib.hid hb4
  clear hZ hb hZ4 hb4 hs3
  obtain ⟨g4, hg4⟩ : ∃ q, w3.heap.size = q := ⟨_, rfl⟩
  rw [hg4] at hB4 s4 ⊢
  have hne : w.heap.size ≠ g4 := by omega
  have hlt : w.heap.size < g4 := by omega
  clear hg4 hz3
  cases cl
  · have F4 := hB4.c24
    have z4 := hB4.zs
    go_upto_region 7 with (fail)
    refine wp_world (fun w' => Blk w' g4 43 (bg0 false none 0 none 0 now 0 4) ∧ Blk w' w.heap.size 43 z ∧ Below w.heap.size w w') ⟨(hB4.set_ 15 _).as (by rfl), HZ4.out.far hne _, by (repeat (first | with_reducible exact HB4.out | with_reducible refine Below.drew ?_ | (with_reducible refine Below.set4 ?_ ?side _ _ _ _; case side => (first | omega | (simp; omega) | (simp; done))) | (with_reducible refine Below.setCell ?_ ?side _; case side => (first | omega | (simp; omega) | (simp; done))) | (with_reducible refine Below.alloc ?_ ?side _; case side => (first | omega | (simp; omega) | (simp; done)))))⟩ ?_
    clear F4 z4 hB4 HZ4 HB4 s4
    rintro w5 ⟨hB5, hZ5, hb5⟩
    have h5 := hB5.lt
    go_wp2_with (first
      | refine wpList_loadR rfl 43 (.tmp 6) rfl g4 0 rfl (bg0 false none 0 none 0 now 0 4) _ Tryz.underlying43 rfl (by kernel_rfl) hB5.whole ?_
      | (refine wpList_storeP rfl 43 (.tmp 4) (.tmp 24) rfl w.heap.size 0 rfl (bg0 false none 0 none 0 now 0 4) rfl 43 _ hZ5 (by kernel_rfl) (by simp [bg0, hz]) (bg0_one _ _ _ _ _ _ _ _) _ (splice_all _ _ (by simp [bg0, hz])) ?_
         intro w6 hB6 hw6))
    exact bodyPost_ret (results_c2 _ _ w.heap.size _ (bg0 false none 0 none 0 now 0 4) _ Tryz.results69 rfl hB6 Tryz.underlying43 rfl (by kernel_rfl) rfl) rfl ⟨rfl, hw6.trans_below hb5 (Nat.le_refl _)⟩
  · have F4 := hB4.c24
    have z4 := hB4.zs
    go_upto_region 7 with (fail)
    refine wp_world (fun w' => Blk w' g4 43 (bg0 true none 0 none 0 now 4 0) ∧ Blk w' w.heap.size 43 z ∧ Below w.heap.size w w') ⟨(hB4.set_ 14 _).as (by rfl), HZ4.out.far hne _, by (repeat (first | with_reducible exact HB4.out | with_reducible refine Below.drew ?_ | (with_reducible refine Below.set4 ?_ ?side _ _ _ _; case side => (first | omega | (simp; omega) | (simp; done))) | (with_reducible refine Below.setCell ?_ ?side _; case side => (first | omega | (simp; omega) | (simp; done))) | (with_reducible refine Below.alloc ?_ ?side _; case side => (first | omega | (simp; omega) | (simp; done)))))⟩ ?_
    clear F4 z4 hB4 HZ4 HB4 s4
    rintro w5 ⟨hB5, hZ5, hb5⟩
    have h5 := hB5.lt
    go_wp2_with (first
      | refine wpList_loadR rfl 43 (.tmp 6) rfl g4 0 rfl (bg0 true none 0 none 0 now 4 0) _ Tryz.underlying43 rfl (by kernel_rfl) hB5.whole ?_
      | (refine wpList_storeP rfl 43 (.tmp 4) (.tmp 24) rfl w.heap.size 0 rfl (bg0 true none 0 none 0 now 4 0) rfl 43 _ hZ5 (by kernel_rfl) (by simp [bg0, hz]) (bg0_one _ _ _ _ _ _ _ _) _ (splice_all _ _ (by simp [bg0, hz])) ?_
         intro w6 hB6 hw6))
    exact bodyPost_ret (results_c2 _ _ w.heap.size _ (bg0 true none 0 none 0 now 4 0) _ Tryz.results69 rfl hB6 Tryz.underlying43 rfl (by kernel_rfl) rfl) rfl ⟨rfl, hw6.trans_below hb5 (Nat.le_refl _)⟩

theorem spCheck_begun (A : Option Addr) (c : Nat) (B : Option Addr) (d : Nat) (hc : c ≤ 9223372036854775807) (hd : d ≤ 9223372036854775807) (w : World) :
    Calls Tryz.prog 79 #[.agg #[.int .i64 0, .slice none 0 0, .int .i64 (-1), .slice A 0 c, .slice B 0 d]] w fun e w' => e = .returned (.int .i64 0) ∧ Below w.heap.size w w' :=
  spCheck_ok 0 none 0 0 (-1) A 0 c B 0 d [] [] [] rfl rfl rfl (Nat.le_refl _) (by decide) (Nat.zero_le _) hc (Nat.zero_le _) hd
    ⟨by decide, by decide, by decide, by decide, by decide, by decide, by decide, trivial, ⟨List.Pairwise.nil, fun p hp => absurd hp List.not_mem_nil⟩, ⟨List.Pairwise.nil, fun p hp => absurd hp List.not_mem_nil⟩, rfl⟩ w Rd.nil Rd.nil Rd.nil

set_option maxRecDepth 100000 in
set_option maxHeartbeats 4000000 in
theorem connCheck_bg0 (cl : Bool) (A : Option Addr) (c : Nat) (B : Option Addr) (d : Nat) (last ids grant : Int) (hig : ids = 4 ∧ grant = 0 ∨ ids = 0 ∧ grant = 4) (hc : c ≤ 9223372036854775807) (hd : d ≤ 9223372036854775807) (h0 : 0 ≤ last) (h1 : last ≤ 1099511627776) (w : World) :
    Calls Tryz.prog 49 #[.agg (bg0 cl A c B d last ids grant)] w fun e w' => e = .returned (.int .i64 0) ∧ Below w.heap.size w w' := by
  go_enter Tryz.func49, Tryz.ntmps49
  go_upto_region 1 with (fail)
  refine wp_world (fun w' => Blk w' w.heap.size 43 (bg0 cl A c B d last ids grant) ∧ Below w.heap.size w w') ⟨Blk.new _ _ _, (Below.refl _ _).alloc (Nat.le_refl _) _⟩ ?_
  rintro w1 ⟨hS, hb⟩
  have HF : ∀ W, Blk W w.heap.size 43 (bg0 cl A c B d last ids grant) → _ := fun W h => Blk.c24 (by unfold bg0 at h; exact h)
  have HF := Lib.hid HF
  have F := HF.out _ hS
  go_wp2_with fail
  refine (spCheck_begun A c B d hc hd _).mono ?_
  rintro e w2 ⟨rfl, hb2⟩
  have hS := hS.carry hb2
  have hb := hb.trans (hb2.mono hb.size)
  clear F hb2
  have F := HF.out _ hS
  go_wp2_with fail
  refine (paceCheck_ok 400 0 0 (-1) (by decide) (by decide) (by decide) (by decide) (by decide) (by decide) (by decide) (by decide) _).mono ?_
  rintro e w3 ⟨rfl, hb3⟩
  have hS := hS.carry hb3
  have hb := hb.trans (hb3.mono hb.size)
  clear F hb3
  have F := HF.out _ hS
  go_wp2_with fail
  refine (flowCheck_ok 700 0 (by decide) (by decide) (by decide) _).mono ?_
  rintro e w4 ⟨rfl, hb4⟩
  have hS := hS.carry hb4
  have hb := hb.trans (hb4.mono hb.size)
  clear F hb4
  have F := HF.out _ hS
  go_wp2_with fail
  refine (flowCheck_ok 700 0 (by decide) (by decide) (by decide) _).mono ?_
  rintro e w5 ⟨rfl, hb5⟩
  have hS := hS.carry hb5
  have hb := hb.trans (hb5.mono hb.size)
  clear F hb5
  have F := HF.out _ hS
  rcases hig with ⟨rfl, rfl⟩ | ⟨rfl, rfl⟩
  all_goals
    go_wp2_with fail
    refine wp_loop_rounds 1 ?_
    rw [rounds_succ]
    go_wp2_with fail
    refine wp_loop_rounds 1 ?_
    rw [rounds_succ]
    go_wp2_with fail
    refine wp_loop_rounds 1 ?_
    rw [rounds_succ]
    go_wp2_with fail
    go_ret
    exact ⟨rfl, hb⟩

end Go.Proofs.YtbcagdjfegobnaaGreat
