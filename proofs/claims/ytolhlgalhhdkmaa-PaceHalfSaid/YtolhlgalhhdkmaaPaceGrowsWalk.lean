/- The walk of the law PaceGrows. -/
import Derived.Test.YtolhlgalhhdkmaaPaceHeardWalk
import Derived.Test.YtolhlgalhhdkmaaInts
namespace Go.Proofs.Ytolhlgalhhdkmaa
open Go.ChangeShapes Go.WideShapes Go.ChangeAt Go.RowKit
set_option linter.unusedVariables false

theorem paceHeard_grow (W T F S n s : Int) (h0 : 200 ≤ W) (h1 : W ≤ 100000) (h2 : 0 ≤ T) (h3 : T ≤ 1099511627776) (h4 : 0 ≤ F) (h5 : F ≤ 1099511627776) (h6 : -1 ≤ S) (h7 : S ≤ 1099511627776) (n0 : 0 ≤ n) (n1 : n ≤ 100000) (s0 : 0 ≤ s) (s1 : s ≤ 1099511627776) (hn : n ≤ F) (hs : S < s) (w : World) :
    Calls Try.prog 20 #[.agg #[.int .i64 W, .int .i64 T, .int .i64 F, .int .i64 S], .int .i64 n, .int .i64 s] w fun e w' => ∃ V, W ≤ V ∧ V ≤ W + n ∧ e = .returned (.tuple #[.agg #[.int .i64 V, .int .i64 T, .int .i64 (F - n), .int .i64 S], .int .i64 0]) ∧ Below w.heap.size w w' := by
  by_cases hT : T = 0
  · exact (paceHeard_fast0 W T F S n s h0 (by omega) h2 h3 h4 h5 h6 h7 n0 (by omega) s0 s1 hn hs (by omega) hT w).mono fun e w' ⟨he, hb⟩ => ⟨W + n, by omega, by omega, he, hb⟩
  · by_cases hW : W < T
    · exact (paceHeard_fast W T F S n s h0 (by omega) h2 h3 h4 h5 h6 h7 n0 (by omega) s0 s1 hn hs (by omega) hW w).mono fun e w' ⟨he, hb⟩ => ⟨W + n, by omega, by omega, he, hb⟩
    · have d0 : 0 ≤ 100 * n / W := Int.ediv_nonneg (by omega) (by omega)
      have d1 : 100 * n / W ≤ n := by
        exact Int.ediv_le_of_le_mul (by omega) (by rw [Int.mul_comm]; exact Int.mul_le_mul_of_nonneg_left (by omega) n0)
      exact (paceHeard_slow W T F S n s h0 (by omega) h2 h3 h4 h5 h6 h7 n0 (by omega) s0 s1 hn hs (by omega) (by omega) (by omega) _ rfl (by omega) d0 w).mono fun e w' ⟨he, hb⟩ => ⟨_, by omega, by omega, he, hb⟩

set_option maxRecDepth 100000 in
set_option maxHeartbeats 1000000 in
theorem paceGrows_walk (A : Option Addr) (len cap : Nat) (zs : List Int) (t : Int) (w : World) (h : IsRow .i64 w A len cap zs) (ht : (Lit.int .i64 t).wf = true) :
    Calls Try.prog 4 #[.slice A len cap, .int .i64 t] w fun e w' => e = .returned (.bool true) ∧ Below w.heap.size w w' := by
  obtain ⟨t0, t1⟩ := i64_bounds' ht
  obtain ⟨ns, hns, hR, hbd, hlc, hcm⟩ := h.ints
  have HR := Lib.hid hR
  have HBD := Lib.hid hbd
  have HNS := Lib.hid hns
  clear h hns hR hbd
  obtain ⟨K, hK⟩ : ∃ K : Nat, K = min len 20 := ⟨_, rfl⟩
  have hKl : K ≤ len := by omega
  have hK20 : K ≤ 20 := by omega
  have hmin : (if (20 : Int) < (len : Int) then (20 : Int) else (len : Int)) = (K : Int) := by split <;> omega
  clear hK
  go_enter Try.func4, Try.ntmps4
  go_wp2_with fail
  refine (paceBegin_any _).mono ?_
  rintro e w1 ⟨rfl, hb1⟩
  go_wp2_with fail
  refine (picked_ex _ _ t0 t1 (by decide) (by decide) _).mono ?_
  rintro e w' ⟨T, T0, T1, rfl, rfl⟩
  go_upto_region 3 with (fail)
  refine wp_world (fun w' => Blk w' w1.heap.size 37 #[.int .i64 400, .int .i64 T, .int .i64 0, .int .i64 (-1)] ∧ Below w.heap.size w w') ⟨?_, ?_⟩ ?_
  · exact Blk.new _ _ _
  · exact hb1.alloc hb1.size _
  have hs1 := hb1.size
  clear hb1
  rintro w2 ⟨hB, hb⟩
  go_wp2_with fail
  have HT := Lib.hid ht
  go_loopw [27] (fun i wr => ∃ (k : Nat) (W : Int), k ≤ K ∧ i = .int .i64 k ∧ 400 ≤ W ∧ W ≤ 400 + 200 * k ∧ Blk wr w1.heap.size 37 #[.int .i64 W, .int .i64 T, .int .i64 0, .int .i64 (-1)] ∧ Below w.heap.size w wr) (fun i _ => K - (intOf i).toNat)
  case atStart => exact ⟨0, 400, Nat.zero_le _, rfl, by decide, by decide, hB, hb⟩
  case round =>
    obtain ⟨k, W, hk, rfl, hW0, hW1, hB, hb⟩ := hrel
    by_cases hlt : k < K
    · have hR := HR.out
      have hlen := HNS.out
      obtain ⟨b, off, rfl, hcell⟩ := hR.cell (by omega)
      have c := hcell k (by omega)
      have c1 : wr.cell? ⟨b, off + k, none⟩ = some (.int .i64 (ns.getD k 0)) := (hb.cell (p := ⟨b, off + k, none⟩) (World.block_lt_of_cell? w _ c)).trans c
      obtain ⟨x0, x1⟩ := HBD.out k (by omega)
      generalize ns.getD k 0 = x at *
      clear c hcell hR hlen
      have FB := hB.facts4
      go_wp2_with fail
      refine (picked_ex _ _ x0 x1 (by decide) (by decide) _).mono ?_
      rintro e w' ⟨n, n0, n1, rfl, rfl⟩
      go_wp2_with fail
      refine (paceSend_yes W T 0 (-1) n (by omega) (by omega) T0 (by omega) (by decide) (by decide) (by decide) (by decide) n0 (by omega) (by omega) _).mono ?_
      rintro e w3 ⟨rfl, hb3⟩
      go_upto_region 8 with (fail)
      refine wp_world (fun w' => Blk w' w1.heap.size 37 #[.int .i64 W, .int .i64 T, .int .i64 0, .int .i64 (-1)] ∧ Blk w' w3.heap.size 37 #[.int .i64 W, .int .i64 T, .int .i64 n, .int .i64 (-1)] ∧ Below w.heap.size w w') ⟨?_, ?_, ?_⟩ ?_
      · exact (hB.carry hb3).alloc _
      · exact Blk.new _ _ _
      · exact (hb.trans (hb3.mono hb.size)).alloc (hb.trans (hb3.mono hb.size)).size _
      have hl3 := (hB.carry hb3).lt
      clear hB hb hb3 FB
      rintro w4 ⟨hB, hP, hb⟩
      have FB := hB.facts4
      have FP := hP.facts4
      go_upto_region 10 with (fail)
      go_wp2_with fail
      refine (paceHeard_grow W T n (-1) n k (by omega) (by omega) T0 (by omega) (by omega) (by omega) (by decide) (by decide) n0 (by omega) (by omega) (by omega) (by omega) (by omega) _).mono ?_
      rintro e w5 ⟨V, V0, V1, rfl, hb5⟩
      go_upto_region 11 with (fail)
      refine wp_world (fun w' => Blk w' w1.heap.size 37 #[.int .i64 W, .int .i64 T, .int .i64 0, .int .i64 (-1)] ∧ Blk w' w5.heap.size 37 #[.int .i64 V, .int .i64 T, .int .i64 0, .int .i64 (-1)] ∧ Below w.heap.size w w') ⟨?_, ?_, ?_⟩ ?_
      · exact (hB.carry hb5).alloc _
      · exact Blk.new _ _ _
      · exact (hb.trans (hb5.mono hb.size)).alloc (hb.trans (hb5.mono hb.size)).size _
      have hl5 := (hB.carry hb5).lt
      clear hB hP hb hb5 FB FP
      rintro w6 ⟨hB, hP, hb⟩
      have FB := hB.facts4
      have FP := hP.facts4
      have hne : w1.heap.size ≠ w5.heap.size := by omega
      go_wp2_with fail
      go_roundw
      case rel => exact ⟨k + 1, V, by omega, by go_num, by omega, by omega, Blk.as (hB.set4 _ _ _ _) (by simp), Below.set4 hb hs1 _ _ _ _⟩
      case measure => simp [intOf]; omega
    · obtain rfl : k = K := by omega
      have FB := hB.facts4
      go_wp2_with fail
      refine (paceSend_no W T 0 (-1) (W + 1) (by omega) (by omega) T0 (by omega) (by decide) (by decide) (by decide) (by decide) (by omega) (by omega) (by omega) _).mono ?_
      rintro e w3 ⟨rfl, hb3⟩
      have hB3 := hB.carry hb3
      have FB3 := hB3.facts4
      have hb4 := hb.trans (hb3.mono hb.size)
      clear hB hb hb3 FB
      go_wp2_with fail
      go_ret
      exact ⟨rfl, hb4.alloc hb4.size _⟩
end Go.Proofs.Ytolhlgalhhdkmaa
