/- The contract of pace.Heard where the window grows. -/
import Derived.Test.YtolhlgalhhdkmaaPaceWalk
namespace Go.Proofs.Ytolhlgalhhdkmaa
open Go.ChangeShapes Go.WideShapes Go.ChangeAt Go.RowKit
set_option linter.unusedVariables false

set_option maxHeartbeats 1000000 in
theorem paceHeard_fast0 (W T F S n s : Int) (h0 : 200 ≤ W) (h1 : W ≤ 1099511627776) (h2 : 0 ≤ T) (h3 : T ≤ 1099511627776) (h4 : 0 ≤ F) (h5 : F ≤ 1099511627776) (h6 : -1 ≤ S) (h7 : S ≤ 1099511627776) (n0 : 0 ≤ n) (n1 : n ≤ 1099511627776) (s0 : 0 ≤ s) (s1 : s ≤ 1099511627776) (hn : n ≤ F) (hs : S < s) (hW : W + n ≤ 1099511627776) (hT : T = 0) (w : World) :
    Calls Try.prog 20 #[.agg #[.int .i64 W, .int .i64 T, .int .i64 F, .int .i64 S], .int .i64 n, .int .i64 s] w fun e w' => e = .returned (.tuple #[.agg #[.int .i64 (W + n), .int .i64 T, .int .i64 (F - n), .int .i64 S], .int .i64 0]) ∧ Below w.heap.size w w' := by
  have hz : (T == 0) = true := by simp [hT]
  clear hT
  go_enter Try.func20, Try.ntmps20
  go_wp2_with fail
  refine (paceFault_ok W T F S h0 h1 h2 h3 h4 h5 h6 h7 _ 2 [n, s] rfl (by decide) _ ?_ ?_).mono ?_
  · exact two_at n s _ _ (by simp [go_sem]) (by simp [go_sem])
  · exact all2 (p := fun x => 0 ≤ x ∧ x ≤ 1099511627776) ⟨n0, n1⟩ ⟨s0, s1⟩
  rintro e w1 ⟨rfl, hb1⟩
  have hB : Blk w1 w.heap.size 37 #[.int .i64 W, .int .i64 T, .int .i64 F, .int .i64 S] := Blk.carry (((Blk.new w _ _).alloc _).alloc _) hb1
  have hR : Blk w1 (w.heap.size + 1) 37 #[.int .i64 0, .int .i64 0, .int .i64 0, .int .i64 0] := Blk.carry ((Blk.new1 w _ _ _).alloc _) hb1
  have hb : Below w.heap.size w w1 := ((((Below.refl _ _).alloc (Nat.le_refl _) _).alloc (by simp) _).alloc (by simp; omega) _).trans (hb1.mono (by simp; omega))
  clear hb1
  have FB := hB.facts4
  have FR := hR.facts4
  go_upto_region 12 with (fail)
  refine wp_world (fun w' => Blk w' w.heap.size 37 #[.int .i64 (W + n), .int .i64 T, .int .i64 (F - n), .int .i64 S] ∧ Blk w' (w.heap.size + 1) 37 #[.int .i64 0, .int .i64 0, .int .i64 0, .int .i64 0] ∧ Below w.heap.size w w') ⟨?_, ?_, ?_⟩ ?_
  · exact (hB.set_ 2 _).set_ 0 _
  · exact (hR.far (by simp) _).far (by simp) _
  · exact (hb.setCell (by simp) _).setCell (by simp) _
  rintro w2 ⟨hB, hR, hb⟩
  have FB := hB.facts4
  have FR := hR.facts4
  go_upto_region 13 with (fail)
  refine wp_world (fun w' => Blk w' w.heap.size 37 #[.int .i64 (W + n), .int .i64 T, .int .i64 (F - n), .int .i64 S] ∧ Blk w' (w.heap.size + 1) 37 #[.int .i64 0, .int .i64 0, .int .i64 0, .int .i64 0] ∧ Below w.heap.size w w') ⟨?_, ?_, ?_⟩ ?_
  · exact hB.set_ 0 _
  · exact hR.far (by simp) _
  · exact hb.setCell (by simp) _
  clear hB hR hb FB FR
  rintro w3 ⟨hB, hR, hb⟩
  have FB := hB.facts4
  have FR := hR.facts4
  go_wp2_with fail
  refine bodyPost_ret (v := .tuple #[.agg #[.int .i64 (W + n), .int .i64 T, .int .i64 (F - n), .int .i64 S], .int .i64 0]) ?_ rfl ⟨rfl, ?_⟩
  · simp [results, Try.results20, go_sem, FR]
  · repeat (first | exact hb | refine Below.setCell ?_ (by simp) _)

theorem paceHeard_fast (W T F S n s : Int) (h0 : 200 ≤ W) (h1 : W ≤ 1099511627776) (h2 : 0 ≤ T) (h3 : T ≤ 1099511627776) (h4 : 0 ≤ F) (h5 : F ≤ 1099511627776) (h6 : -1 ≤ S) (h7 : S ≤ 1099511627776) (n0 : 0 ≤ n) (n1 : n ≤ 1099511627776) (s0 : 0 ≤ s) (s1 : s ≤ 1099511627776) (hn : n ≤ F) (hs : S < s) (hW : W + n ≤ 1099511627776) (hT : W < T) (w : World) :
    Calls Try.prog 20 #[.agg #[.int .i64 W, .int .i64 T, .int .i64 F, .int .i64 S], .int .i64 n, .int .i64 s] w fun e w' => e = .returned (.tuple #[.agg #[.int .i64 (W + n), .int .i64 T, .int .i64 (F - n), .int .i64 S], .int .i64 0]) ∧ Below w.heap.size w w' := by
  have hz : (T == 0) = false := by simp; omega
  go_enter Try.func20, Try.ntmps20
  go_wp2_with fail
  refine (paceFault_ok W T F S h0 h1 h2 h3 h4 h5 h6 h7 _ 2 [n, s] rfl (by decide) _ ?_ ?_).mono ?_
  · exact two_at n s _ _ (by simp [go_sem]) (by simp [go_sem])
  · exact all2 (p := fun x => 0 ≤ x ∧ x ≤ 1099511627776) ⟨n0, n1⟩ ⟨s0, s1⟩
  rintro e w1 ⟨rfl, hb1⟩
  have hB : Blk w1 w.heap.size 37 #[.int .i64 W, .int .i64 T, .int .i64 F, .int .i64 S] := Blk.carry (((Blk.new w _ _).alloc _).alloc _) hb1
  have hR : Blk w1 (w.heap.size + 1) 37 #[.int .i64 0, .int .i64 0, .int .i64 0, .int .i64 0] := Blk.carry ((Blk.new1 w _ _ _).alloc _) hb1
  have hb : Below w.heap.size w w1 := ((((Below.refl _ _).alloc (Nat.le_refl _) _).alloc (by simp) _).alloc (by simp; omega) _).trans (hb1.mono (by simp; omega))
  clear hb1
  have FB := hB.facts4
  have FR := hR.facts4
  go_upto_region 12 with (fail)
  refine wp_world (fun w' => Blk w' w.heap.size 37 #[.int .i64 (W + n), .int .i64 T, .int .i64 (F - n), .int .i64 S] ∧ Blk w' (w.heap.size + 1) 37 #[.int .i64 0, .int .i64 0, .int .i64 0, .int .i64 0] ∧ Below w.heap.size w w') ⟨?_, ?_, ?_⟩ ?_
  · exact (hB.set_ 2 _).set_ 0 _
  · exact (hR.far (by simp) _).far (by simp) _
  · exact (hb.setCell (by simp) _).setCell (by simp) _
  rintro w2 ⟨hB, hR, hb⟩
  have FB := hB.facts4
  have FR := hR.facts4
  go_upto_region 13 with (fail)
  refine wp_world (fun w' => Blk w' w.heap.size 37 #[.int .i64 (W + n), .int .i64 T, .int .i64 (F - n), .int .i64 S] ∧ Blk w' (w.heap.size + 1) 37 #[.int .i64 0, .int .i64 0, .int .i64 0, .int .i64 0] ∧ Below w.heap.size w w') ⟨?_, ?_, ?_⟩ ?_
  · exact hB.set_ 0 _
  · exact hR.far (by simp) _
  · exact hb.setCell (by simp) _
  clear hB hR hb FB FR
  rintro w3 ⟨hB, hR, hb⟩
  have FB := hB.facts4
  have FR := hR.facts4
  go_wp2_with fail
  refine bodyPost_ret (v := .tuple #[.agg #[.int .i64 (W + n), .int .i64 T, .int .i64 (F - n), .int .i64 S], .int .i64 0]) ?_ rfl ⟨rfl, ?_⟩
  · simp [results, Try.results20, go_sem, FR]
  · repeat (first | exact hb | refine Below.setCell ?_ (by simp) _)

set_option maxHeartbeats 1000000 in
theorem paceHeard_slow (W T F S n s : Int) (h0 : 200 ≤ W) (h1 : W ≤ 1099511627776) (h2 : 0 ≤ T) (h3 : T ≤ 1099511627776) (h4 : 0 ≤ F) (h5 : F ≤ 1099511627776) (h6 : -1 ≤ S) (h7 : S ≤ 1099511627776) (n0 : 0 ≤ n) (n1 : n ≤ 1099511627776) (s0 : 0 ≤ s) (s1 : s ≤ 1099511627776) (hn : n ≤ F) (hs : S < s) (n2 : n ≤ 100000) (hT : T ≤ W) (hT0 : 0 < T) (D : Int) (hD : 100 * n / W = D) (hW : W + D ≤ 1099511627776) (D0 : 0 ≤ D) (w : World) :
    Calls Try.prog 20 #[.agg #[.int .i64 W, .int .i64 T, .int .i64 F, .int .i64 S], .int .i64 n, .int .i64 s] w fun e w' => e = .returned (.tuple #[.agg #[.int .i64 (W + D), .int .i64 T, .int .i64 (F - n), .int .i64 S], .int .i64 0]) ∧ Below w.heap.size w w' := by
  have hz : (T == 0) = false := by simp; omega
  have HD := Lib.hid hD
  clear hD
  go_enter Try.func20, Try.ntmps20
  go_wp2_with fail
  refine (paceFault_ok W T F S h0 h1 h2 h3 h4 h5 h6 h7 _ 2 [n, s] rfl (by decide) _ ?_ ?_).mono ?_
  · exact two_at n s _ _ (by simp [go_sem]) (by simp [go_sem])
  · exact all2 (p := fun x => 0 ≤ x ∧ x ≤ 1099511627776) ⟨n0, n1⟩ ⟨s0, s1⟩
  rintro e w1 ⟨rfl, hb1⟩
  have hB : Blk w1 w.heap.size 37 #[.int .i64 W, .int .i64 T, .int .i64 F, .int .i64 S] := Blk.carry (((Blk.new w _ _).alloc _).alloc _) hb1
  have hR : Blk w1 (w.heap.size + 1) 37 #[.int .i64 0, .int .i64 0, .int .i64 0, .int .i64 0] := Blk.carry ((Blk.new1 w _ _ _).alloc _) hb1
  have hb : Below w.heap.size w w1 := ((((Below.refl _ _).alloc (Nat.le_refl _) _).alloc (by simp) _).alloc (by simp; omega) _).trans (hb1.mono (by simp; omega))
  clear hb1
  have FB := hB.facts4
  have FR := hR.facts4
  go_upto_region 11 with (fail)
  have hW0 : (W == 0) = false := by simp; omega
  have HW := Lib.hid hW0
  go_region
  go_upto_region 12 with (fail)
  have hv : wrap64 (W + 100 * n / W) = W + D := by rw [HD.out]; exact IntWalk.wrap64_in _ ⟨by omega, by omega⟩
  refine wp_world (fun w' => Blk w' w.heap.size 37 #[.int .i64 (W + D), .int .i64 T, .int .i64 (F - n), .int .i64 S] ∧ Blk w' (w.heap.size + 1) 37 #[.int .i64 0, .int .i64 0, .int .i64 0, .int .i64 0] ∧ Below w.heap.size w w') ⟨?_, ?_, ?_⟩ ?_
  · exact Blk.as ((hB.set_ 2 _).set_ 0 _).drew (by rw [hv]; rfl)
  · exact ((hR.far (by simp) _).far (by simp) _).drew
  · exact ((hb.setCell (by simp) _).setCell (by simp) _).drew
  clear hB hR hb FB FR hv
  rintro w2 ⟨hB, hR, hb⟩
  have FB := hB.facts4
  have FR := hR.facts4
  go_upto_region 13 with (fail)
  refine wp_world (fun w' => Blk w' w.heap.size 37 #[.int .i64 (W + D), .int .i64 T, .int .i64 (F - n), .int .i64 S] ∧ Blk w' (w.heap.size + 1) 37 #[.int .i64 0, .int .i64 0, .int .i64 0, .int .i64 0] ∧ Below w.heap.size w w') ⟨?_, ?_, ?_⟩ ?_
  · exact hB.set_ 0 _
  · exact hR.far (by simp) _
  · exact hb.setCell (by simp) _
  clear hB hR hb FB FR
  rintro w3 ⟨hB, hR, hb⟩
  have FB := hB.facts4
  have FR := hR.facts4
  go_wp2_with fail
  refine bodyPost_ret (v := .tuple #[.agg #[.int .i64 (W + D), .int .i64 T, .int .i64 (F - n), .int .i64 S], .int .i64 0]) ?_ rfl ⟨rfl, ?_⟩
  · simp [results, Try.results20, go_sem, FR]
  · repeat (first | exact hb | refine Below.setCell ?_ (by simp) _)

set_option maxHeartbeats 1000000 in
theorem paceLost_bad (W T F S n s m : Int) (h0 : 200 ≤ W) (h1 : W ≤ 1099511627776) (h2 : 0 ≤ T) (h3 : T ≤ 1099511627776) (h4 : 0 ≤ F) (h5 : F ≤ 1099511627776) (h6 : -1 ≤ S) (h7 : S ≤ 1099511627776) (n0 : 0 ≤ n) (n1 : n ≤ 1099511627776) (s0 : 0 ≤ s) (s1 : s ≤ 1099511627776) (m0 : 0 ≤ m) (m1 : m ≤ 1099511627776) (hn : F < n) (w : World) :
    Calls Try.prog 23 #[.agg #[.int .i64 W, .int .i64 T, .int .i64 F, .int .i64 S], .int .i64 n, .int .i64 s, .int .i64 m] w fun e w' => e = .returned (.tuple #[.agg #[.int .i64 0, .int .i64 0, .int .i64 0, .int .i64 0], .int .i64 13]) ∧ Below w.heap.size w w' := by
  go_enter Try.func23, Try.ntmps23
  go_wp2_with fail
  refine (paceFault_ok W T F S h0 h1 h2 h3 h4 h5 h6 h7 _ 3 [n, s, m] rfl (by decide) _ ?_ ?_).mono ?_
  · exact three_at n s m _ _ (by simp [go_sem]) (by simp [go_sem]) (by simp [go_sem])
  · exact all3 (p := fun x => 0 ≤ x ∧ x ≤ 1099511627776) ⟨n0, n1⟩ ⟨s0, s1⟩ ⟨m0, m1⟩
  rintro e w1 ⟨rfl, hb1⟩
  have hB : Blk w1 w.heap.size 37 #[.int .i64 W, .int .i64 T, .int .i64 F, .int .i64 S] := Blk.carry (((Blk.new w _ _).alloc _).alloc _) hb1
  have hR : Blk w1 (w.heap.size + 1) 37 #[.int .i64 0, .int .i64 0, .int .i64 0, .int .i64 0] := Blk.carry ((Blk.new1 w _ _ _).alloc _) hb1
  have hb : Below w.heap.size w w1 := ((((Below.refl _ _).alloc (Nat.le_refl _) _).alloc (by simp) _).alloc (by simp; omega) _).trans (hb1.mono (by simp; omega))
  clear hb1
  have FB := hB.facts4
  have FR := hR.facts4
  go_wp2_with fail
  refine bodyPost_ret (v := .tuple #[.agg #[.int .i64 0, .int .i64 0, .int .i64 0, .int .i64 0], .int .i64 13]) ?_ rfl ⟨rfl, ?_⟩
  · simp [results, Try.results23, go_sem, FR]
  · repeat (first | exact hb | refine Below.setCell ?_ (by simp) _)

set_option maxHeartbeats 1000000 in
theorem paceLost_old (W T F S n s m : Int) (h0 : 200 ≤ W) (h1 : W ≤ 1099511627776) (h2 : 0 ≤ T) (h3 : T ≤ 1099511627776) (h4 : 0 ≤ F) (h5 : F ≤ 1099511627776) (h6 : -1 ≤ S) (h7 : S ≤ 1099511627776) (n0 : 0 ≤ n) (n1 : n ≤ 1099511627776) (s0 : 0 ≤ s) (s1 : s ≤ 1099511627776) (m0 : 0 ≤ m) (m1 : m ≤ 1099511627776) (hn : n ≤ F) (hs : s ≤ S) (w : World) :
    Calls Try.prog 23 #[.agg #[.int .i64 W, .int .i64 T, .int .i64 F, .int .i64 S], .int .i64 n, .int .i64 s, .int .i64 m] w fun e w' => e = .returned (.tuple #[.agg #[.int .i64 W, .int .i64 T, .int .i64 (F - n), .int .i64 S], .int .i64 0]) ∧ Below w.heap.size w w' := by
  go_enter Try.func23, Try.ntmps23
  go_wp2_with fail
  refine (paceFault_ok W T F S h0 h1 h2 h3 h4 h5 h6 h7 _ 3 [n, s, m] rfl (by decide) _ ?_ ?_).mono ?_
  · exact three_at n s m _ _ (by simp [go_sem]) (by simp [go_sem]) (by simp [go_sem])
  · exact all3 (p := fun x => 0 ≤ x ∧ x ≤ 1099511627776) ⟨n0, n1⟩ ⟨s0, s1⟩ ⟨m0, m1⟩
  rintro e w1 ⟨rfl, hb1⟩
  have hB : Blk w1 w.heap.size 37 #[.int .i64 W, .int .i64 T, .int .i64 F, .int .i64 S] := Blk.carry (((Blk.new w _ _).alloc _).alloc _) hb1
  have hR : Blk w1 (w.heap.size + 1) 37 #[.int .i64 0, .int .i64 0, .int .i64 0, .int .i64 0] := Blk.carry ((Blk.new1 w _ _ _).alloc _) hb1
  have hb : Below w.heap.size w w1 := ((((Below.refl _ _).alloc (Nat.le_refl _) _).alloc (by simp) _).alloc (by simp; omega) _).trans (hb1.mono (by simp; omega))
  clear hb1
  have FB := hB.facts4
  have FR := hR.facts4
  go_wp2_with fail
  refine bodyPost_ret (v := .tuple #[.agg #[.int .i64 W, .int .i64 T, .int .i64 (F - n), .int .i64 S], .int .i64 0]) ?_ rfl ⟨rfl, ?_⟩
  · simp [results, Try.results23, go_sem, FR]
  · repeat (first | exact hb | refine Below.setCell ?_ (by simp) _)

set_option maxHeartbeats 1000000 in
theorem paceLost_new (W T F S n s m : Int) (h0 : 200 ≤ W) (h1 : W ≤ 1099511627776) (h2 : 0 ≤ T) (h3 : T ≤ 1099511627776) (h4 : 0 ≤ F) (h5 : F ≤ 1099511627776) (h6 : -1 ≤ S) (h7 : S ≤ 1099511627776) (n0 : 0 ≤ n) (n1 : n ≤ 1099511627776) (s0 : 0 ≤ s) (s1 : s ≤ 1099511627776) (m0 : 0 ≤ m) (m1 : m ≤ 1099511627776) (hn : n ≤ F) (hs : S < s) (S2 : Int) (hS : max m s = S2) (W2 : Int) (hW : max (W / 2) 200 = W2) (w : World) :
    Calls Try.prog 23 #[.agg #[.int .i64 W, .int .i64 T, .int .i64 F, .int .i64 S], .int .i64 n, .int .i64 s, .int .i64 m] w fun e w' => e = .returned (.tuple #[.agg #[.int .i64 W2, .int .i64 W2, .int .i64 (F - n), .int .i64 S2], .int .i64 0]) ∧ Below w.heap.size w w' := by
  go_enter Try.func23, Try.ntmps23
  go_wp2_with fail
  refine (paceFault_ok W T F S h0 h1 h2 h3 h4 h5 h6 h7 _ 3 [n, s, m] rfl (by decide) _ ?_ ?_).mono ?_
  · exact three_at n s m _ _ (by simp [go_sem]) (by simp [go_sem]) (by simp [go_sem])
  · exact all3 (p := fun x => 0 ≤ x ∧ x ≤ 1099511627776) ⟨n0, n1⟩ ⟨s0, s1⟩ ⟨m0, m1⟩
  rintro e w1 ⟨rfl, hb1⟩
  have hB : Blk w1 w.heap.size 37 #[.int .i64 W, .int .i64 T, .int .i64 F, .int .i64 S] := Blk.carry (((Blk.new w _ _).alloc _).alloc _) hb1
  have hR : Blk w1 (w.heap.size + 1) 37 #[.int .i64 0, .int .i64 0, .int .i64 0, .int .i64 0] := Blk.carry ((Blk.new1 w _ _ _).alloc _) hb1
  have hb : Below w.heap.size w w1 := ((((Below.refl _ _).alloc (Nat.le_refl _) _).alloc (by simp) _).alloc (by simp; omega) _).trans (hb1.mono (by simp; omega))
  clear hb1
  have FB := hB.facts4
  have FR := hR.facts4
  go_upto_region 10 with (fail)
  refine wp_world (fun w' => Blk w' w.heap.size 37 #[.int .i64 W, .int .i64 T, .int .i64 (F - n), .int .i64 S2] ∧ Blk w' (w.heap.size + 1) 37 #[.int .i64 0, .int .i64 0, .int .i64 0, .int .i64 0] ∧ Below w.heap.size w w') ⟨?_, ?_, ?_⟩ ?_
  · exact Blk.as ((hB.set_ 2 _).set_ 3 _) (by simp; split <;> omega)
  · exact (hR.far (by simp) _).far (by simp) _
  · exact (hb.setCell (by simp) _).setCell (by simp) _
  clear hB hR hb FB FR
  rintro w10 ⟨hB, hR, hb⟩
  have FB := hB.facts4
  have FR := hR.facts4
  go_upto_region 11 with (fail)
  refine wp_world (fun w' => Blk w' w.heap.size 37 #[.int .i64 W2, .int .i64 T, .int .i64 (F - n), .int .i64 S2] ∧ Blk w' (w.heap.size + 1) 37 #[.int .i64 0, .int .i64 0, .int .i64 0, .int .i64 0] ∧ Below w.heap.size w w') ⟨?_, ?_, ?_⟩ ?_
  · exact Blk.as (hB.set_ 0 _) (by simp; split <;> omega)
  · exact hR.far (by simp) _
  · exact hb.setCell (by simp) _
  clear hB hR hb FB FR
  rintro w11 ⟨hB, hR, hb⟩
  have FB := hB.facts4
  have FR := hR.facts4
  go_upto_region 12 with (fail)
  refine wp_world (fun w' => Blk w' w.heap.size 37 #[.int .i64 W2, .int .i64 W2, .int .i64 (F - n), .int .i64 S2] ∧ Blk w' (w.heap.size + 1) 37 #[.int .i64 0, .int .i64 0, .int .i64 0, .int .i64 0] ∧ Below w.heap.size w w') ⟨?_, ?_, ?_⟩ ?_
  · exact hB.set_ 1 _
  · exact hR.far (by simp) _
  · exact hb.setCell (by simp) _
  clear hB hR hb FB FR
  rintro w12 ⟨hB, hR, hb⟩
  have FB := hB.facts4
  have FR := hR.facts4
  go_wp2_with fail
  all_goals
    refine bodyPost_ret (v := .tuple #[.agg #[.int .i64 W2, .int .i64 W2, .int .i64 (F - n), .int .i64 S2], .int .i64 0]) ?_ rfl ⟨rfl, ?_⟩
    · simp [results, Try.results23, go_sem, FR]
    · repeat (first | exact hb | refine Below.setCell ?_ (by simp) _)
end Go.Proofs.Ytolhlgalhhdkmaa
