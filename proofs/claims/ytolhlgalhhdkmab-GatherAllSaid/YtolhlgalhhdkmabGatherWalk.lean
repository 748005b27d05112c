/- The contracts of gather.Begin, Check, end, merged, Put, where nothing is held. -/
import Derived.Test.YtolhlgalhhdkmabPickAt
import Derived.Test.YtolhlgalhhdkmabOwn
import Derived.BigRegion
import Derived.BigQuiet
import Derived.Deep.QuietTactic
import Derived.Deep.DeepCutAuto
namespace Go.Proofs.Ytolhlgalhhdkmab
open Go.ChangeShapes Go.WideShapes Go.ChangeAt Go.RowKit
set_option linter.unusedVariables false

theorem gBegin_ok (n : Int) (h0 : 0 ≤ n) (h1 : n ≤ 4611686018427387903) (w : World) : Calls Try.prog 23 #[.int .i64 n] w fun e w' => e = .returned (.tuple #[.agg #[.int .i64 0, .slice none 0 0, .int .i64 (-1), .int .i64 n], .int .i64 0]) ∧ Below w.heap.size w w' := by
  have hb0 : ∀ o, Below w.heap.size w (w.alloc o) := fun o => (Below.refl _ _).alloc (Nat.le_refl _) _
  go_enter Try.func23, Try.ntmps23
  go_wp2_with fail
  refine bodyPost_ret (v := .tuple #[.agg #[.int .i64 0, .slice none 0 0, .int .i64 (-1), .int .i64 n], .int .i64 0]) ?_ rfl ⟨rfl, ?_⟩
  · simp [results, Try.results23, go_sem] <;> rfl
  · exact hb0 _

theorem gCheck_none (f win : Int) (h0 : -1 ≤ f) (h1 : 0 ≤ win) (h2 : win ≤ 4611686018427387903) (w : World) : Calls Try.prog 26 #[.agg #[.int .i64 0, .slice none 0 0, .int .i64 f, .int .i64 win]] w fun e w' => e = .returned (.int .i64 0) ∧ Below w.heap.size w w' := by
  go_enter Try.func26, Try.ntmps26
  go_wp2_with fail
  refine wp_loop_rounds 1 ?_
  rw [rounds_succ]
  go_wp2_with fail
  all_goals
    go_ret
    exact ⟨rfl, (Below.refl _ _).alloc (Nat.le_refl _) _⟩

theorem gEnd_none (f win : Int) (w : World) : Calls Try.prog 34 #[.agg #[.int .i64 0, .slice none 0 0, .int .i64 f, .int .i64 win]] w fun e w' => e = .returned (.int .i64 0) ∧ Below w.heap.size w w' := by
  go_enter Try.func34, Try.ntmps34
  go_wp2_with fail
  go_ret
  exact ⟨rfl, (Below.refl _ _).alloc (Nat.le_refl _) _⟩

theorem gMerged_nil (w : World) : Calls Try.prog 36 #[.slice none 0 0] w fun e w' => e = .returned (.slice none 0 0) ∧ w = w' := by
  go_enter Try.func36, Try.ntmps36
  go_wp2_with fail
  refine wp_loop_rounds 1 ?_
  rw [rounds_succ]
  go_wp2_with fail
  go_ret
  exact ⟨rfl, rfl⟩

/-- The closure 'piece', where there is nothing to lay. -/
theorem gPiece_none (n m : Int) (g1 : Nat) (a2 a3 a4 : Value) (w : World) (h : w.cell? ⟨g1, 0, none⟩ = some (.int .i64 m)) (hnm : n ≤ m) : Calls Try.prog 35 #[.int .i64 n, .pointer (some ⟨g1, 0, none⟩), a2, a3, a4] w fun e w' => e = .returned (.tuple #[]) ∧ w = w' := by
  go_enter Try.func35, Try.ntmps35
  go_wp2_with fail
  go_end0
  exact ⟨rfl, rfl⟩

theorem Blk.facts1 {w : World} {g : Nat} {t : TypeId} {x : Value} (h : Blk w g t #[x]) : g < w.heap.size ∧ w.cell? ⟨g, 0, none⟩ = some x ∧ w.frozen? ⟨g, 0, none⟩ = false := ⟨h.lt, by rw [h.cell]; rfl, h.frozen 0⟩
theorem Blk.new3 (w : World) (o p q : Obj) (t : TypeId) (cs : Array Value) : Blk ((((w.alloc o).alloc p).alloc q).alloc (.cells cs t)) (w.heap.size + 1 + 1 + 1) t cs := by
  have := Blk.new (((w.alloc o).alloc p).alloc q) t cs
  simpa using this

set_option maxRecDepth 100000 in
set_option maxHeartbeats 1000000 in
theorem gPut_range (f win off : Int) (h0 : -1 ≤ f) (h1 : 0 ≤ win) (h2 : win ≤ 4611686018427387903) (ho : off < 0) (w : World) : Calls Try.prog 25 #[.agg #[.int .i64 0, .slice none 0 0, .int .i64 f, .int .i64 win], .int .i64 off, .slice none 0 0, .bool false] w fun e w' => e = .returned (.tuple #[.agg #[.int .i64 0, .slice none 0 0, .int .i64 0, .int .i64 0], .int .i64 6]) ∧ Below w.heap.size w w' := by
  go_enter Try.func25, Try.ntmps25
  go_upto_region 1 with (fail)
  refine wp_world (fun w' => Blk w' w.heap.size 47 #[.int .i64 0, .slice none 0 0, .int .i64 f, .int .i64 win] ∧ Blk w' (w.heap.size + 1) 3 #[.int .i64 off] ∧ Blk w' (w.heap.size + 1 + 1) 43 #[.slice none 0 0] ∧ Blk w' (w.heap.size + 1 + 1 + 1) 47 #[.int .i64 0, .slice none 0 0, .int .i64 0, .int .i64 0] ∧ Below w.heap.size w w')
    ⟨(((Blk.new _ _ _).alloc _).alloc _).alloc _, ((Blk.new1 _ _ _ _).alloc _).alloc _, (Blk.new2 _ _ _ _ _).alloc _, Blk.new3 _ _ _ _ _ _, ((((Below.refl _ _).alloc (Nat.le_refl _) _).alloc (by simp) _).alloc (by simp; omega) _).alloc (by simp; omega) _⟩ ?_
  rintro w0 ⟨hG, hO, hD, hZ, hb0⟩
  have FG := hG.facts4
  go_wp2_with fail
  refine (gCheck_none f win (by omega) (by omega) (by omega) _).mono ?_
  rintro e w1 ⟨rfl, hb1⟩
  have hG := hG.carry hb1
  have hO := hO.carry hb1
  have hD := hD.carry hb1
  have hZ := hZ.carry hb1
  have hb := hb0.trans (hb1.mono hb0.size)
  clear FG hb1 hb0
  have FG := hG.facts4
  have FO := hO.facts1
  have FD := hD.facts1
  have FZ := hZ.facts4
  go_wp2_with fail
  refine bodyPost_ret (v := .tuple #[.agg #[.int .i64 0, .slice none 0 0, .int .i64 0, .int .i64 0], .int .i64 6]) ?_ rfl ⟨rfl, ?_⟩
  · simp [results, Try.results25, go_sem, FZ] <;> rfl
  · (repeat (first | with_reducible exact hb | with_reducible refine Below.drew ?_ | (with_reducible refine Below.set4 ?_ ?side _ _ _ _; case side => (first | omega | (simp; omega) | (simp; done))) | (with_reducible refine Below.setCell ?_ ?side _; case side => (first | omega | (simp; omega) | (simp; done))) | (with_reducible refine Below.alloc ?_ ?side _; case side => (first | omega | (simp; omega) | (simp; done)))))

set_option maxRecDepth 100000 in
set_option maxHeartbeats 1000000 in
theorem gPut_behind (f win off : Int) (A : Option Addr) (n c : Nat) (h0 : 0 ≤ f) (h1 : 0 ≤ win) (h2 : win ≤ 4611686018427387903) (ho : 0 ≤ off) (hon : off + (n : Int) ≤ 4611686018427387903) (hf : f < off + (n : Int)) (w : World) : Calls Try.prog 25 #[.agg #[.int .i64 0, .slice none 0 0, .int .i64 f, .int .i64 win], .int .i64 off, .slice A n c, .bool false] w fun e w' => e = .returned (.tuple #[.agg #[.int .i64 0, .slice none 0 0, .int .i64 0, .int .i64 0], .int .i64 12]) ∧ Below w.heap.size w w' := by
  go_enter Try.func25, Try.ntmps25
  go_upto_region 1 with (fail)
  refine wp_world (fun w' => Blk w' w.heap.size 47 #[.int .i64 0, .slice none 0 0, .int .i64 f, .int .i64 win] ∧ Blk w' (w.heap.size + 1) 3 #[.int .i64 off] ∧ Blk w' (w.heap.size + 1 + 1) 43 #[.slice A n c] ∧ Blk w' (w.heap.size + 1 + 1 + 1) 47 #[.int .i64 0, .slice none 0 0, .int .i64 0, .int .i64 0] ∧ Below w.heap.size w w')
    ⟨(((Blk.new _ _ _).alloc _).alloc _).alloc _, ((Blk.new1 _ _ _ _).alloc _).alloc _, (Blk.new2 _ _ _ _ _).alloc _, Blk.new3 _ _ _ _ _ _, ((((Below.refl _ _).alloc (Nat.le_refl _) _).alloc (by simp) _).alloc (by simp; omega) _).alloc (by simp; omega) _⟩ ?_
  rintro w0 ⟨hG, hO, hD, hZ, hb0⟩
  have FG := hG.facts4
  go_wp2_with fail
  refine (gCheck_none f win (by omega) (by omega) (by omega) _).mono ?_
  rintro e w1 ⟨rfl, hb1⟩
  have hG := hG.carry hb1
  have hO := hO.carry hb1
  have hD := hD.carry hb1
  have hZ := hZ.carry hb1
  have hb := hb0.trans (hb1.mono hb0.size)
  clear FG hb1 hb0
  have FG := hG.facts4
  have FO := hO.facts1
  have FD := hD.facts1
  have FZ := hZ.facts4
  go_wp2_with fail
  refine bodyPost_ret (v := .tuple #[.agg #[.int .i64 0, .slice none 0 0, .int .i64 0, .int .i64 0], .int .i64 12]) ?_ rfl ⟨rfl, ?_⟩
  · simp [results, Try.results25, go_sem, FZ] <;> rfl
  · (repeat (first | with_reducible exact hb | with_reducible refine Below.drew ?_ | (with_reducible refine Below.set4 ?_ ?side _ _ _ _; case side => (first | omega | (simp; omega) | (simp; done))) | (with_reducible refine Below.setCell ?_ ?side _; case side => (first | omega | (simp; omega) | (simp; done))) | (with_reducible refine Below.alloc ?_ ?side _; case side => (first | omega | (simp; omega) | (simp; done)))))

set_option maxRecDepth 100000 in
set_option maxHeartbeats 1000000 in
theorem gPut_flow (win off : Int) (A : Option Addr) (n c : Nat) (h1 : 0 ≤ win) (h2 : win ≤ 4611686018427387903) (ho : 0 ≤ off) (hon : off + (n : Int) ≤ 4611686018427387903) (hf : win < off + (n : Int)) (w : World) : Calls Try.prog 25 #[.agg #[.int .i64 0, .slice none 0 0, .int .i64 (-1), .int .i64 win], .int .i64 off, .slice A n c, .bool false] w fun e w' => e = .returned (.tuple #[.agg #[.int .i64 0, .slice none 0 0, .int .i64 0, .int .i64 0], .int .i64 11]) ∧ Below w.heap.size w w' := by
  go_enter Try.func25, Try.ntmps25
  go_upto_region 1 with (fail)
  refine wp_world (fun w' => Blk w' w.heap.size 47 #[.int .i64 0, .slice none 0 0, .int .i64 (-1), .int .i64 win] ∧ Blk w' (w.heap.size + 1) 3 #[.int .i64 off] ∧ Blk w' (w.heap.size + 1 + 1) 43 #[.slice A n c] ∧ Blk w' (w.heap.size + 1 + 1 + 1) 47 #[.int .i64 0, .slice none 0 0, .int .i64 0, .int .i64 0] ∧ Below w.heap.size w w')
    ⟨(((Blk.new _ _ _).alloc _).alloc _).alloc _, ((Blk.new1 _ _ _ _).alloc _).alloc _, (Blk.new2 _ _ _ _ _).alloc _, Blk.new3 _ _ _ _ _ _, ((((Below.refl _ _).alloc (Nat.le_refl _) _).alloc (by simp) _).alloc (by simp; omega) _).alloc (by simp; omega) _⟩ ?_
  rintro w0 ⟨hG, hO, hD, hZ, hb0⟩
  have FG := hG.facts4
  go_wp2_with fail
  refine (gCheck_none (-1) win (by omega) (by omega) (by omega) _).mono ?_
  rintro e w1 ⟨rfl, hb1⟩
  have hG := hG.carry hb1
  have hO := hO.carry hb1
  have hD := hD.carry hb1
  have hZ := hZ.carry hb1
  have hb := hb0.trans (hb1.mono hb0.size)
  clear FG hb1 hb0
  have FG := hG.facts4
  have FO := hO.facts1
  have FD := hD.facts1
  have FZ := hZ.facts4
  go_wp2_with fail
  refine bodyPost_ret (v := .tuple #[.agg #[.int .i64 0, .slice none 0 0, .int .i64 0, .int .i64 0], .int .i64 11]) ?_ rfl ⟨rfl, ?_⟩
  · simp [results, Try.results25, go_sem, FZ] <;> rfl
  · (repeat (first | with_reducible exact hb | with_reducible refine Below.drew ?_ | (with_reducible refine Below.set4 ?_ ?side _ _ _ _; case side => (first | omega | (simp; omega) | (simp; done))) | (with_reducible refine Below.setCell ?_ ?side _; case side => (first | omega | (simp; omega) | (simp; done))) | (with_reducible refine Below.alloc ?_ ?side _; case side => (first | omega | (simp; omega) | (simp; done)))))

set_option maxRecDepth 100000 in
set_option maxHeartbeats 1000000 in
theorem gPut_more (f win off : Int) (h0 : 0 ≤ f) (h1 : 0 ≤ win) (h2 : win ≤ 4611686018427387903) (ho : 0 ≤ off) (hon : off ≤ 4611686018427387903) (hf : f < off) (w : World) : Calls Try.prog 25 #[.agg #[.int .i64 0, .slice none 0 0, .int .i64 f, .int .i64 win], .int .i64 off, .slice none 0 0, .bool true] w fun e w' => e = .returned (.tuple #[.agg #[.int .i64 0, .slice none 0 0, .int .i64 0, .int .i64 0], .int .i64 12]) ∧ Below w.heap.size w w' := by
  go_enter Try.func25, Try.ntmps25
  go_upto_region 1 with (fail)
  refine wp_world (fun w' => Blk w' w.heap.size 47 #[.int .i64 0, .slice none 0 0, .int .i64 f, .int .i64 win] ∧ Blk w' (w.heap.size + 1) 3 #[.int .i64 off] ∧ Blk w' (w.heap.size + 1 + 1) 43 #[.slice none 0 0] ∧ Blk w' (w.heap.size + 1 + 1 + 1) 47 #[.int .i64 0, .slice none 0 0, .int .i64 0, .int .i64 0] ∧ Below w.heap.size w w')
    ⟨(((Blk.new _ _ _).alloc _).alloc _).alloc _, ((Blk.new1 _ _ _ _).alloc _).alloc _, (Blk.new2 _ _ _ _ _).alloc _, Blk.new3 _ _ _ _ _ _, ((((Below.refl _ _).alloc (Nat.le_refl _) _).alloc (by simp) _).alloc (by simp; omega) _).alloc (by simp; omega) _⟩ ?_
  rintro w0 ⟨hG, hO, hD, hZ, hb0⟩
  have FG := hG.facts4
  go_wp2_with fail
  refine (gCheck_none f win (by omega) (by omega) (by omega) _).mono ?_
  rintro e w1 ⟨rfl, hb1⟩
  have hG := hG.carry hb1
  have hO := hO.carry hb1
  have hD := hD.carry hb1
  have hZ := hZ.carry hb1
  have hb := hb0.trans (hb1.mono hb0.size)
  clear FG hb1 hb0
  have FG := hG.facts4
  have FO := hO.facts1
  have FD := hD.facts1
  have FZ := hZ.facts4
  go_wp2_with fail
  refine bodyPost_ret (v := .tuple #[.agg #[.int .i64 0, .slice none 0 0, .int .i64 0, .int .i64 0], .int .i64 12]) ?_ rfl ⟨rfl, ?_⟩
  · simp [results, Try.results25, go_sem, FZ] <;> rfl
  · (repeat (first | with_reducible exact hb | with_reducible refine Below.drew ?_ | (with_reducible refine Below.set4 ?_ ?side _ _ _ _; case side => (first | omega | (simp; omega) | (simp; done))) | (with_reducible refine Below.setCell ?_ ?side _; case side => (first | omega | (simp; omega) | (simp; done))) | (with_reducible refine Below.alloc ?_ ?side _; case side => (first | omega | (simp; omega) | (simp; done)))))

set_option maxRecDepth 100000 in
set_option maxHeartbeats 1000000 in
theorem gPut_less (f win off : Int) (h0 : 0 ≤ f) (h1 : 0 ≤ win) (h2 : win ≤ 4611686018427387903) (ho : 0 ≤ off) (hon : off ≤ 4611686018427387903) (hf : off < f) (w : World) : Calls Try.prog 25 #[.agg #[.int .i64 0, .slice none 0 0, .int .i64 f, .int .i64 win], .int .i64 off, .slice none 0 0, .bool true] w fun e w' => e = .returned (.tuple #[.agg #[.int .i64 0, .slice none 0 0, .int .i64 0, .int .i64 0], .int .i64 12]) ∧ Below w.heap.size w w' := by
  have hne : (off != f) = true := by simp; omega
  go_enter Try.func25, Try.ntmps25
  go_upto_region 1 with (fail)
  refine wp_world (fun w' => Blk w' w.heap.size 47 #[.int .i64 0, .slice none 0 0, .int .i64 f, .int .i64 win] ∧ Blk w' (w.heap.size + 1) 3 #[.int .i64 off] ∧ Blk w' (w.heap.size + 1 + 1) 43 #[.slice none 0 0] ∧ Blk w' (w.heap.size + 1 + 1 + 1) 47 #[.int .i64 0, .slice none 0 0, .int .i64 0, .int .i64 0] ∧ Below w.heap.size w w')
    ⟨(((Blk.new _ _ _).alloc _).alloc _).alloc _, ((Blk.new1 _ _ _ _).alloc _).alloc _, (Blk.new2 _ _ _ _ _).alloc _, Blk.new3 _ _ _ _ _ _, ((((Below.refl _ _).alloc (Nat.le_refl _) _).alloc (by simp) _).alloc (by simp; omega) _).alloc (by simp; omega) _⟩ ?_
  rintro w0 ⟨hG, hO, hD, hZ, hb0⟩
  have FG := hG.facts4
  go_wp2_with fail
  refine (gCheck_none f win (by omega) (by omega) (by omega) _).mono ?_
  rintro e w1 ⟨rfl, hb1⟩
  have hG := hG.carry hb1
  have hO := hO.carry hb1
  have hD := hD.carry hb1
  have hZ := hZ.carry hb1
  have hb := hb0.trans (hb1.mono hb0.size)
  clear FG hb1 hb0
  have FG := hG.facts4
  have FO := hO.facts1
  have FD := hD.facts1
  have FZ := hZ.facts4
  go_wp2_with fail
  refine bodyPost_ret (v := .tuple #[.agg #[.int .i64 0, .slice none 0 0, .int .i64 0, .int .i64 0], .int .i64 12]) ?_ rfl ⟨rfl, ?_⟩
  · simp [results, Try.results25, go_sem, FZ] <;> rfl
  · (repeat (first | with_reducible exact hb | with_reducible refine Below.drew ?_ | (with_reducible refine Below.set4 ?_ ?side _ _ _ _; case side => (first | omega | (simp; omega) | (simp; done))) | (with_reducible refine Below.setCell ?_ ?side _; case side => (first | omega | (simp; omega) | (simp; done))) | (with_reducible refine Below.alloc ?_ ?side _; case side => (first | omega | (simp; omega) | (simp; done)))))

set_option maxRecDepth 100000 in
set_option maxHeartbeats 1000000 in
theorem gPut_nil (win off : Int) (h1 : 0 ≤ win) (h2 : win ≤ 4611686018427387903) (ho : 0 ≤ off) (hon : off ≤ win) (w : World) : Calls Try.prog 25 #[.agg #[.int .i64 0, .slice none 0 0, .int .i64 (-1), .int .i64 win], .int .i64 off, .slice none 0 0, .bool true] w fun e w' => e = .returned (.tuple #[.agg #[.int .i64 0, .slice none 0 0, .int .i64 off, .int .i64 win], .int .i64 0]) ∧ Below w.heap.size w w' := by
  have hne : (off != off) = false := by simp
  go_enter Try.func25, Try.ntmps25
  go_upto_region 1 with (fail)
  refine wp_world (fun w' => Blk w' w.heap.size 47 #[.int .i64 0, .slice none 0 0, .int .i64 (-1), .int .i64 win] ∧ Blk w' (w.heap.size + 1) 3 #[.int .i64 off] ∧ Blk w' (w.heap.size + 1 + 1) 43 #[.slice none 0 0] ∧ Blk w' (w.heap.size + 1 + 1 + 1) 47 #[.int .i64 0, .slice none 0 0, .int .i64 0, .int .i64 0] ∧ Below w.heap.size w w')
    ⟨(((Blk.new _ _ _).alloc _).alloc _).alloc _, ((Blk.new1 _ _ _ _).alloc _).alloc _, (Blk.new2 _ _ _ _ _).alloc _, Blk.new3 _ _ _ _ _ _, ((((Below.refl _ _).alloc (Nat.le_refl _) _).alloc (by simp) _).alloc (by simp; omega) _).alloc (by simp; omega) _⟩ ?_
  rintro w0 ⟨hG, hO, hD, hZ, hb0⟩
  have FG := hG.facts4
  go_wp2_with fail
  refine (gCheck_none (-1) win (by omega) (by omega) (by omega) _).mono ?_
  rintro e w1 ⟨rfl, hb1⟩
  have hG := hG.carry hb1
  have hO := hO.carry hb1
  have hD := hD.carry hb1
  have hZ := hZ.carry hb1
  have hb := hb0.trans (hb1.mono hb0.size)
  clear FG hb1 hb0
  have FG := hG.facts4
  have FO := hO.facts1
  have FD := hD.facts1
  have FZ := hZ.facts4
  go_wp2_with fail
  refine (gEnd_none (-1) win _).mono ?_
  rintro e w2 ⟨rfl, hb2⟩
  have hG := hG.carry hb2
  have hO := hO.carry hb2
  have hD := hD.carry hb2
  have hZ := hZ.carry hb2
  have hb := hb.trans (hb2.mono hb.size)
  clear FG FO FD FZ hb2
  have FG := hG.facts4
  have FO := hO.facts1
  have FD := hD.facts1
  have FZ := hZ.facts4
  have hmx : (if off < 0 then (0 : Int) else off) = off := by rw [if_neg (by omega)]
  have hmx2 : (if (0 : Int) < off then off else 0) = off := by split <;> omega
  go_wp2_with fail
  refine wp_world (fun w' => Blk w' w.heap.size 47 #[.int .i64 0, .slice none 0 0, .int .i64 (-1), .int .i64 win] ∧ Blk w' w2.heap.size 45 #[.slice none 0 0] ∧ Blk w' (w2.heap.size + 1) 3 #[.int .i64 off] ∧ Blk w' (w.heap.size + 1 + 1 + 1) 47 #[.int .i64 0, .slice none 0 0, .int .i64 0, .int .i64 0] ∧ Below w.heap.size w w')
    ⟨(hG.alloc _).alloc _, (Blk.new _ _ _).alloc _, Blk.new1 _ _ _ _, (hZ.alloc _).alloc _, (hb.alloc hb.size _).alloc (by have := hb.size; simp; omega) _⟩ ?_
  have hg2 := hZ.lt
  clear FG FO FD FZ hG hO hD hZ hb
  rintro w3 ⟨hG, hL, hT, hZ, hb⟩
  have FG := hG.facts4
  have FL := hL.facts1
  have FT := hT.facts1
  have FZ := hZ.facts4
  refine wp_loop_rounds 1 ?_
  rw [rounds_succ]
  go_wp2_with fail
  refine (gPiece_none off off (w2.heap.size + 1) _ _ _ w3 FT.2.1 (by omega)).mono ?_
  rintro e w4 ⟨rfl, rfl⟩
  go_wp2_with fail
  refine (gMerged_nil _).mono ?_
  rintro e w4 ⟨rfl, rfl⟩
  go_wp2_with fail
  refine bodyPost_ret (v := .tuple #[.agg #[.int .i64 0, .slice none 0 0, .int .i64 off, .int .i64 win], .int .i64 0]) ?_ rfl ⟨rfl, ?_⟩
  · simp [results, Try.results25, go_sem, FZ] <;> rfl
  · (repeat (first | with_reducible exact hb | with_reducible refine Below.drew ?_ | (with_reducible refine Below.set4 ?_ ?side _ _ _ _; case side => (first | omega | (simp; omega) | (simp; done))) | (with_reducible refine Below.setCell ?_ ?side _; case side => (first | omega | (simp; omega) | (simp; done))) | (with_reducible refine Below.alloc ?_ ?side _; case side => (first | omega | (simp; omega) | (simp; done)))))

set_option maxRecDepth 100000 in
set_option maxHeartbeats 1000000 in
theorem gPut_nil2 (win off : Int) (h1 : 0 ≤ win) (h2 : win ≤ 4611686018427387903) (ho : 0 ≤ off) (hon : off ≤ win) (w : World) : Calls Try.prog 25 #[.agg #[.int .i64 0, .slice none 0 0, .int .i64 off, .int .i64 win], .int .i64 off, .slice none 0 0, .bool true] w fun e w' => e = .returned (.tuple #[.agg #[.int .i64 0, .slice none 0 0, .int .i64 off, .int .i64 win], .int .i64 0]) ∧ Below w.heap.size w w' := by
  have hne : (off != off) = false := by simp
  go_enter Try.func25, Try.ntmps25
  go_upto_region 1 with (fail)
  refine wp_world (fun w' => Blk w' w.heap.size 47 #[.int .i64 0, .slice none 0 0, .int .i64 off, .int .i64 win] ∧ Blk w' (w.heap.size + 1) 3 #[.int .i64 off] ∧ Blk w' (w.heap.size + 1 + 1) 43 #[.slice none 0 0] ∧ Blk w' (w.heap.size + 1 + 1 + 1) 47 #[.int .i64 0, .slice none 0 0, .int .i64 0, .int .i64 0] ∧ Below w.heap.size w w')
    ⟨(((Blk.new _ _ _).alloc _).alloc _).alloc _, ((Blk.new1 _ _ _ _).alloc _).alloc _, (Blk.new2 _ _ _ _ _).alloc _, Blk.new3 _ _ _ _ _ _, ((((Below.refl _ _).alloc (Nat.le_refl _) _).alloc (by simp) _).alloc (by simp; omega) _).alloc (by simp; omega) _⟩ ?_
  rintro w0 ⟨hG, hO, hD, hZ, hb0⟩
  have FG := hG.facts4
  go_wp2_with fail
  refine (gCheck_none off win (by omega) (by omega) (by omega) _).mono ?_
  rintro e w1 ⟨rfl, hb1⟩
  have hG := hG.carry hb1
  have hO := hO.carry hb1
  have hD := hD.carry hb1
  have hZ := hZ.carry hb1
  have hb := hb0.trans (hb1.mono hb0.size)
  clear FG hb1 hb0
  have FG := hG.facts4
  have FO := hO.facts1
  have FD := hD.facts1
  have FZ := hZ.facts4
  go_wp2_with fail
  refine (gEnd_none off win _).mono ?_
  rintro e w2 ⟨rfl, hb2⟩
  have hG := hG.carry hb2
  have hO := hO.carry hb2
  have hD := hD.carry hb2
  have hZ := hZ.carry hb2
  have hb := hb.trans (hb2.mono hb.size)
  clear FG FO FD FZ hb2
  have FG := hG.facts4
  have FO := hO.facts1
  have FD := hD.facts1
  have FZ := hZ.facts4
  have hmx : (if off < 0 then (0 : Int) else off) = off := by rw [if_neg (by omega)]
  have hmx2 : (if (0 : Int) < off then off else 0) = off := by split <;> omega
  go_wp2_with fail
  refine wp_world (fun w' => Blk w' w.heap.size 47 #[.int .i64 0, .slice none 0 0, .int .i64 off, .int .i64 win] ∧ Blk w' w2.heap.size 45 #[.slice none 0 0] ∧ Blk w' (w2.heap.size + 1) 3 #[.int .i64 off] ∧ Blk w' (w.heap.size + 1 + 1 + 1) 47 #[.int .i64 0, .slice none 0 0, .int .i64 0, .int .i64 0] ∧ Below w.heap.size w w')
    ⟨(hG.alloc _).alloc _, (Blk.new _ _ _).alloc _, Blk.new1 _ _ _ _, (hZ.alloc _).alloc _, (hb.alloc hb.size _).alloc (by have := hb.size; simp; omega) _⟩ ?_
  have hg2 := hZ.lt
  clear FG FO FD FZ hG hO hD hZ hb
  rintro w3 ⟨hG, hL, hT, hZ, hb⟩
  have FG := hG.facts4
  have FL := hL.facts1
  have FT := hT.facts1
  have FZ := hZ.facts4
  refine wp_loop_rounds 1 ?_
  rw [rounds_succ]
  go_wp2_with fail
  refine (gPiece_none off off (w2.heap.size + 1) _ _ _ w3 FT.2.1 (by omega)).mono ?_
  rintro e w4 ⟨rfl, rfl⟩
  go_wp2_with fail
  refine (gMerged_nil _).mono ?_
  rintro e w4 ⟨rfl, rfl⟩
  go_wp2_with fail
  refine bodyPost_ret (v := .tuple #[.agg #[.int .i64 0, .slice none 0 0, .int .i64 off, .int .i64 win], .int .i64 0]) ?_ rfl ⟨rfl, ?_⟩
  · simp [results, Try.results25, go_sem, FZ] <;> rfl
  · (repeat (first | with_reducible exact hb | with_reducible refine Below.drew ?_ | (with_reducible refine Below.set4 ?_ ?side _ _ _ _; case side => (first | omega | (simp; omega) | (simp; done))) | (with_reducible refine Below.setCell ?_ ?side _; case side => (first | omega | (simp; omega) | (simp; done))) | (with_reducible refine Below.alloc ?_ ?side _; case side => (first | omega | (simp; omega) | (simp; done)))))
end Go.Proofs.Ytolhlgalhhdkmab
