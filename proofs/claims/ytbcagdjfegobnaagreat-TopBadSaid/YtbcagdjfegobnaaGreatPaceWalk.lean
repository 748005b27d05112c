/- The contracts of pace.Begin, Check, fault, Send, Heard, Lost. -/
import Derived.Test.YtbcagdjfegobnaaGreatPickWalk
import Derived.Test.YtbcagdjfegobnaaGreatRawOpen
import Derived.Test.YtbcagdjfegobnaaGreatOwn
import Derived.BigRegion
import Derived.BigQuiet
import Derived.StillTailTactics
import Derived.Outline
import Derived.Deep.Cut
import Derived.Deep.CutBlock
import Derived.Deep.CutRange
import Derived.Deep.QuietTactic
namespace Go.Proofs.YtbcagdjfegobnaaGreat
open Go.ChangeShapes Go.WideShapes Go.ChangeAt Go.RowKit
set_option linter.unusedVariables false

theorem paceBegin_any (w : World) : Calls Tryz.prog 108 #[] w fun e w' => e = .returned (.agg #[.int .i64 400, .int .i64 0, .int .i64 0, .int .i64 (-1)]) ∧ Below w.heap.size w w' := by
  go_enter Tryz.func108, Tryz.ntmps108
  go_wp2
  exact bodyPost_ret (v := .agg #[.int .i64 400, .int .i64 0, .int .i64 0, .int .i64 (-1)]) (by simp [results, Tryz.results108, go_sem]) rfl ⟨rfl, (Below.refl _ _).alloc (Nat.le_refl _) _⟩

theorem paceCheck_ok (W T F S : Int) (h0 : 200 ≤ W) (h1 : W ≤ 1099511627776) (h2 : 0 ≤ T) (h3 : T ≤ 1099511627776) (h4 : 0 ≤ F) (h5 : F ≤ 1099511627776) (h6 : -1 ≤ S) (h7 : S ≤ 1099511627776) (w : World) :
    Calls Tryz.prog 80 #[.agg #[.int .i64 W, .int .i64 T, .int .i64 F, .int .i64 S]] w fun e w' => e = .returned (.int .i64 0) ∧ Below w.heap.size w w' := by
  go_enter Tryz.func80, Tryz.ntmps80
  go_wp2
  go_ret
  exact ⟨rfl, (Below.refl _ _).alloc (Nat.le_refl _) _⟩

theorem paceFault_ok (W T F S : Int) (h0 : 200 ≤ W) (h1 : W ≤ 1099511627776) (h2 : 0 ≤ T) (h3 : T ≤ 1099511627776) (h4 : 0 ≤ F) (h5 : F ≤ 1099511627776) (h6 : -1 ≤ S) (h7 : S ≤ 1099511627776)
    (g n : Nat) (ls : List Int) (hn : ls.length = n) (hn3 : n ≤ 3) (w : World) (hc : ∀ j, j < n → w.cell? ⟨g, j, none⟩ = some (.int .i64 (ls.getD j 0))) (hl : ∀ j, j < n → 0 ≤ ls.getD j 0 ∧ ls.getD j 0 ≤ 1099511627776) :
    Calls Tryz.prog 166 #[.agg #[.int .i64 W, .int .i64 T, .int .i64 F, .int .i64 S], .slice (some ⟨g, 0, none⟩) n n] w fun e w' => e = .returned (.int .i64 0) ∧ Below w.heap.size w w' := by
  have HC := Lib.hid hc
  have HL := Lib.hid hl
  have HN := Lib.hid hn
  clear hc hl hn
  go_enter Tryz.func166, Tryz.ntmps166
  go_wp2_with fail
  refine (paceCheck_ok W T F S h0 h1 h2 h3 h4 h5 h6 h7 _).mono ?_
  rintro e w1 ⟨rfl, hb1⟩
  have hb : Below w.heap.size w w1 := ((Below.refl _ _).alloc (Nat.le_refl _) _).trans (hb1.mono (by simp))
  clear hb1
  go_wp2_with fail
  go_loop [7, 15] (fun x i => ∃ k : Nat, k ≤ n ∧ i = .int .i64 k) (fun _ i => n - (intOf i).toNat)
  case atStart => exact ⟨0, Nat.zero_le _, rfl⟩
  case round =>
    obtain ⟨k, hk, rfl⟩ := hrel
    by_cases hlt : k < n
    · have c := HC.out k hlt
      have hcell : w1.cell? ⟨g, k, none⟩ = some (.int .i64 (ls.getD k 0)) := (hb.cell (p := ⟨g, k, none⟩) (World.block_lt_of_cell? w _ c)).trans c
      obtain ⟨l0, l1⟩ := HL.out k hlt
      generalize ls.getD k 0 = x at *
      clear c
      go_wp2_with fail
      go_round
      case rel => exact ⟨k + 1, by omega, by go_num⟩
      case measure => simp [intOf]; omega
    · go_wp2_with fail
      go_ret
      exact ⟨rfl, hb⟩

theorem one_at (x : Int) (w : World) (g : Nat) (h : w.cell? ⟨g, 0, none⟩ = some (.int .i64 x)) : ∀ j, j < 1 → w.cell? ⟨g, j, none⟩ = some (.int .i64 ([x].getD j 0)) := by
  intro j hj; obtain rfl : j = 0 := by omega
  exact h
theorem two_at (x y : Int) (w : World) (g : Nat) (h : w.cell? ⟨g, 0, none⟩ = some (.int .i64 x)) (k : w.cell? ⟨g, 1, none⟩ = some (.int .i64 y)) : ∀ j, j < 2 → w.cell? ⟨g, j, none⟩ = some (.int .i64 ([x, y].getD j 0)) := by
  intro j hj; obtain rfl | rfl : j = 0 ∨ j = 1 := by omega
  · exact h
  · exact k
theorem three_at (x y z : Int) (w : World) (g : Nat) (h : w.cell? ⟨g, 0, none⟩ = some (.int .i64 x)) (k : w.cell? ⟨g, 1, none⟩ = some (.int .i64 y)) (l : w.cell? ⟨g, 2, none⟩ = some (.int .i64 z)) : ∀ j, j < 3 → w.cell? ⟨g, j, none⟩ = some (.int .i64 ([x, y, z].getD j 0)) := by
  intro j hj; obtain rfl | rfl | rfl : j = 0 ∨ j = 1 ∨ j = 2 := by omega
  · exact h
  · exact k
  · exact l
theorem all1 {p : Int → Prop} {x : Int} (h : p x) : ∀ j, j < 1 → p ([x].getD j 0) := by
  intro j hj; obtain rfl : j = 0 := by omega
  exact h
theorem all2 {p : Int → Prop} {x y : Int} (h : p x) (k : p y) : ∀ j, j < 2 → p ([x, y].getD j 0) := by
  intro j hj; obtain rfl | rfl : j = 0 ∨ j = 1 := by omega
  · exact h
  · exact k
theorem all3 {p : Int → Prop} {x y z : Int} (h : p x) (k : p y) (l : p z) : ∀ j, j < 3 → p ([x, y, z].getD j 0) := by
  intro j hj; obtain rfl | rfl | rfl : j = 0 ∨ j = 1 ∨ j = 2 := by omega
  · exact h
  · exact k
  · exact l

theorem paceSend_yes (W T F S n : Int) (h0 : 200 ≤ W) (h1 : W ≤ 1099511627776) (h2 : 0 ≤ T) (h3 : T ≤ 1099511627776) (h4 : 0 ≤ F) (h5 : F ≤ 1099511627776) (h6 : -1 ≤ S) (h7 : S ≤ 1099511627776) (n0 : 0 ≤ n) (n1 : n ≤ 1099511627776) (hn : n ≤ W - F) (w : World) :
    Calls Tryz.prog 134 #[.agg #[.int .i64 W, .int .i64 T, .int .i64 F, .int .i64 S], .int .i64 n] w fun e w' => e = .returned (.tuple #[.agg #[.int .i64 W, .int .i64 T, .int .i64 (F + n), .int .i64 S], .bool true, .int .i64 0]) ∧ Below w.heap.size w w' := by
  have HN := Lib.hid hn
  clear hn
  go_enter Tryz.func134, Tryz.ntmps134
  go_wp2_with fail
  refine (paceFault_ok W T F S h0 h1 h2 h3 h4 h5 h6 h7 _ 1 [n] rfl (by decide) _ ?_ ?_).mono ?_
  · exact one_at n _ _ (by simp [go_sem])
  · exact all1 (p := fun x => 0 ≤ x ∧ x ≤ 1099511627776) ⟨n0, n1⟩
  rintro e w1 ⟨rfl, hb1⟩
  have hB : Blk w1 w.heap.size 37 #[.int .i64 W, .int .i64 T, .int .i64 F, .int .i64 S] := Blk.carry (((Blk.new w _ _).alloc _).alloc _) hb1
  have hR : Blk w1 (w.heap.size + 1) 37 #[.int .i64 0, .int .i64 0, .int .i64 0, .int .i64 0] := Blk.carry ((Blk.new1 w _ _ _).alloc _) hb1
  have hb : Below w.heap.size w w1 := ((((Below.refl _ _).alloc (Nat.le_refl _) _).alloc (by simp) _).alloc (by simp; omega) _).trans (hb1.mono (by simp; omega))
  clear hb1
  have FB := hB.facts4
  have FR := hR.facts4
  have hn := HN.out
  clear hB hR HN
  go_wp2_with fail
  refine bodyPost_ret (v := .tuple #[.agg #[.int .i64 W, .int .i64 T, .int .i64 (F + n), .int .i64 S], .bool true, .int .i64 0]) ?_ rfl ⟨rfl, ?_⟩
  · simp [results, Tryz.results134, go_sem, FR]
  · repeat (first | exact hb | refine Below.setCell ?_ (by simp) _)

theorem paceSend_no (W T F S n : Int) (h0 : 200 ≤ W) (h1 : W ≤ 1099511627776) (h2 : 0 ≤ T) (h3 : T ≤ 1099511627776) (h4 : 0 ≤ F) (h5 : F ≤ 1099511627776) (h6 : -1 ≤ S) (h7 : S ≤ 1099511627776) (n0 : 0 ≤ n) (n1 : n ≤ 1099511627776) (hn : W - F < n) (w : World) :
    Calls Tryz.prog 134 #[.agg #[.int .i64 W, .int .i64 T, .int .i64 F, .int .i64 S], .int .i64 n] w fun e w' => e = .returned (.tuple #[.agg #[.int .i64 W, .int .i64 T, .int .i64 F, .int .i64 S], .bool false, .int .i64 0]) ∧ Below w.heap.size w w' := by
  have HN := Lib.hid hn
  clear hn
  go_enter Tryz.func134, Tryz.ntmps134
  go_wp2_with fail
  refine (paceFault_ok W T F S h0 h1 h2 h3 h4 h5 h6 h7 _ 1 [n] rfl (by decide) _ ?_ ?_).mono ?_
  · exact one_at n _ _ (by simp [go_sem])
  · exact all1 (p := fun x => 0 ≤ x ∧ x ≤ 1099511627776) ⟨n0, n1⟩
  rintro e w1 ⟨rfl, hb1⟩
  have hB : Blk w1 w.heap.size 37 #[.int .i64 W, .int .i64 T, .int .i64 F, .int .i64 S] := Blk.carry (((Blk.new w _ _).alloc _).alloc _) hb1
  have hR : Blk w1 (w.heap.size + 1) 37 #[.int .i64 0, .int .i64 0, .int .i64 0, .int .i64 0] := Blk.carry ((Blk.new1 w _ _ _).alloc _) hb1
  have hb : Below w.heap.size w w1 := ((((Below.refl _ _).alloc (Nat.le_refl _) _).alloc (by simp) _).alloc (by simp; omega) _).trans (hb1.mono (by simp; omega))
  clear hb1
  have FB := hB.facts4
  have FR := hR.facts4
  have hn := HN.out
  clear hB hR HN
  go_wp2_with fail
  refine bodyPost_ret (v := .tuple #[.agg #[.int .i64 W, .int .i64 T, .int .i64 F, .int .i64 S], .bool false, .int .i64 0]) ?_ rfl ⟨rfl, ?_⟩
  · simp [results, Tryz.results134, go_sem, FR]
  · repeat (first | exact hb | refine Below.setCell ?_ (by simp) _)

theorem paceHeard_bad (W T F S n s : Int) (h0 : 200 ≤ W) (h1 : W ≤ 1099511627776) (h2 : 0 ≤ T) (h3 : T ≤ 1099511627776) (h4 : 0 ≤ F) (h5 : F ≤ 1099511627776) (h6 : -1 ≤ S) (h7 : S ≤ 1099511627776) (n0 : 0 ≤ n) (n1 : n ≤ 1099511627776) (s0 : 0 ≤ s) (s1 : s ≤ 1099511627776) (hn : F < n) (w : World) :
    Calls Tryz.prog 171 #[.agg #[.int .i64 W, .int .i64 T, .int .i64 F, .int .i64 S], .int .i64 n, .int .i64 s] w fun e w' => e = .returned (.tuple #[.agg #[.int .i64 0, .int .i64 0, .int .i64 0, .int .i64 0], .int .i64 13]) ∧ Below w.heap.size w w' := by
  go_enter Tryz.func171, Tryz.ntmps171
  go_wp2_with fail
  refine (paceFault_ok W T F S h0 h1 h2 h3 h4 h5 h6 h7 _ 2 [n, s] rfl (by decide) _ ?_ ?_).mono ?_
  · exact two_at n s _ _ (by simp [go_sem]) (by simp [go_sem])
  · exact all2 (p := fun x => 0 ≤ x ∧ x ≤ 1099511627776) ⟨n0, n1⟩ ⟨s0, s1⟩
  rintro e w1 ⟨rfl, hb1⟩
  have hB : Blk w1 w.heap.size 37 #[.int .i64 W, .int .i64 T, .int .i64 F, .int .i64 S] := Blk.carry (((Blk.new w _ _).alloc _).alloc _) hb1
  have hR : Blk w1 (w.heap.size + 1) 37 #[.int .i64 0, .int .i64 0, .int .i64 0, .int .i64 0] := Blk.carry ((Blk.new1 w _ _ _).alloc _) hb1
  have hb : Below w.heap.size w w1 := ((((Below.refl _ _).alloc (Nat.le_refl _) _).alloc (by simp) _).alloc (by simp; omega) _).trans (hb1.mono (by simp; omega))
  clear hb1
  have FB := hB.facts4
  have FR := hR.facts4
  clear hB hR
  go_wp2_with fail
  refine bodyPost_ret (v := .tuple #[.agg #[.int .i64 0, .int .i64 0, .int .i64 0, .int .i64 0], .int .i64 13]) ?_ rfl ⟨rfl, ?_⟩
  · simp [results, Tryz.results171, go_sem, FR]
  · repeat (first | exact hb | refine Below.setCell ?_ (by simp) _)

theorem paceHeard_old (W T F S n s : Int) (h0 : 200 ≤ W) (h1 : W ≤ 1099511627776) (h2 : 0 ≤ T) (h3 : T ≤ 1099511627776) (h4 : 0 ≤ F) (h5 : F ≤ 1099511627776) (h6 : -1 ≤ S) (h7 : S ≤ 1099511627776) (n0 : 0 ≤ n) (n1 : n ≤ 1099511627776) (s0 : 0 ≤ s) (s1 : s ≤ 1099511627776) (hn : n ≤ F) (hs : s ≤ S) (w : World) :
    Calls Tryz.prog 171 #[.agg #[.int .i64 W, .int .i64 T, .int .i64 F, .int .i64 S], .int .i64 n, .int .i64 s] w fun e w' => e = .returned (.tuple #[.agg #[.int .i64 W, .int .i64 T, .int .i64 (F - n), .int .i64 S], .int .i64 0]) ∧ Below w.heap.size w w' := by
  go_enter Tryz.func171, Tryz.ntmps171
  go_wp2_with fail
  refine (paceFault_ok W T F S h0 h1 h2 h3 h4 h5 h6 h7 _ 2 [n, s] rfl (by decide) _ ?_ ?_).mono ?_
  · exact two_at n s _ _ (by simp [go_sem]) (by simp [go_sem])
  · exact all2 (p := fun x => 0 ≤ x ∧ x ≤ 1099511627776) ⟨n0, n1⟩ ⟨s0, s1⟩
  rintro e w1 ⟨rfl, hb1⟩
  have hB : Blk w1 w.heap.size 37 #[.int .i64 W, .int .i64 T, .int .i64 F, .int .i64 S] := Blk.carry (((Blk.new w _ _).alloc _).alloc _) hb1
  have hR : Blk w1 (w.heap.size + 1) 37 #[.int .i64 0, .int .i64 0, .int .i64 0, .int .i64 0] := Blk.carry ((Blk.new1 w _ _ _).alloc _) hb1
  have hb : Below w.heap.size w w1 := ((((Below.refl _ _).alloc (Nat.le_refl _) _).alloc (by simp) _).alloc (by simp; omega) _).trans (hb1.mono (by simp; omega))
  clear hb1
  have FB := hB.facts4
  have FR := hR.facts4
  clear hB hR
  go_wp2_with fail
  refine bodyPost_ret (v := .tuple #[.agg #[.int .i64 W, .int .i64 T, .int .i64 (F - n), .int .i64 S], .int .i64 0]) ?_ rfl ⟨rfl, ?_⟩
  · simp [results, Tryz.results171, go_sem, FR]
  · repeat (first | exact hb | refine Below.setCell ?_ (by simp) _)

end Go.Proofs.YtbcagdjfegobnaaGreat
