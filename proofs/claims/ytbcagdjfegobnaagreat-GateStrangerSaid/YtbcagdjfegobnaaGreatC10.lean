/- Texts of the proof, laid together: BegFresh. -/
import Derived.Test.YtbcagdjfegobnaaGreatC09
/- A connection that has just begun: the contract of conn.Fresh. -/
namespace Go.Proofs.YtbcagdjfegobnaaGreat
open Go.ChangeShapes Go.WideShapes Go.ChangeAt Go.RowKit
set_option linter.unusedVariables false

/-- append of nothing onto nothing. -/
theorem run_append_zero {P : Program} (t ty e : TypeId) (i : TypeInfo) (ht : P.underlying t = some (.slice e)) (hi : P.info? e = some i) (X : Option Addr) (cx : Nat) (A : Option Addr) (c : Nat) (w : World) :
    (Builtin.append_ #[t, t] ty #[.slice X 0 cx, .slice A 0 c]).run P w = .ok (.slice X 0 cx) w := by
  cases X <;> cases A <;> simp [Builtin.append_, run_underlying ht, sizeOf, typeInfo, hi, Builtin.lenOf, Builtin.firstCells, storeCells, loadCells, loadCellsFrom]

theorem step_app0 {P : Program} {w : World} {ops : Array Oper} {o : Oper} {a : Act} {K : Act → World → Prop} {Q : Exit → Act → World → Prop} {E' : Prop} (hg : o.guard = none) (s x : Operand) (t : TypeId)
    (ho : o.op = .call { callee := .builtin .append, args := #[s, x], argTypes := #[t, t] }) (e : TypeId) (ht : P.underlying t = some (.slice e)) (hi : (P.info? e).isSome = true)
    (X : Option Addr) (cx : Nat) (hs : a.eval s = .slice X 0 cx) (A : Option Addr) (c : Nat) (hx : a.eval x = .slice A 0 c) (h : K (a.put o.dst (.slice X 0 cx)) w) :
    if Region.wanted o (yielded ops a.tmps) = true then Oper.wp P o a w K Q else E' := by
  rw [if_pos (by simp [Region.wanted, hg])]
  obtain ⟨i, hi⟩ := Option.isSome_iff_exists.1 hi
  unfold Oper.wp execOp
  simp only [ho, resolve, invoke, builtin, Sem.run_bind, Sem.run_pure, Result.andThen_ok, List.map_toArray, List.map_cons, List.map_nil, hs, hx, run_append_zero t o.type e i ht hi X cx A c w]
  exact h

theorem parcels_nil (w : World) : Calls Tryz.prog 126 #[.slice none 0 0] w fun e w' => e = .returned (.slice none 0 0) ∧ w = w' := by
  go_enter Tryz.func126, Tryz.ntmps126
  go_wp2_with fail
  refine wp_loop_rounds 1 ?_
  rw [rounds_succ]
  go_wp2_with fail
  go_ret
  exact ⟨rfl, rfl⟩
theorem cframes_nil (w : World) : Calls Tryz.prog 111 #[.slice none 0 0] w fun e w' => e = .returned (.slice none 0 0) ∧ w = w' := by
  go_enter Tryz.func111, Tryz.ntmps111
  go_wp2_with fail
  refine wp_loop_rounds 1 ?_
  rw [rounds_succ]
  go_wp2_with fail
  go_ret
  exact ⟨rfl, rfl⟩

set_option maxRecDepth 100000 in
set_option maxHeartbeats 4000000 in
theorem connFresh_bg0 (cl : Bool) (A : Option Addr) (c : Nat) (B : Option Addr) (d : Nat) (last ids grant : Int) (w : World) :
    Calls Tryz.prog 92 #[.agg (bg0 cl A c B d last ids grant)] w fun e w' => ∃ A' B', e = .returned (.agg (bg0 cl A' 0 B' 0 last ids grant)) ∧ Below w.heap.size w w' := by
  go_enter Tryz.func92, Tryz.ntmps92
  go_upto_region 1 with (fail)
  refine wp_world (fun w' => Blk w' w.heap.size 43 (bg0 cl A c B d last ids grant) ∧ (∃ z, z.size = 24 ∧ Blk w' (w.heap.size + 1) 43 z) ∧ Below w.heap.size w w') ⟨(Blk.new _ _ _).alloc _, ⟨_, rfl, Blk.new1 _ _ _ _⟩, ((Below.refl _ _).alloc (Nat.le_refl _) _).alloc (by simp) _⟩ ?_
  rintro w1 ⟨hS, ⟨z, hz, hZ⟩, hb⟩
  have HF : ∀ W, Blk W w.heap.size 43 (bg0 cl A c B d last ids grant) → _ := fun W h => Blk.c24 (by unfold bg0 at h; exact h)
  have HF := Lib.hid HF
  have F := HF.out _ hS
  have z1 := hS.zs
  go_wp2_with fail
  refine (parcels_nil _).mono ?_
  rintro e w' ⟨rfl, rfl⟩
  go_upto_region 2 with (fail)
  refine wp_world (fun w' => Blk w' w.heap.size 43 (bg0 cl A c B d last ids grant) ∧ Blk w' (w.heap.size + 1) 43 z ∧ Below w.heap.size w w') ⟨(hS.set_ 2 _).as (by rfl), hZ.far (by simp) _, by (repeat (first | with_reducible exact hb | with_reducible refine Below.drew ?_ | (with_reducible refine Below.set4 ?_ ?side _ _ _ _; case side => (first | omega | (simp; omega) | (simp; done))) | (with_reducible refine Below.setCell ?_ ?side _; case side => (first | omega | (simp; omega) | (simp; done))) | (with_reducible refine Below.alloc ?_ ?side _; case side => (first | omega | (simp; omega) | (simp; done)))))⟩ ?_
  clear hS hZ hb F z1
  rintro w2 ⟨hS, hZ, hb⟩
  have f4 : w2.cell? ⟨w.heap.size, 4, none⟩ = some (.slice A 0 c) := by rw [hS.cell]; rfl
  have f5 : w2.cell? ⟨w.heap.size, 5, none⟩ = some (.slice B 0 d) := by rw [hS.cell]; rfl
  have z4 := hS.zs 4
  have z5 := hS.zs 5
  have HS := Lib.hid hS
  have HZ := Lib.hid hZ
  have HB := Lib.hid hb
  have hzl := hZ.lt
  have hn : w2.heap.size ≠ w.heap.size := by omega
  have hn2 : w2.heap.size + 1 ≠ w.heap.size := by omega
  have hwl : w.heap.size < w2.heap.size := by omega
  clear hS hZ hb
  go_cut [16, 21] (fun s16 s21 wx => ∃ A' B', Blk wx w.heap.size 43 (bg0 cl A' 0 B' 0 last ids grant) ∧ Blk wx (w.heap.size + 1) 43 z ∧ Below w.heap.size w wx)
  case first =>
    -- [[r2
    clear HF
    go_region_law ((first
      | (refine step_app0 rfl (.tmp 12) (.tmp 15) _ rfl _ Tryz.underlying32 (by kernel_rfl) _ _ rfl _ _ rfl ?_)
      | (refine step_app0 rfl (.tmp 17) (.tmp 20) _ rfl _ Tryz.underlying33 (by kernel_rfl) _ _ rfl _ _ rfl ?_)))
    all_goals
      go_wp2_with fail
      try go_meet
      first
        | (refine ⟨some ⟨w2.heap.size, 0, none⟩, some ⟨w2.heap.size + 1, 0, none⟩, ?_, ?_, ?_⟩
           · have hS := HS.out
             unfold bg0 at hS ⊢
             (apply Blk.as; (case h => (repeat (first | with_reducible exact hS | with_reducible apply Blk.drew | with_reducible apply Blk.set4 | with_reducible apply Blk.set_ | (with_reducible apply Blk.far4 (hne := ?side); case side => (first | omega | (simp; omega) | (simp; done))) | (with_reducible apply Blk.far (hp := ?side); case side => (first | omega | (simp; omega) | (simp; done))) | with_reducible apply Blk.alloc))); (case e => (first | with_reducible rfl | (simp; done) | rfl)))
             done)
        | (refine ⟨some ⟨w2.heap.size + 1, 0, none⟩, some ⟨w2.heap.size, 0, none⟩, ?_, ?_, ?_⟩
           · have hS := HS.out
             unfold bg0 at hS ⊢
             (apply Blk.as; (case h => (repeat (first | with_reducible exact hS | with_reducible apply Blk.drew | with_reducible apply Blk.set4 | with_reducible apply Blk.set_ | (with_reducible apply Blk.far4 (hne := ?side); case side => (first | omega | (simp; omega) | (simp; done))) | (with_reducible apply Blk.far (hp := ?side); case side => (first | omega | (simp; omega) | (simp; done))) | with_reducible apply Blk.alloc))); (case e => (first | with_reducible rfl | (simp; done) | rfl)))
             done)
      · have hZ := HZ.out
        (apply Blk.as; (case h => (repeat (first | with_reducible exact hZ | with_reducible apply Blk.drew | with_reducible apply Blk.set4 | with_reducible apply Blk.set_ | (with_reducible apply Blk.far4 (hne := ?side); case side => (first | omega | (simp; omega) | (simp; done))) | (with_reducible apply Blk.far (hp := ?side); case side => (first | omega | (simp; omega) | (simp; done))) | with_reducible apply Blk.alloc))); (case e => (first | with_reducible rfl | (simp; done) | rfl)))
      · have hb := HB.out
        (repeat (first | with_reducible exact hb | with_reducible refine Below.drew ?_ | (with_reducible refine Below.set4 ?_ ?side _ _ _ _; case side => (first | omega | (simp; omega) | (simp; done))) | (with_reducible refine Below.setCell ?_ ?side _; case side => (first | omega | (simp; omega) | (simp; done))) | (with_reducible refine Below.alloc ?_ ?side _; case side => (first | omega | (simp; omega) | (simp; done)))))
    -- ]]r2
  case rest =>
    -- [[rest
    obtain ⟨A', B', hS, hZ, hb⟩ := hcut
    refine (show ∀ (a : Act) (w : World), Code.wp _ _ _ a w → _ from by assumption) _ _ ?_
    refine wp_world (fun w' => Blk w' w.heap.size 43 (bg0 cl A' 0 B' 0 last ids grant) ∧ Blk w' (w.heap.size + 1) 43 z ∧ Below w.heap.size w w') ⟨hS, hZ, hb⟩ ?_
    clear hS hZ hb HS HZ HB
    rintro w3 ⟨hS, hZ, hb⟩
    have f8 : w3.cell? ⟨w.heap.size, 17, none⟩ = some (.slice none 0 0) := by rw [hS.cell]; rfl
    have f9 : w3.cell? ⟨w.heap.size, 19, none⟩ = some (.slice none 0 0) := by rw [hS.cell]; rfl
    have z8 := hS.zs 17
    have z9 := hS.zs 19
    have hzl := hZ.lt
    go_wp2_with fail
    refine (cframes_nil _).mono ?_
    rintro e w' ⟨rfl, rfl⟩
    go_wp2_with fail
    refine wp_loop_rounds 1 ?_
    rw [rounds_succ]
    go_upto_region 15 with (fail)
    refine wp_world (fun w' => Blk w' w.heap.size 43 (bg0 cl A' 0 B' 0 last ids grant) ∧ Blk w' (w.heap.size + 1) 43 z ∧ Below w.heap.size w w') ⟨((hS.set_ 19 _).set_ 17 _).as (by rfl), (hZ.far (by simp) _).far (by simp) _, by (repeat (first | with_reducible exact hb | with_reducible refine Below.drew ?_ | (with_reducible refine Below.set4 ?_ ?side _ _ _ _; case side => (first | omega | (simp; omega) | (simp; done))) | (with_reducible refine Below.setCell ?_ ?side _; case side => (first | omega | (simp; omega) | (simp; done))) | (with_reducible refine Below.alloc ?_ ?side _; case side => (first | omega | (simp; omega) | (simp; done)))))⟩ ?_
    clear hS hZ hb f8 f9 z8 z9
    rintro w4 ⟨hS, hZ, hb⟩
    go_wp2_with (first
      | refine wpList_loadR rfl 43 (.tmp 1) rfl w.heap.size 0 rfl (bg0 cl A' 0 B' 0 last ids grant) _ Tryz.underlying43 rfl (by kernel_rfl) hS.whole ?_
      | (refine wpList_storeP rfl 43 (.tmp 2) (.tmp 76) rfl (w.heap.size + 1) 0 rfl (bg0 cl A' 0 B' 0 last ids grant) rfl 43 _ hZ (by kernel_rfl) (by simp [bg0, hz]) (bg0_one _ _ _ _ _ _ _ _) _ (splice_all _ _ (by simp [bg0, hz])) ?_
         intro w6 hB6 hw6))
    exact bodyPost_ret (results_c1 _ _ (w.heap.size + 1) _ (bg0 cl A' 0 B' 0 last ids grant) _ Tryz.results92 rfl hB6 Tryz.underlying43 rfl (by kernel_rfl)) rfl ⟨A', B', rfl, hw6.trans_below hb (by omega)⟩
    -- ]]rest

end Go.Proofs.YtbcagdjfegobnaaGreat
