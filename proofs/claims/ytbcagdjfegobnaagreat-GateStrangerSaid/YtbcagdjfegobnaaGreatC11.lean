/- Texts of the proof, laid together: BegFlush. -/
import Derived.Test.YtbcagdjfegobnaaGreatC10
/- A connection that has just begun: it has nothing to tell: the contract of conn.Flush. -/
namespace Go.Proofs.YtbcagdjfegobnaaGreat
open Go.ChangeShapes Go.WideShapes Go.ChangeAt Go.RowKit
set_option linter.unusedVariables false

theorem spTell_begun (A : Option Addr) (c : Nat) (B : Option Addr) (d : Nat) (hc : c ≤ 9223372036854775807) (hd : d ≤ 9223372036854775807) (w : World) :
    Calls Tryz.prog 131 #[.agg #[.int .i64 0, .slice none 0 0, .int .i64 (-1), .slice A 0 c, .slice B 0 d]] w fun e w' => e = .returned (.tuple #[.slice none 0 0, .int .i64 0]) ∧ Below w.heap.size w w' := by
  go_enter Tryz.func131, Tryz.ntmps131
  go_upto_region 1 with (fail)
  refine wp_world (fun w' => Blk w' w.heap.size 35 #[.int .i64 0, .slice none 0 0, .int .i64 (-1), .slice A 0 c, .slice B 0 d] ∧ Below w.heap.size w w') ⟨Blk.new _ _ _, (Below.refl _ _).alloc (Nat.le_refl _) _⟩ ?_
  rintro w1 ⟨hS, hb⟩
  have F := hS.c5
  go_wp2_with fail
  refine (spCheck_begun A c B d hc hd _).mono ?_
  rintro e w2 ⟨rfl, hb2⟩
  have hS := hS.carry hb2
  have hb := hb.trans (hb2.mono hb.size)
  clear F hb2
  have F := hS.c5
  go_wp2_with fail
  refine wp_loop_rounds 1 ?_
  rw [rounds_succ]
  go_wp2_with fail
  go_ret2
  exact ⟨rfl, hb⟩

theorem pack_bg0 (cl : Bool) (A : Option Addr) (c : Nat) (B : Option Addr) (d : Nat) (last ids grant : Int) (g : Nat) (w : World) (hE : Blk w g 212 (bg0 cl A c B d last ids grant)) :
    Calls Tryz.prog 133 #[.pointer (some ⟨g, 0, none⟩), .slice none 0 0] w fun e w' => e = .returned (.slice none 0 0) ∧ w = w' := by
  have f17 : w.cell? ⟨g, 17, none⟩ = some (.slice none 0 0) := by rw [hE.cell]; rfl
  go_enter Tryz.func133, Tryz.ntmps133
  go_wp2_with fail
  refine wp_loop_rounds 1 ?_
  rw [rounds_succ]
  go_wp2_with fail
  go_ret
  exact ⟨rfl, rfl⟩

set_option maxRecDepth 100000 in
set_option maxHeartbeats 4000000 in
theorem connFlush_bg0 (cl : Bool) (A : Option Addr) (c : Nat) (B : Option Addr) (d : Nat) (last ids grant : Int) (hig : ids = 4 ∧ grant = 0 ∨ ids = 0 ∧ grant = 4) (hc : c ≤ 9223372036854775807) (hd : d ≤ 9223372036854775807) (h0 : 0 ≤ last) (h1 : last ≤ 1099511627776) (now : Int) (n0 : 0 ≤ now) (n1 : now ≤ 1099511627776) (w : World) :
    Calls Tryz.prog 104 #[.agg (bg0 cl A c B d last ids grant), .int .i64 now] w fun e w' => ∃ A' B', e = .returned (.tuple #[.agg (bg0 cl A' 0 B' 0 last ids grant), .int .i64 0, .slice none 0 0, .int .i64 0]) ∧ Below w.heap.size w w' := by
  go_enter Tryz.func104, Tryz.ntmps104
  go_upto_region 1 with (fail)
  refine wp_world (fun w' => Blk w' w.heap.size 43 (bg0 cl A c B d last ids grant) ∧ (∃ z, z.size = 24 ∧ Blk w' (w.heap.size + 1) 43 z) ∧ Below w.heap.size w w') ⟨(Blk.new _ _ _).alloc _, ⟨_, rfl, Blk.new1 _ _ _ _⟩, ((Below.refl _ _).alloc (Nat.le_refl _) _).alloc (by simp) _⟩ ?_
  rintro w1 ⟨hS, ⟨z, hz, hZ⟩, hb⟩
  go_wp2_with (refine wpList_loadR rfl 43 (.tmp 2) rfl w.heap.size 0 rfl (bg0 cl A c B d last ids grant) _ Tryz.underlying43 rfl (by kernel_rfl) hS.whole ?_)
  refine (connCheck_bg0 cl A c B d last ids grant hig hc hd h0 h1 _).mono ?_
  rintro e w2 ⟨rfl, hb2⟩
  have hS := hS.carry hb2
  have hZ := hZ.carry hb2
  have hb := hb.trans (hb2.mono hb.size)
  clear hb2
  go_wp2_with (refine wpList_loadR rfl 43 (.tmp 2) rfl w.heap.size 0 rfl (bg0 cl A c B d last ids grant) _ Tryz.underlying43 rfl (by kernel_rfl) hS.whole ?_)
  refine (connFresh_bg0 cl A c B d last ids grant _).mono ?_
  rintro e w3 ⟨A', B', rfl, hb3⟩
  have hZ := hZ.carry hb3
  have hb := hb.trans (hb3.mono hb.size)
  clear hb3 hS
  unfold bg0
  go_upto_region 7 with (fail)
  obtain ⟨g, hg⟩ : ∃ q, w3.heap.size = q := ⟨_, rfl⟩
  refine wp_world (fun w' => Blk w' g 212 (bg0 cl A' 0 B' 0 last ids grant) ∧ Blk w' (w.heap.size + 1) 43 z ∧ Below w.heap.size w w') ⟨Blk.newF hg, hZ.alloc _, hb.alloc hb.size _⟩ ?_
  try rw [hg]
  have hgl : w.heap.size + 1 < g := by have := hZ.lt; omega
  clear hg hZ hb
  rintro w4 ⟨hE, hZ, hb⟩
  have HF : ∀ W, Blk W g 212 (bg0 cl A' 0 B' 0 last ids grant) → _ := fun W h => Blk.c24 (by unfold bg0 at h; exact h)
  have HF := Lib.hid HF
  have F := HF.out _ hE
  go_wp2_with fail
  refine (spTell_begun A' 0 B' 0 (by decide) (by decide) _).mono ?_
  rintro e w5 ⟨rfl, hb5⟩
  have hE := hE.carry hb5
  have hZ := hZ.carry hb5
  have hb := hb.trans (hb5.mono hb.size)
  clear hb5 F
  have F := HF.out _ hE
  go_wp2_with (refine wpList_loadR rfl 43 (.tmp 77) rfl g 0 rfl (bg0 cl A' 0 B' 0 last ids grant) _ Tryz.underlying43 rfl (by kernel_rfl) hE.whole ?_)
  refine (connFresh_bg0 cl A' 0 B' 0 last ids grant _).mono ?_
  rintro e w6 ⟨A2, B2, rfl, hb6⟩
  have hE := hE.carry hb6
  have hZ := hZ.carry hb6
  have hb := hb.trans (hb6.mono hb.size)
  clear hb6 F
  unfold bg0
  go_upto_region 14 with (fail)
  obtain ⟨g2, hg2⟩ : ∃ q, w6.heap.size = q := ⟨_, rfl⟩
  have hlt := hE.lt
  refine wp_world (fun w' => Blk w' g2 212 (bg0 cl A2 0 B2 0 last ids grant) ∧ Blk w' g 212 (bg0 cl A' 0 B' 0 last ids grant) ∧ Blk w' (w.heap.size + 1) 43 z ∧ Below w.heap.size w w') ⟨Blk.newF hg2, hE.alloc _, hZ.alloc _, hb.alloc hb.size _⟩ ?_
  try rw [hg2]
  clear hg2 hZ hb hE hlt
  rintro w7 ⟨hE2, hE, hZ, hb⟩
  go_wp2_with fail
  refine (cframes_nil _).mono ?_
  rintro e w' ⟨rfl, rfl⟩
  have HQ : Hid (∀ W, Below w7.heap.size w7 W → W.cell? ⟨g2, 19, none⟩ = some (.slice none 0 0)) := Lib.hid fun W hW => by rw [(hE2.carry hW).cell]; rfl
  go_wp2_with fail
  refine wp_loop_rounds 1 ?_
  rw [rounds_succ]
  go_upto_region 15 with (fail)
  refine wp_region_quiet (C := fun w' => Below (w7).heap.size (w7) w') (by kernel_rfl) (by kernel_rfl) (Below.refl _ _).drew ?_
  repeat (
    with_reducible refine wpQuiet_step ?_
    intro K hK
    go_simp
    first
      | (refine hK _ ?_; clear hK K)
      | (apply Exists.intro
         refine ⟨fun w' hw' => ?_, hK _ ?_⟩
         first
           | (fail)
           | (have FF := HQ.out w' hw'; go_simp; done)
           | (have FF := HQ.out w' hw'; go_simp; exact rfl)
         clear hK K))
  
  refine wpQuiet_nil ?_
  intro wq hwq
  have hE2 := hE2.carry hwq
  have hE := hE.carry hwq
  have hZ := hZ.carry hwq
  have hb := hb.trans (hwq.mono hb.size)
  clear hwq HQ
  go_wp2_with fail
  refine (pack_bg0 cl A2 0 B2 0 last ids grant g2 _ hE2).mono ?_
  rintro e w' ⟨rfl, rfl⟩
  go_wp2_with (first
    | refine wpList_loadR rfl 43 (.tmp 196) rfl g 0 rfl (bg0 cl A' 0 B' 0 last ids grant) _ Tryz.underlying43 rfl (by kernel_rfl) hE.whole ?_
    | (refine wpList_storeP rfl 43 (.tmp 4) (.tmp 197) rfl (w.heap.size + 1) 0 rfl (bg0 cl A' 0 B' 0 last ids grant) rfl 43 _ hZ (by kernel_rfl) (by simp [bg0, hz]) (bg0_one _ _ _ _ _ _ _ _) _ (splice_all _ _ (by simp [bg0, hz])) ?_
       intro w8 hB8 hw8))
  exact bodyPost_ret (results_c4 _ _ (w.heap.size + 1) _ (bg0 cl A' 0 B' 0 last ids grant) _ Tryz.results104 rfl hB8 Tryz.underlying43 rfl (by kernel_rfl) rfl rfl rfl) rfl ⟨A', B', rfl, hw8.trans_below hb (by omega)⟩
end Go.Proofs.YtbcagdjfegobnaaGreat
