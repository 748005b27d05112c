/- The contracts of gather.Put and Take, at two bytes, and of gatherTells. -/
import Derived.Test.YtolhlgalhhdkmabGatherOneWalk
namespace Go.Proofs.Ytolhlgalhhdkmab
open Go.ChangeShapes Go.WideShapes Go.ChangeAt Go.RowKit
set_option linter.unusedVariables false

theorem below_set1 {B : Nat} {a w : World} (h : Below B a w) {g : Nat} (hg : B ≤ g) (u : Value) : Below B a (w.setCell ⟨g, 0, none⟩ u) := h.setCell hg u

set_option maxRecDepth 100000 in
set_option maxHeartbeats 2000000 in
theorem gPut_two (win : Int) (gD d : Nat) (bs : List UInt8) (hbs : bs.length = 2) (h1 : 2 ≤ win) (h2 : win ≤ 4611686018427387903) (hd2 : 2 ≤ d) (hdm : d ≤ 9223372036854775807) (w : World) (hgD : gD < w.heap.size) (hD : RdB w (some ⟨gD, 0, none⟩) bs) :
    Calls Try.prog 25 #[.agg #[.int .i64 0, .slice none 0 0, .int .i64 (-1), .int .i64 win], .int .i64 0, .slice (some ⟨gD, 0, none⟩) 2 d, .bool true] w fun e w' => ∃ A c D' d', e = .returned (.tuple #[.agg #[.int .i64 0, .slice A 1 c, .int .i64 2, .int .i64 win], .int .i64 0]) ∧ One w' w.heap.size A c (0, D', 2, d') ∧ w'.ownsRow w.heap.size 5 1 (.slice D' 2 d') 2 (u8s bs) ∧ 2 ≤ d' ∧ d' ≤ 9223372036854775807 ∧ 1 ≤ c ∧ c ≤ 9223372036854775807 ∧ Below w.heap.size w w' := by
  have HBS := Lib.hid hbs
  have HD0 := Lib.hid hD
  clear hbs hD
  go_enter Try.func25, Try.ntmps25
  go_upto_region 1 with (fail)
  refine wp_world (fun w' => Blk w' w.heap.size 47 #[.int .i64 0, .slice none 0 0, .int .i64 (-1), .int .i64 win] ∧ Blk w' (w.heap.size + 1) 3 #[.int .i64 0] ∧ Blk w' (w.heap.size + 1 + 1) 43 #[.slice (some ⟨gD, 0, none⟩) 2 d] ∧ Blk w' (w.heap.size + 1 + 1 + 1) 47 #[.int .i64 0, .slice none 0 0, .int .i64 0, .int .i64 0] ∧ Below w.heap.size w w')
    ⟨(((Blk.new _ _ _).alloc _).alloc _).alloc _, ((Blk.new1 _ _ _ _).alloc _).alloc _, (Blk.new2 _ _ _ _ _).alloc _, Blk.new3 _ _ _ _ _ _, ((((Below.refl _ _).alloc (Nat.le_refl _) _).alloc (by simp) _).alloc (by simp; omega) _).alloc (by simp; omega) _⟩ ?_
  rintro w0 ⟨hG, hO, hD, hZ, hb0⟩
  have FG := hG.facts4
  go_wp2_with fail
  refine (gCheck_none (-1) win (by omega) (by omega) (by omega) _).mono ?_
  rintro e w1 ⟨rfl, hb1⟩
  have hG := hG.carry hb1
  have hO := hO.carry hb1
  have hD := hD.carry hb1
  have hZ := hZ.carry hb1
  have hb := hb0.trans (hb1.mono hb0.size)
  clear FG hb1 hb0
  have FG := hG.facts4
  have FO := hO.facts1
  have FD := hD.facts1
  have FZ := hZ.facts4
  go_wp2_with fail
  refine (gEnd_none (-1) win _).mono ?_
  rintro e w2 ⟨rfl, hb2⟩
  have hG := hG.carry hb2
  have hO := hO.carry hb2
  have hD := hD.carry hb2
  have hZ := hZ.carry hb2
  have hb := hb.trans (hb2.mono hb.size)
  clear FG FO FD FZ hb2
  have FG := hG.facts4
  have FO := hO.facts1
  have FD := hD.facts1
  have FZ := hZ.facts4
  go_wp2_with fail
  refine wp_world (fun w' => Blk w' w.heap.size 47 #[.int .i64 0, .slice none 0 0, .int .i64 (-1), .int .i64 win] ∧ Blk w' (w.heap.size + 1) 3 #[.int .i64 0] ∧ Blk w' (w.heap.size + 1 + 1) 43 #[.slice (some ⟨gD, 0, none⟩) 2 d] ∧ Blk w' w2.heap.size 45 #[.slice none 0 0] ∧ Blk w' (w2.heap.size + 1) 3 #[.int .i64 0] ∧ Blk w' (w.heap.size + 1 + 1 + 1) 47 #[.int .i64 0, .slice none 0 0, .int .i64 0, .int .i64 0] ∧ Below w.heap.size w w')
    ⟨(hG.alloc _).alloc _, (hO.alloc _).alloc _, (hD.alloc _).alloc _, (Blk.new _ _ _).alloc _, Blk.new1 _ _ _ _, (hZ.alloc _).alloc _, (hb.alloc hb.size _).alloc (by have := hb.size; simp; omega) _⟩ ?_
  have hg2 := hZ.lt
  clear FG FO FD FZ hG hO hD hZ hb
  rintro w3 ⟨hG, hO, hD, hL, hT, hZ, hb⟩
  have FG := hG.facts4
  have FL := hL.facts1
  have FT := hT.facts1
  have FZ := hZ.facts4
  refine wp_loop_rounds 1 ?_
  rw [rounds_succ]
  go_wp2_with fail
  refine (gPiece_two (w2.heap.size + 1) w2.heap.size (w.heap.size + 1 + 1) (w.heap.size + 1) d ⟨gD, 0, none⟩ w3 hd2 hdm hT hL hD hO (by omega) (by omega) (by omega)).mono ?_
  rintro e w4 ⟨A4, c4, rfl, hL4, hOne4, wm, hbm, hwm⟩
  have hD3 := HD0.out.below hb
  have hDm := hD3.below hbm
  have hD4 : Rd w4 1 (some ⟨gD, 0, none⟩) bs.length (u8s bs) := by
    rw [hwm]; exact Rd.farc hDm (by simp; omega) _
  have hG4 : Blk w4 w.heap.size 47 #[.int .i64 0, .slice none 0 0, .int .i64 (-1), .int .i64 win] := by
    rw [hwm]; exact (hG.carry hbm).far (by simp; omega) _
  have hZ4 : Blk w4 (w.heap.size + 1 + 1 + 1) 47 #[.int .i64 0, .slice none 0 0, .int .i64 0, .int .i64 0] := by
    rw [hwm]; exact (hZ.carry hbm).far (by simp; omega) _
  have hb4 : Below w.heap.size w w4 := by
    rw [hwm]; exact below_set1 (hb.trans (hbm.mono hb.size)) (by omega) _
  obtain ⟨gA, rfl, hgA, hgA4, hcA0, hcA1⟩ := hOne4.at_
  clear hwm hbm hDm hD3 hL hT hD hO hG hZ hb FG FL FT FZ
  have FL := hL4.facts1
  have FG := hG4.facts4
  have FZ := hZ4.facts4
  have hc4 := (own_cap hOne4)
  go_wp2_with fail
  refine (gMerged_one gA 0 c4 0 (some ⟨gD, 0, none⟩) 2 d bs HBS.out w4 hc4.1 hc4.2 (by decide) hcA0 hcA1 hD4).mono ?_
  rintro e w5 ⟨A5, c5, D5, d5, rfl, hOne5, hD5, hd5, hdm5, hc5, hcm5, hb5⟩
  have hG5 := hG4.carry hb5
  have hZ5 := hZ4.carry hb5
  have hbz := hb4.trans (hb5.mono hb4.size)
  have hz4 := hb4.size
  have hg4 := hZ4.lt
  clear FL FG FZ hL4 hOne4 hcA0 hcA1 hD4 hG4 hZ4 hb4 hb5
  have FG := hG5.facts4
  have HOne := Lib.hid hOne5
  have HD5 := Lib.hid hD5
  clear hOne5 hD5
  go_upto_region 33 with (fail)
  refine wp_world (fun w' => Blk w' w.heap.size 47 #[.int .i64 0, .slice A5 1 c5, .int .i64 2, .int .i64 win] ∧ Blk w' (w.heap.size + 1 + 1 + 1) 47 #[.int .i64 0, .slice none 0 0, .int .i64 0, .int .i64 0] ∧ w'.ownsRow w4.heap.size 68 2 (.slice A5 1 c5) 1 (pcells (0, D5, 2, d5)) ∧ w'.ownsRow w4.heap.size 5 1 (.slice D5 2 d5) 2 (u8s bs) ∧ Below w.heap.size w w')
    ⟨by (apply Blk.as; (case h => (repeat (first | with_reducible exact hG5 | with_reducible apply Blk.drew | with_reducible apply Blk.set4 | with_reducible apply Blk.set_ | (with_reducible apply Blk.far4 (hne := ?side); case side => (first | omega | (simp; omega) | (simp; done))) | (with_reducible apply Blk.far (hp := ?side); case side => (first | omega | (simp; omega) | (simp; done))) | with_reducible apply Blk.alloc))); (case e => (first | with_reducible rfl | (simp; done) | rfl))), by (apply Blk.as; (case h => (repeat (first | with_reducible exact hZ5 | with_reducible apply Blk.drew | with_reducible apply Blk.set4 | with_reducible apply Blk.set_ | (with_reducible apply Blk.far4 (hne := ?side); case side => (first | omega | (simp; omega) | (simp; done))) | (with_reducible apply Blk.far (hp := ?side); case side => (first | omega | (simp; omega) | (simp; done))) | with_reducible apply Blk.alloc))); (case e => (first | with_reducible rfl | (simp; done) | rfl))), ownsRow_setCell_below (ownsRow_setCell_below HOne.out (by simp; omega) _) (by simp; omega) _, ownsRow_setCell_below (ownsRow_setCell_below HD5.out (by simp; omega) _) (by simp; omega) _, by (repeat (first | with_reducible exact hbz | with_reducible refine Below.drew ?_ | (with_reducible refine Below.set4 ?_ ?side _ _ _ _; case side => (first | omega | (simp; omega) | (simp; done))) | (with_reducible refine Below.setCell ?_ ?side _; case side => (first | omega | (simp; omega) | (simp; done))) | (with_reducible refine Below.alloc ?_ ?side _; case side => (first | omega | (simp; omega) | (simp; done)))))⟩ ?_
  clear FG HOne HD5 hG5 hZ5 hbz
  rintro w6 ⟨hG, hZ, hOne, hD6, hb⟩
  have FG := hG.facts4
  have FZ := hZ.facts4
  have HOne := Lib.hid hOne
  have HD6 := Lib.hid hD6
  clear hOne hD6
  go_wp2_with fail
  refine bodyPost_ret (v := .tuple #[.agg #[.int .i64 0, .slice A5 1 c5, .int .i64 2, .int .i64 win], .int .i64 0]) ?_ rfl ⟨A5, c5, D5, d5, rfl, own_mono (?_ : World.ownsRow _ w4.heap.size _ _ _ _ _) hz4, own_mono (?_ : World.ownsRow _ w4.heap.size _ _ _ _ _) hz4, hd5, hdm5, hc5, hcm5, ?_⟩
  · simp [results, Try.results25, go_sem, FZ] <;> rfl
  · (repeat (first | with_reducible exact HOne.out | with_reducible refine World.ownsRow.drew ?_ | (with_reducible refine ownsRow_setCell_below ?_ ?side _; case side => (first | omega | (simp; omega) | (simp; done))) | with_reducible refine World.ownsRow.alloc ?_ _))
  · (repeat (first | with_reducible exact HD6.out | with_reducible refine World.ownsRow.drew ?_ | (with_reducible refine ownsRow_setCell_below ?_ ?side _; case side => (first | omega | (simp; omega) | (simp; done))) | with_reducible refine World.ownsRow.alloc ?_ _))
  · (repeat (first | with_reducible exact hb | with_reducible refine Below.drew ?_ | (with_reducible refine Below.set4 ?_ ?side _ _ _ _; case side => (first | omega | (simp; omega) | (simp; done))) | (with_reducible refine Below.setCell ?_ ?side _; case side => (first | omega | (simp; omega) | (simp; done))) | (with_reducible refine Below.alloc ?_ ?side _; case side => (first | omega | (simp; omega) | (simp; done)))))

set_option maxRecDepth 100000 in
set_option maxHeartbeats 2000000 in
theorem gTake_two (win : Int) (b c d : Nat) (D : Option Addr) (bs : List UInt8) (hbs : bs.length = 2) (h1 : 2 ≤ win) (h2 : win ≤ 4611686018427387903) (w : World) (hc : 1 ≤ c) (hm : c ≤ 9223372036854775807) (h0 : w.cell? ⟨b, 0, none⟩ = some (.int .i64 0)) (h3 : w.cell? ⟨b, 1, none⟩ = some (.slice D 2 d)) (hD : RdB w D bs) :
    Calls Try.prog 27 #[.agg #[.int .i64 0, .slice (some ⟨b, 0, none⟩) 1 c, .int .i64 2, .int .i64 win]] w fun e w' => ∃ A' c' D' d', e = .returned (.tuple #[.agg #[.int .i64 2, .slice A' 0 c', .int .i64 2, .int .i64 win], .slice D' 2 d', .bool true, .int .i64 0]) ∧ RdB w' D' bs ∧ 2 ≤ d' ∧ d' ≤ 9223372036854775807 ∧ Below w.heap.size w w' := by
  have HBS := Lib.hid hbs
  have hg := World.block_lt_of_cell? w _ h0
  have HD0 := Lib.hid hD
  clear hbs hD
  go_enter Try.func27, Try.ntmps27
  go_upto_region 1 with (fail)
  refine wp_world (fun w' => Blk w' w.heap.size 47 #[.int .i64 0, .slice (some ⟨b, 0, none⟩) 1 c, .int .i64 2, .int .i64 win] ∧ Blk w' (w.heap.size + 1) 47 #[.int .i64 0, .slice none 0 0, .int .i64 0, .int .i64 0] ∧ w'.cell? ⟨b, 0, none⟩ = some (.int .i64 0) ∧ w'.cell? ⟨b, 1, none⟩ = some (.slice D 2 d) ∧ RdB w' D bs ∧ Below w.heap.size w w')
    ⟨(Blk.new _ _ _).alloc _, Blk.new1 _ _ _ _, by go_simp, by go_simp, Rd.alloc (Rd.alloc HD0.out _) _, ((Below.refl _ _).alloc (Nat.le_refl _) _).alloc (by simp) _⟩ ?_
  clear h0 h3 HD0
  rintro w1 ⟨hG, hZ, h0, h3, hD, hb⟩
  have FG := hG.facts4
  have HD := Lib.hid hD
  clear hD
  go_wp2_with fail
  refine (gCheck_two b c d D 2 win (by decide) h1 h2 w1 hc hm h0 h3).mono ?_
  rintro e w2 ⟨rfl, hb2⟩
  have hG := hG.carry hb2
  have hZ := hZ.carry hb2
  have h0 := cell_keep hb2 h0
  have h3 := cell_keep hb2 h3
  have HD := Lib.hid (HD.out.below hb2)
  have hb := hb.trans (hb2.mono hb.size)
  clear FG hb2
  have FG := hG.facts4
  have hz12 := hZ.lt
  go_wp2_with fail
  refine (gMerged_one b 0 c 0 D 2 d bs HBS.out w2 hc hm (by decide) h0 h3 HD.out).mono ?_
  rintro e w3 ⟨A3, c3, D3, d3, rfl, hOne, hD3, hd3, hdm3, hc3, hcm3, hb3⟩
  have hG := hG.carry hb3
  have hZ := hZ.carry hb3
  have hb := hb.trans (hb3.mono hb.size)
  obtain ⟨gA, rfl, hgA, hgA3, hcA0, hcA1⟩ := hOne.at_
  clear FG HD h0 h3 hb3 hOne
  have FG := hG.facts4
  have HD3 := Lib.hid hD3
  clear hD3
  have hneA : gA ≠ w.heap.size := by omega
  go_upto_region 6 with (fail)
  refine wp_world (fun w' => Blk w' w.heap.size 47 #[.int .i64 0, .slice (some ⟨gA, 0, none⟩) 1 c3, .int .i64 2, .int .i64 win] ∧ Blk w' (w.heap.size + 1) 47 #[.int .i64 0, .slice none 0 0, .int .i64 0, .int .i64 0] ∧ w'.cell? ⟨gA, 0, none⟩ = some (.int .i64 0) ∧ w'.cell? ⟨gA, 1, none⟩ = some (.slice D3 2 d3) ∧ w'.ownsRow w2.heap.size 5 1 (.slice D3 2 d3) 2 (u8s bs) ∧ Below w.heap.size w w')
    ⟨by (apply Blk.as; (case h => (repeat (first | with_reducible exact hG | with_reducible apply Blk.drew | with_reducible apply Blk.set4 | with_reducible apply Blk.set_ | (with_reducible apply Blk.far4 (hne := ?side); case side => (first | omega | (simp; omega) | (simp; done))) | (with_reducible apply Blk.far (hp := ?side); case side => (first | omega | (simp; omega) | (simp; done))) | with_reducible apply Blk.alloc))); (case e => (first | with_reducible rfl | (simp; done) | rfl))), by (apply Blk.as; (case h => (repeat (first | with_reducible exact hZ | with_reducible apply Blk.drew | with_reducible apply Blk.set4 | with_reducible apply Blk.set_ | (with_reducible apply Blk.far4 (hne := ?side); case side => (first | omega | (simp; omega) | (simp; done))) | (with_reducible apply Blk.far (hp := ?side); case side => (first | omega | (simp; omega) | (simp; done))) | with_reducible apply Blk.alloc))); (case e => (first | with_reducible rfl | (simp; done) | rfl))), (World.cell?_setCell_far _ _ _ _ (by simp; omega)).trans hcA0, (World.cell?_setCell_far _ _ _ _ (by simp; omega)).trans hcA1, ownsRow_setCell_below HD3.out (by simp; omega) _, by (repeat (first | with_reducible exact hb | with_reducible refine Below.drew ?_ | (with_reducible refine Below.set4 ?_ ?side _ _ _ _; case side => (first | omega | (simp; omega) | (simp; done))) | (with_reducible refine Below.setCell ?_ ?side _; case side => (first | omega | (simp; omega) | (simp; done))) | (with_reducible refine Below.alloc ?_ ?side _; case side => (first | omega | (simp; omega) | (simp; done)))))⟩ ?_
  clear FG HD3 hG hZ hb hcA0 hcA1
  rintro w4 ⟨hG, hZ, hcA0, hcA1, hD4, hb⟩
  have FG := hG.facts4
  have HD4 := Lib.hid hD4
  have HZ := Lib.hid hZ
  have HG := Lib.hid hG
  have HB := Lib.hid hb
  clear hD4 hZ hG hb
  have h000 : ((0 : Int) == 0) = true := rfl
  go_quiet (fail)
  go_upto_region 7 with (fail)
  refine wp_world (fun w' => Blk w' w.heap.size 47 #[.int .i64 0, .slice (some ⟨gA, 0, none⟩) 1 c3, .int .i64 2, .int .i64 win] ∧ Blk w' (w.heap.size + 1) 47 #[.int .i64 0, .slice none 0 0, .int .i64 0, .int .i64 0] ∧ w'.cell? ⟨gA, 0, none⟩ = some (.int .i64 0) ∧ w'.cell? ⟨gA, 1, none⟩ = some (.slice D3 2 d3) ∧ w'.ownsRow w2.heap.size 5 1 (.slice D3 2 d3) 2 (u8s bs) ∧ Below w.heap.size w w')
    ⟨HG.out.drewN _, HZ.out.drewN _, hcA0, hcA1, HD4.out, ⟨HB.out.os, HB.out.tape, HB.out.output, HB.out.size, HB.out.block⟩⟩ ?_
  clear FG HD4 HG HZ HB hcA0 hcA1
  rintro w7 ⟨hG, hZ, hcA0, hcA1, hD4, hb⟩
  have FG := hG.facts4
  have HD4 := Lib.hid hD4
  have HZ := Lib.hid hZ
  have HG := Lib.hid hG
  have HB := Lib.hid hb
  clear hD4 hZ hG hb
  rcases (show c3 = 1 ∨ ¬ c3 = 1 by omega) with rfl | hc31
  all_goals
    go_upto_region 10 with (fail)
    refine wp_world (fun w' => ∃ A6 c6, Blk w' w.heap.size 47 #[.int .i64 2, .slice A6 0 c6, .int .i64 2, .int .i64 win] ∧ Blk w' (w.heap.size + 1) 47 #[.int .i64 0, .slice none 0 0, .int .i64 0, .int .i64 0] ∧ w'.ownsRow w2.heap.size 5 1 (.slice D3 2 d3) 2 (u8s bs) ∧ Below w.heap.size w w') ?_ ?_
    · have hG := HG.out
      have hZ := HZ.out
      have hb := HB.out
      apply Exists.intro
      apply Exists.intro
      refine ⟨?_, ?_, ?_, ?_⟩
      · (apply Blk.as; (case h => (repeat (first | with_reducible exact hG | with_reducible apply Blk.drew | with_reducible apply Blk.set4 | with_reducible apply Blk.set_ | (with_reducible apply Blk.far4 (hne := ?side); case side => (first | omega | (simp; omega) | (simp; done))) | (with_reducible apply Blk.far (hp := ?side); case side => (first | omega | (simp; omega) | (simp; done))) | with_reducible apply Blk.alloc))); (case e => (first | with_reducible rfl | (simp; done) | rfl)))
      · (apply Blk.as; (case h => (repeat (first | with_reducible exact hZ | with_reducible apply Blk.drew | with_reducible apply Blk.set4 | with_reducible apply Blk.set_ | (with_reducible apply Blk.far4 (hne := ?side); case side => (first | omega | (simp; omega) | (simp; done))) | (with_reducible apply Blk.far (hp := ?side); case side => (first | omega | (simp; omega) | (simp; done))) | with_reducible apply Blk.alloc))); (case e => (first | with_reducible rfl | (simp; done) | rfl)))
      · (repeat (first | with_reducible exact HD4.out | with_reducible refine World.ownsRow.drew ?_ | (with_reducible refine ownsRow_setCell_below ?_ ?side _; case side => (first | omega | (simp; omega) | (simp; done))) | with_reducible refine World.ownsRow.alloc ?_ _))
      · (repeat (first | with_reducible exact hb | with_reducible refine Below.drew ?_ | (with_reducible refine Below.set4 ?_ ?side _ _ _ _; case side => (first | omega | (simp; omega) | (simp; done))) | (with_reducible refine Below.setCell ?_ ?side _; case side => (first | omega | (simp; omega) | (simp; done))) | (with_reducible refine Below.alloc ?_ ?side _; case side => (first | omega | (simp; omega) | (simp; done)))))
    · rintro w5 ⟨A6, c6, hG, hZ, hD, hb⟩
      have FG := hG.facts4
      have FZ := hZ.facts4
      have HD := Lib.hid hD
      clear hD
      go_region
      all_goals
        go_wp2_with fail
        refine bodyPost_ret (v := .tuple #[.agg #[.int .i64 2, .slice A6 0 c6, .int .i64 2, .int .i64 win], .slice D3 2 d3, .bool true, .int .i64 0]) ?_ rfl ⟨A6, c6, D3, d3, rfl, rd_own1 (base := w2.heap.size) (e := 5) (l := 2) (c := d3) ?_ HBS.out, hd3, hdm3, ?_⟩
        · simp [results, Try.results27, go_sem, FZ] <;> rfl
        · (repeat (first | with_reducible exact HD.out | with_reducible refine World.ownsRow.drew ?_ | (with_reducible refine ownsRow_setCell_below ?_ ?side _; case side => (first | omega | (simp; omega) | (simp; done))) | with_reducible refine World.ownsRow.alloc ?_ _))
        · (repeat (first | with_reducible exact hb | with_reducible refine Below.drew ?_ | (with_reducible refine Below.set4 ?_ ?side _ _ _ _; case side => (first | omega | (simp; omega) | (simp; done))) | (with_reducible refine Below.setCell ?_ ?side _; case side => (first | omega | (simp; omega) | (simp; done))) | (with_reducible refine Below.alloc ?_ ?side _; case side => (first | omega | (simp; omega) | (simp; done)))))
end Go.Proofs.Ytolhlgalhhdkmab
