/- The walk of the law GateGreets: who greets has a connection, by a token, if one is asked for; both have the same key. -/
import Derived.Test.YtbcagdjfegobnaaGreatC48
import Derived.Test.YtbcagdjfegobnaaGreatC51
import Derived.Test.YtbcagdjfegobnaaGreatC50
import Derived.Test.YtbcagdjfegobnaaGreatC04
namespace Go.Proofs.YtbcagdjfegobnaaGreat
open Go.ChangeShapes Go.WideShapes Go.ChangeAt Go.RowKit
set_option linter.unusedVariables false

set_option maxRecDepth 100000 in
set_option maxHeartbeats 8000000 in
theorem gateGreets_true (secret peer : Int) (w : World) (hse : (Lit.int .i64 secret).wf = true) (hpe : (Lit.int .i64 peer).wf = true) :
    Calls Tryz.prog 3 #[.int .i64 secret, .bool true, .int .i64 peer] w fun e w' => e = .returned (.bool true) ∧ Below w.heap.size w w' := by
  obtain ⟨v0, v1⟩ := i64_bounds hpe
  have hwr := wrap_range secret
  clear hpe hse
  obtain ⟨p_, HP, p0, p1⟩ := mod_ex peer 4 (by decide)
  obtain ⟨p, rfl⟩ : ∃ p : Nat, p_ = p := ⟨p_.toNat, by omega⟩
  have hp4 : p < 4 := by omega
  have HGR := Lib.hid (fun W => greeted_yes (IntKind.u64.wrap secret) hwr.1 hwr.2 p hp4 W)
  go_enter Tryz.func3, Tryz.ntmps3
  go_wp2_with fail
  refine (picked_at peer 4 p v0 v1 (by decide) (by decide) HP _).mono ?_
  rintro e w' ⟨rfl, rfl⟩
  clear HP
  go_wp2_with fail
  refine (HGR.out _).mono ?_
  rintro e w1 ⟨g2, A2, c2, ys, y2, rfl, hgv, hpl, hs, hnx, hrt, htk, hok, hypl, hb1⟩
  -- [[t1
  obtain ⟨y, rfl, hy⟩ := pl_one hpl
  obtain ⟨b, off, rfl, hcell⟩ := hgv.rd.nt (by simp)
  have hc0 := hcell 0 (by simp)
  simp only [Nat.zero_mul, Nat.add_zero] at hc0
  obtain ⟨KY, hKY⟩ : ∃ KY, sessI 99 (keyI (IntKind.u64.wrap secret) 1) = KY := ⟨_, rfl⟩
  rw [hKY] at hy hypl
  clear hKY
  simp only [NtB.pl, Prod.mk.injEq] at hy
  obtain ⟨y1_, y2_, y3_, y4_, _, _⟩ := hy
  simp only [ClM.pl, Prod.mk.injEq] at hypl
  obtain ⟨x1, x2, x3, x4, x5, x6, x7⟩ := hypl
  have hnt : ∀ (j : Nat) (v : Value), (#[.int .i64 1, .int .i64 7, .int .i64 (p : Nat), .int .u64 KY] : Array Value)[j]? = some v → (nta y)[j]? = some v := by
    intro j v hv
    have hj : j < 4 := (Array.getElem?_eq_some_iff.1 hv).1
    unfold nta
    rw [y1_, y2_, y3_, y4_, Array.getElem?_append_left (by simp; omega)]
    rcases (show j = 0 ∨ j = 1 ∨ j = 2 ∨ j = 3 by omega) with rfl | rfl | rfl | rfl <;> exact hv
  have n0 : w1.cell? ⟨b, off, none⟩ = some (.int .i64 1) := hc0 0 _ (hnt 0 _ rfl)
  have n1 : w1.cell? ⟨b, off + 1, none⟩ = some (.int .i64 7) := hc0 1 _ (hnt 1 _ rfl)
  have n2 : w1.cell? ⟨b, off + 2, none⟩ = some (.int .i64 (p : Nat)) := hc0 2 _ (hnt 2 _ rfl)
  have n3 : w1.cell? ⟨b, off + 3, none⟩ = some (.int .u64 KY) := hc0 3 _ (hnt 3 _ rfl)
  have hbl : b < w1.heap.size := by
    by_cases h : b < w1.heap.size
    · exact h
    · simp [World.cell?, Array.getElem?_eq_none (Nat.le_of_not_lt h)] at n0
  have htn : y2.tn = 16 := by rw [← hok.htn, x7]; exact tokB_length _ _ _
  clear hcell hc0 hpl hs hnx hrt hnt y1_ y2_ y3_ y4_ x7 x1 x4 x6 HGR
  have HGV := Lib.hid hgv
  have HOK := Lib.hid hok
  clear hgv hok
  go_upto_region 3 with (first
    | (refine wpList_storeP rfl 29 (.tmp 8) (.tmp 19) rfl w1.heap.size 0 rfl (gcs g2 (some ⟨b, off, none⟩) 1 c2) rfl 29 _ ((Blk.new _ _ _).alloc _) (by kernel_rfl) (by simp [gcs]) (gcs_one _ _ _ _) _ (splice_all _ _ (by simp [gcs])) ?_
       intro w2 hB2 hw2)
    | (refine wpList_storeP rfl 45 (.tmp 9) (.tmp 20) rfl (w1.heap.size + 1) 0 rfl (clc y2) rfl 45 _ ((Blk.new1 _ _ _ _).wr hw2 (by omega)) (by kernel_rfl) (by simp [clc]) (clc_one _) _ (splice_all _ _ (by simp [clc])) ?_
       intro w3 hB3 hw3))
  have hB2 := hB2.wr hw3 (by omega)
  have hb3 : Below w1.heap.size w1 w3 := hw3.trans_below (hw2.trans_below (((Below.refl _ _).alloc (Nat.le_refl _) _).alloc (by simp) _) (Nat.le_refl _)) (by omega)
  obtain ⟨g8, hg8⟩ : ∃ q, w1.heap.size = q := ⟨_, rfl⟩
  obtain ⟨g9, hg9⟩ : ∃ q, w1.heap.size + 1 = q := ⟨_, rfl⟩
  rw [hg9] at hB3 ⊢
  rw [hg8] at hB2 ⊢
  refine wp_world (fun w' => Blk w' g8 29 (gcs g2 (some ⟨b, off, none⟩) 1 c2) ∧ Blk w' g9 45 (clc y2) ∧ Below w1.heap.size w1 w') ⟨hB2, hB3, hb3⟩ ?_
  clear hB2 hB3 hw2 hw3 hb3 hg8 hg9
  rintro w4 ⟨h1, h2, hb⟩
  have n0 := cell_on hb hbl n0
  have n1 := cell_on hb hbl n1
  have n2 := cell_on hb hbl n2
  have n3 := cell_on hb hbl n3
  have hbl : b < w4.heap.size := by have := hb.size; omega
  have H8 := Lib.hid h1
  have H9 := Lib.hid h2
  have HGV := Lib.hid (HGV.out.below hb)
  have HOK := Lib.hid (HOK.out.below hb)
  have HB := Lib.hid (hb1.trans (hb.mono hb1.size))
  have f3 : w4.cell? ⟨g8, 3, none⟩ = some (.slice (some ⟨b, off, none⟩) 1 c2) := by rw [h1.cell]; rfl
  have m1 : w4.cell? ⟨g9, 1, none⟩ = some (.int .i64 7) := by rw [(clFacts h2).2.2.1, x2]; rfl
  have m3 : w4.cell? ⟨g9, 3, none⟩ = some (.slice y2.T 16 y2.tc) := by rw [(clFacts h2).2.2.2.2.1, htn]
  have m4 : w4.cell? ⟨g9, 4, none⟩ = some (.int .i64 1) := by rw [(clFacts h2).2.2.2.2.2.1, x3]; rfl
  have m5 : w4.cell? ⟨g9, 5, none⟩ = some (.int .u64 KY) := by rw [(clFacts h2).2.2.2.2.2.2.1, x5]
  have ft : w4.cell? ⟨g8, 4 + p * 3, none⟩ = some (.bool true) := by
    have h := tly_part g2 (some ⟨b, off, none⟩) 1 c2 none 0 0 p hp4 0 (.bool (g2.t p).1) rfl
    rw [htk] at h
    rw [h1.cell]
    rcases (show p = 0 ∨ p = 1 ∨ p = 2 ∨ p = 3 by omega) with rfl | rfl | rfl | rfl <;> exact h
  obtain ⟨ys, hys⟩ : ∃ ys, [y] = ys := ⟨_, rfl⟩
  rw [hys] at HGV
  clear h1 h2 hb hb1 x2 x3 x5 htn htk hys
  -- [[t2
  refine wp_flowF (fun k => decide (k < 76)) (fun k => k == 0 || k == 6 || k == 11) 98 [0, 1, 2, 3, 4, 5, 6, 7, 8, 9, 10, 11, 12, 13, 14, 15, 16, 17, 18, 19, 20, 21, 22, 23, 24, 25, 26, 27, 28, 29, 30, 31, 32, 33, 34, 35, 36, 37, 38, 39, 40, 41, 42, 43, 44, 45, 46, 47, 48, 49, 50, 51, 52, 53, 54, 55, 56, 57, 58, 59, 60, 61, 62, 63, 64, 65, 66, 67, 68, 69, 70, 71, 72, 73, 74, 75] (fun w' => Below w4.heap.size w4 w') (fun k a v w' => (k = 0 → v = .bool true) ∧ (k = 6 → v = .int .i64 0) ∧ (k = 11 → v = .int .i64 0)) (by kernel_rfl) ?hflB ?hpuB ?hksB (fun _ _ _ _ _ h => h) rfl ?hst ?hC ?_
  case hflB => kernel_rfl
  case hpuB => kernel_rfl
  case hksB => kernel_rfl
  case hst => exact ⟨fun w0 w1 h1 hb => h1.trans (hb.mono h1.size), fun k a v w0 w1 hW hb => ⟨fun e => (fun hp => hp) (hW.1 e), fun e => (fun hp => hp) (hW.2.1 e), fun e => (fun hp => hp) (hW.2.2 e)⟩, fun k a b v w0 _ h => h⟩
  case hC => exact (Below.refl _ _).drew
  refine fcall 22 17 #[] (by kernel_rfl) (by kernel_rfl) (by kernel_rfl) (by kernel_rfl) (fun w => (by kernel_rfl)) (fun w hw => (gateTells_ok w).mono ?hx0_22) ?_
  case hx0_22 =>
    rintro e w' ⟨rfl, hb⟩
    exact ⟨_, rfl, ⟨fun _ => rfl, fun e => absurd e (by decide), fun e => absurd e (by decide)⟩, hw.1.trans (hb.mono hw.1.size), hb⟩
  rintro v ⟨w', hw', hW⟩
  obtain rfl := hW.1 rfl
  clear  hW hw' w'
  refine fq 23 (.bool true) (by kernel_rfl) (by kernel_rfl) (by kernel_rfl) (by kernel_rfl) (fun w => (by kernel_rfl)) ?_
  refine fq 24 (.bool true) (by kernel_rfl) (by kernel_rfl) (by kernel_rfl) (by kernel_rfl) (fun w => (by kernel_rfl)) ?_
  refine fq 25 (.bool true) (by kernel_rfl) (by kernel_rfl) (by kernel_rfl) (by kernel_rfl) (fun w => (by kernel_rfl)) ?_
  refine fq 26 (.bool true) (by kernel_rfl) (by kernel_rfl) (by kernel_rfl) (by kernel_rfl) (fun w => (by kernel_rfl)) ?_
  refine fqR 27 (gcs g2 (some ⟨b, off, none⟩) 1 c2) 29 (.tmp 8) g8 0 _ (by kernel_rfl) (by kernel_rfl) (by kernel_rfl) (by kernel_rfl) (by kernel_rfl) (by kernel_rfl) Tryz.underlying29 rfl (by kernel_rfl) (fun w hw => (H8.out.carry hw.1).whole) ?_
  refine fcall 28 18 #[.agg (gcs g2 (some ⟨b, off, none⟩) 1 c2)] (by kernel_rfl) (by kernel_rfl) (by kernel_rfl) (by kernel_rfl) (fun w => (by kernel_rfl)) (fun w hw => (gateCheck_ok g2 (some ⟨b, off, none⟩) 1 c2 ys w (HGV.out.below hw.1)).mono ?hx6_28) ?_
  case hx6_28 =>
    rintro e w' ⟨rfl, hb⟩
    exact ⟨_, rfl, ⟨fun e => absurd e (by decide), fun _ => rfl, fun e => absurd e (by decide)⟩, hw.1.trans (hb.mono hw.1.size), hb⟩
  rintro v ⟨w', hw', hW⟩
  obtain rfl := hW.2.1 rfl
  clear  hW hw' w'
  refine fq 29 (.bool true) (by kernel_rfl) (by kernel_rfl) (by kernel_rfl) (by kernel_rfl) (fun w => (by kernel_rfl)) ?_
  refine fq 30 (.bool true) (by kernel_rfl) (by kernel_rfl) (by kernel_rfl) (by kernel_rfl) (fun w => (by kernel_rfl)) ?_
  refine fq 31 (.bool true) (by kernel_rfl) (by kernel_rfl) (by kernel_rfl) (by kernel_rfl) (fun w => (by kernel_rfl)) ?_
  refine fqR 32 (clc y2) 45 (.tmp 9) g9 0 _ (by kernel_rfl) (by kernel_rfl) (by kernel_rfl) (by kernel_rfl) (by kernel_rfl) (by kernel_rfl) Tryz.underlying45 rfl (by kernel_rfl) (fun w hw => (H9.out.carry hw.1).whole) ?_
  refine fcall 33 19 #[.agg (clc y2)] (by kernel_rfl) (by kernel_rfl) (by kernel_rfl) (by kernel_rfl) (fun w => (by kernel_rfl)) (fun w hw => (clCheck_ok y2 w (HOK.out.below hw.1)).mono ?hx11_33) ?_
  case hx11_33 =>
    rintro e w' ⟨rfl, hb⟩
    exact ⟨_, rfl, ⟨fun e => absurd e (by decide), fun e => absurd e (by decide), fun _ => rfl⟩, hw.1.trans (hb.mono hw.1.size), hb⟩
  rintro v ⟨w', hw', hW⟩
  obtain rfl := hW.2.2 rfl
  clear  hW hw' w'
  refine fq 34 (.bool true) (by kernel_rfl) (by kernel_rfl) (by kernel_rfl) (by kernel_rfl) (fun w => (by kernel_rfl)) ?_
  refine fq 35 (.bool true) (by kernel_rfl) (by kernel_rfl) (by kernel_rfl) (by kernel_rfl) (fun w => (by kernel_rfl)) ?_
  refine fq 36 (.bool true) (by kernel_rfl) (by kernel_rfl) (by kernel_rfl) (by kernel_rfl) (fun w => (by kernel_rfl)) ?_
  refine fq 37 (.pointer (some ⟨g8, 3, none⟩)) (by kernel_rfl) (by kernel_rfl) (by kernel_rfl) (by kernel_rfl) (fun w => (by kernel_rfl)) ?_
  refine fq1 38 (.slice (some ⟨b, off, none⟩) 1 c2) 24 (.tmp 37) g8 3 _ (by kernel_rfl) (by kernel_rfl) (by kernel_rfl) (by kernel_rfl) (by kernel_rfl) (by kernel_rfl) Tryz.underlying24 rfl (fun w hw => cell_on hw.1 H8.out.lt f3) ?_
  refine fq 39 (.int .i64 1) (by kernel_rfl) (by kernel_rfl) (by kernel_rfl) (by kernel_rfl) (fun w => (by kernel_rfl)) ?_
  refine fq 40 (.bool true) (by kernel_rfl) (by kernel_rfl) (by kernel_rfl) (by kernel_rfl) (fun w => (by kernel_rfl)) ?_
  refine fq 41 (.bool true) (by kernel_rfl) (by kernel_rfl) (by kernel_rfl) (by kernel_rfl) (fun w => (by kernel_rfl)) ?_
  refine fq 42 (.bool true) (by kernel_rfl) (by kernel_rfl) (by kernel_rfl) (by kernel_rfl) (fun w => (by kernel_rfl)) ?_
  refine fq 43 (.pointer (some ⟨g8, 3, none⟩)) (by kernel_rfl) (by kernel_rfl) (by kernel_rfl) (by kernel_rfl) (fun w => (by kernel_rfl)) ?_
  refine fq1 44 (.slice (some ⟨b, off, none⟩) 1 c2) 24 (.tmp 43) g8 3 _ (by kernel_rfl) (by kernel_rfl) (by kernel_rfl) (by kernel_rfl) (by kernel_rfl) (by kernel_rfl) Tryz.underlying24 rfl (fun w hw => cell_on hw.1 H8.out.lt f3) ?_
  refine fidx 45 24 (.tmp 44) (.const (.int .i64 0)) b off 1 c2 .i64 0 29 off (by kernel_rfl) (by kernel_rfl) (by kernel_rfl) (by kernel_rfl) (by kernel_rfl) (by kernel_rfl) (by kernel_rfl) Tryz.underlying24 (fun w => (by kernel_rfl)) (by decide) (by decide) (by simp) ?_
  refine fq 46 (.pointer (some ⟨b, off + 2, none⟩)) (by kernel_rfl) (by kernel_rfl) (by kernel_rfl) (by kernel_rfl) (fun w => (by kernel_rfl)) ?_
  refine fq1 47 (.int .i64 (p : Nat)) 3 (.tmp 46) b (off + 2) _ (by kernel_rfl) (by kernel_rfl) (by kernel_rfl) (by kernel_rfl) (by kernel_rfl) (by kernel_rfl) Tryz.underlying3 rfl (fun w hw => cell_on hw.1 hbl n2) ?_
  refine fq 48 (.int .i64 (p : Nat)) (by kernel_rfl) (by kernel_rfl) (by kernel_rfl) (by kernel_rfl) (fun w => (by kernel_rfl)) ?_
  refine fqe 49 (.bool (decide (((p : Nat) : Int) = ((p : Nat) : Int)))) (.bool true) (by simp) (by kernel_rfl) (by kernel_rfl) (by kernel_rfl) (by kernel_rfl) (fun w => (by kernel_rfl)) ?_
  refine fq 50 (.bool true) (by kernel_rfl) (by kernel_rfl) (by kernel_rfl) (by kernel_rfl) (fun w => (by kernel_rfl)) ?_
  refine fq 51 (.bool true) (by kernel_rfl) (by kernel_rfl) (by kernel_rfl) (by kernel_rfl) (fun w => (by kernel_rfl)) ?_
  refine fq 52 (.pointer (some ⟨g8, 3, none⟩)) (by kernel_rfl) (by kernel_rfl) (by kernel_rfl) (by kernel_rfl) (fun w => (by kernel_rfl)) ?_
  refine fq1 53 (.slice (some ⟨b, off, none⟩) 1 c2) 24 (.tmp 52) g8 3 _ (by kernel_rfl) (by kernel_rfl) (by kernel_rfl) (by kernel_rfl) (by kernel_rfl) (by kernel_rfl) Tryz.underlying24 rfl (fun w hw => cell_on hw.1 H8.out.lt f3) ?_
  refine fidx 54 24 (.tmp 53) (.const (.int .i64 0)) b off 1 c2 .i64 0 29 off (by kernel_rfl) (by kernel_rfl) (by kernel_rfl) (by kernel_rfl) (by kernel_rfl) (by kernel_rfl) (by kernel_rfl) Tryz.underlying24 (fun w => (by kernel_rfl)) (by decide) (by decide) (by simp) ?_
  refine fq 55 (.pointer (some ⟨b, off + 1, none⟩)) (by kernel_rfl) (by kernel_rfl) (by kernel_rfl) (by kernel_rfl) (fun w => (by kernel_rfl)) ?_
  refine fq1 56 (.int .i64 7) 3 (.tmp 55) b (off + 1) _ (by kernel_rfl) (by kernel_rfl) (by kernel_rfl) (by kernel_rfl) (by kernel_rfl) (by kernel_rfl) Tryz.underlying3 rfl (fun w hw => cell_on hw.1 hbl n1) ?_
  refine fq 57 (.pointer (some ⟨g9, 1, none⟩)) (by kernel_rfl) (by kernel_rfl) (by kernel_rfl) (by kernel_rfl) (fun w => (by kernel_rfl)) ?_
  refine fq1 58 (.int .i64 7) 3 (.tmp 57) g9 1 _ (by kernel_rfl) (by kernel_rfl) (by kernel_rfl) (by kernel_rfl) (by kernel_rfl) (by kernel_rfl) Tryz.underlying3 rfl (fun w hw => cell_on hw.1 H9.out.lt m1) ?_
  refine fq 59 (.bool true) (by kernel_rfl) (by kernel_rfl) (by kernel_rfl) (by kernel_rfl) (fun w => (by kernel_rfl)) ?_
  refine fq 60 (.bool true) (by kernel_rfl) (by kernel_rfl) (by kernel_rfl) (by kernel_rfl) (fun w => (by kernel_rfl)) ?_
  refine fq 61 (.bool true) (by kernel_rfl) (by kernel_rfl) (by kernel_rfl) (by kernel_rfl) (fun w => (by kernel_rfl)) ?_
  refine fq 62 (.pointer (some ⟨g8, 3, none⟩)) (by kernel_rfl) (by kernel_rfl) (by kernel_rfl) (by kernel_rfl) (fun w => (by kernel_rfl)) ?_
  refine fq1 63 (.slice (some ⟨b, off, none⟩) 1 c2) 24 (.tmp 62) g8 3 _ (by kernel_rfl) (by kernel_rfl) (by kernel_rfl) (by kernel_rfl) (by kernel_rfl) (by kernel_rfl) Tryz.underlying24 rfl (fun w hw => cell_on hw.1 H8.out.lt f3) ?_
  refine fidx 64 24 (.tmp 63) (.const (.int .i64 0)) b off 1 c2 .i64 0 29 off (by kernel_rfl) (by kernel_rfl) (by kernel_rfl) (by kernel_rfl) (by kernel_rfl) (by kernel_rfl) (by kernel_rfl) Tryz.underlying24 (fun w => (by kernel_rfl)) (by decide) (by decide) (by simp) ?_
  refine fq 65 (.pointer (some ⟨b, off + 3, none⟩)) (by kernel_rfl) (by kernel_rfl) (by kernel_rfl) (by kernel_rfl) (fun w => (by kernel_rfl)) ?_
  refine fq1 66 (.int .u64 KY) 23 (.tmp 65) b (off + 3) _ (by kernel_rfl) (by kernel_rfl) (by kernel_rfl) (by kernel_rfl) (by kernel_rfl) (by kernel_rfl) Tryz.underlying23 rfl (fun w hw => cell_on hw.1 hbl n3) ?_
  refine fq 67 (.pointer (some ⟨g9, 5, none⟩)) (by kernel_rfl) (by kernel_rfl) (by kernel_rfl) (by kernel_rfl) (fun w => (by kernel_rfl)) ?_
  refine fq1 68 (.int .u64 KY) 23 (.tmp 67) g9 5 _ (by kernel_rfl) (by kernel_rfl) (by kernel_rfl) (by kernel_rfl) (by kernel_rfl) (by kernel_rfl) Tryz.underlying23 rfl (fun w hw => cell_on hw.1 H9.out.lt m5) ?_
  refine fqe 69 (.bool (decide (KY = KY))) (.bool true) (by simp) (by kernel_rfl) (by kernel_rfl) (by kernel_rfl) (by kernel_rfl) (fun w => (by kernel_rfl)) ?_
  refine fq 70 (.bool true) (by kernel_rfl) (by kernel_rfl) (by kernel_rfl) (by kernel_rfl) (fun w => (by kernel_rfl)) ?_
  refine fq 71 (.bool true) (by kernel_rfl) (by kernel_rfl) (by kernel_rfl) (by kernel_rfl) (fun w => (by kernel_rfl)) ?_
  refine fq 72 (.pointer (some ⟨g8, 3, none⟩)) (by kernel_rfl) (by kernel_rfl) (by kernel_rfl) (by kernel_rfl) (fun w => (by kernel_rfl)) ?_
  refine fq1 73 (.slice (some ⟨b, off, none⟩) 1 c2) 24 (.tmp 72) g8 3 _ (by kernel_rfl) (by kernel_rfl) (by kernel_rfl) (by kernel_rfl) (by kernel_rfl) (by kernel_rfl) Tryz.underlying24 rfl (fun w hw => cell_on hw.1 H8.out.lt f3) ?_
  refine fidx 74 24 (.tmp 73) (.const (.int .i64 0)) b off 1 c2 .i64 0 29 off (by kernel_rfl) (by kernel_rfl) (by kernel_rfl) (by kernel_rfl) (by kernel_rfl) (by kernel_rfl) (by kernel_rfl) Tryz.underlying24 (fun w => (by kernel_rfl)) (by decide) (by decide) (by simp) ?_
  refine fq 75 (.pointer (some ⟨b, off, none⟩)) (by kernel_rfl) (by kernel_rfl) (by kernel_rfl) (by kernel_rfl) (fun w => (by kernel_rfl)) ?_
  refine fq1 76 (.int .i64 1) 3 (.tmp 75) b (off) _ (by kernel_rfl) (by kernel_rfl) (by kernel_rfl) (by kernel_rfl) (by kernel_rfl) (by kernel_rfl) Tryz.underlying3 rfl (fun w hw => cell_on hw.1 hbl n0) ?_
  refine fq 77 (.pointer (some ⟨g9, 4, none⟩)) (by kernel_rfl) (by kernel_rfl) (by kernel_rfl) (by kernel_rfl) (fun w => (by kernel_rfl)) ?_
  refine fq1 78 (.int .i64 1) 3 (.tmp 77) g9 4 _ (by kernel_rfl) (by kernel_rfl) (by kernel_rfl) (by kernel_rfl) (by kernel_rfl) (by kernel_rfl) Tryz.underlying3 rfl (fun w hw => cell_on hw.1 H9.out.lt m4) ?_
  refine fq 79 (.bool true) (by kernel_rfl) (by kernel_rfl) (by kernel_rfl) (by kernel_rfl) (fun w => (by kernel_rfl)) ?_
  refine fq 80 (.bool true) (by kernel_rfl) (by kernel_rfl) (by kernel_rfl) (by kernel_rfl) (fun w => (by kernel_rfl)) ?_
  refine fq 81 (.bool true) (by kernel_rfl) (by kernel_rfl) (by kernel_rfl) (by kernel_rfl) (fun w => (by kernel_rfl)) ?_
  refine fq 82 (.int .i64 (p : Nat)) (by kernel_rfl) (by kernel_rfl) (by kernel_rfl) (by kernel_rfl) (fun w => (by kernel_rfl)) ?_
  refine fq 83 (.pointer (some ⟨g8, 4, none⟩)) (by kernel_rfl) (by kernel_rfl) (by kernel_rfl) (by kernel_rfl) (fun w => (by kernel_rfl)) ?_
  refine fidxA 84 27 (.tmp 83) (.tmp 82) g8 4 4 .i64 (p : Nat) 3 (4 + p * 3) (by kernel_rfl) (by kernel_rfl) (by kernel_rfl) (by kernel_rfl) (by kernel_rfl) (by kernel_rfl) (by kernel_rfl) (by kernel_rfl) (fun w => (by kernel_rfl)) (by kernel_rfl) (by omega) (by omega) (by simp) ?_
  refine fq 85 (.pointer (some ⟨g8, 4 + p * 3, none⟩)) (by kernel_rfl) (by kernel_rfl) (by kernel_rfl) (by kernel_rfl) (fun w => (by kernel_rfl)) ?_
  refine fq1 86 (.bool true) 4 (.tmp 85) g8 (4 + p * 3) _ (by kernel_rfl) (by kernel_rfl) (by kernel_rfl) (by kernel_rfl) (by kernel_rfl) (by kernel_rfl) Tryz.underlying4 rfl (fun w hw => cell_on hw.1 H8.out.lt ft) ?_
  refine fq 87 (.bool true) (by kernel_rfl) (by kernel_rfl) (by kernel_rfl) (by kernel_rfl) (fun w => (by kernel_rfl)) ?_
  refine fq 88 (.bool true) (by kernel_rfl) (by kernel_rfl) (by kernel_rfl) (by kernel_rfl) (fun w => (by kernel_rfl)) ?_
  refine fq 89 (.bool true) (by kernel_rfl) (by kernel_rfl) (by kernel_rfl) (by kernel_rfl) (fun w => (by kernel_rfl)) ?_
  refine fq 90 (.bool true) (by kernel_rfl) (by kernel_rfl) (by kernel_rfl) (by kernel_rfl) (fun w => (by kernel_rfl)) ?_
  refine fq 91 (.pointer (some ⟨g9, 3, none⟩)) (by kernel_rfl) (by kernel_rfl) (by kernel_rfl) (by kernel_rfl) (fun w => (by kernel_rfl)) ?_
  refine fq1 92 (.slice y2.T 16 y2.tc) 30 (.tmp 91) g9 3 _ (by kernel_rfl) (by kernel_rfl) (by kernel_rfl) (by kernel_rfl) (by kernel_rfl) (by kernel_rfl) Tryz.underlying30 rfl (fun w hw => cell_on hw.1 H9.out.lt m3) ?_
  refine fq 93 (.int .i64 16) (by kernel_rfl) (by kernel_rfl) (by kernel_rfl) (by kernel_rfl) (fun w => (by kernel_rfl)) ?_
  refine fq 94 (.bool true) (by kernel_rfl) (by kernel_rfl) (by kernel_rfl) (by kernel_rfl) (fun w => (by kernel_rfl)) ?_
  refine fq 95 (.bool true) (by kernel_rfl) (by kernel_rfl) (by kernel_rfl) (by kernel_rfl) (fun w => (by kernel_rfl)) ?_
  refine fq 96 (.bool true) (by kernel_rfl) (by kernel_rfl) (by kernel_rfl) (by kernel_rfl) (fun w => (by kernel_rfl)) ?_
  refine fq 97 (.bool true) (by kernel_rfl) (by kernel_rfl) (by kernel_rfl) (by kernel_rfl) (fun w => (by kernel_rfl)) ?_
  refine fend [76] (by kernel_rfl) (by kernel_rfl) ?_
  intro w5 hw5 _
  refine tval (some 6) (.bool true) w5 (by kernel_rfl) (by kernel_rfl) (by kernel_rfl) ?_
  refine tend ?_
  go_simp
  refine (show ∀ (a : Act) (w : World), Code.wp _ _ _ a w → _ from by assumption) _ _ ?_
  go_wp2_with fail
  go_ret
  exact ⟨rfl, HB.out.trans (hw5.mono HB.out.size)⟩
  -- ]]t2
  -- ]]t1

set_option maxRecDepth 100000 in
set_option maxHeartbeats 8000000 in
theorem gateGreets_false (secret peer : Int) (w : World) (hse : (Lit.int .i64 secret).wf = true) (hpe : (Lit.int .i64 peer).wf = true) :
    Calls Tryz.prog 3 #[.int .i64 secret, .bool false, .int .i64 peer] w fun e w' => e = .returned (.bool true) ∧ Below w.heap.size w w' := by
  obtain ⟨v0, v1⟩ := i64_bounds hpe
  have hwr := wrap_range secret
  clear hpe hse
  obtain ⟨p_, HP, p0, p1⟩ := mod_ex peer 4 (by decide)
  obtain ⟨p, rfl⟩ : ∃ p : Nat, p_ = p := ⟨p_.toNat, by omega⟩
  have hp4 : p < 4 := by omega
  have HGR := Lib.hid (fun W => greeted_no (IntKind.u64.wrap secret) hwr.1 hwr.2 p hp4 W)
  go_enter Tryz.func3, Tryz.ntmps3
  go_wp2_with fail
  refine (picked_at peer 4 p v0 v1 (by decide) (by decide) HP _).mono ?_
  rintro e w' ⟨rfl, rfl⟩
  clear HP
  go_wp2_with fail
  refine (HGR.out _).mono ?_
  rintro e w1 ⟨g2, A2, c2, ys, y2, rfl, hgv, hpl, hs, hnx, hrt, htk, hok, hypl, hb1⟩
  -- [[f1
  obtain ⟨y, rfl, hy⟩ := pl_one hpl
  obtain ⟨b, off, rfl, hcell⟩ := hgv.rd.nt (by simp)
  have hc0 := hcell 0 (by simp)
  simp only [Nat.zero_mul, Nat.add_zero] at hc0
  obtain ⟨KY, hKY⟩ : ∃ KY, sessI 99 (keyI (IntKind.u64.wrap secret) 1) = KY := ⟨_, rfl⟩
  rw [hKY] at hy hypl
  clear hKY
  simp only [NtB.pl, Prod.mk.injEq] at hy
  obtain ⟨y1_, y2_, y3_, y4_, _, _⟩ := hy
  simp only [ClM.pl, Prod.mk.injEq] at hypl
  obtain ⟨x1, x2, x3, x4, x5, x6, x7⟩ := hypl
  have hnt : ∀ (j : Nat) (v : Value), (#[.int .i64 1, .int .i64 7, .int .i64 (p : Nat), .int .u64 KY] : Array Value)[j]? = some v → (nta y)[j]? = some v := by
    intro j v hv
    have hj : j < 4 := (Array.getElem?_eq_some_iff.1 hv).1
    unfold nta
    rw [y1_, y2_, y3_, y4_, Array.getElem?_append_left (by simp; omega)]
    rcases (show j = 0 ∨ j = 1 ∨ j = 2 ∨ j = 3 by omega) with rfl | rfl | rfl | rfl <;> exact hv
  have n0 : w1.cell? ⟨b, off, none⟩ = some (.int .i64 1) := hc0 0 _ (hnt 0 _ rfl)
  have n1 : w1.cell? ⟨b, off + 1, none⟩ = some (.int .i64 7) := hc0 1 _ (hnt 1 _ rfl)
  have n2 : w1.cell? ⟨b, off + 2, none⟩ = some (.int .i64 (p : Nat)) := hc0 2 _ (hnt 2 _ rfl)
  have n3 : w1.cell? ⟨b, off + 3, none⟩ = some (.int .u64 KY) := hc0 3 _ (hnt 3 _ rfl)
  have hbl : b < w1.heap.size := by
    by_cases h : b < w1.heap.size
    · exact h
    · simp [World.cell?, Array.getElem?_eq_none (Nat.le_of_not_lt h)] at n0
  have htn : y2.tn = 0 := by rw [← hok.htn, x7]; rfl
  clear hcell hc0 hpl hs hnx hrt hnt y1_ y2_ y3_ y4_ x7 x1 x4 x6 HGR
  have HGV := Lib.hid hgv
  have HOK := Lib.hid hok
  clear hgv hok
  go_upto_region 3 with (first
    | (refine wpList_storeP rfl 29 (.tmp 8) (.tmp 19) rfl w1.heap.size 0 rfl (gcs g2 (some ⟨b, off, none⟩) 1 c2) rfl 29 _ ((Blk.new _ _ _).alloc _) (by kernel_rfl) (by simp [gcs]) (gcs_one _ _ _ _) _ (splice_all _ _ (by simp [gcs])) ?_
       intro w2 hB2 hw2)
    | (refine wpList_storeP rfl 45 (.tmp 9) (.tmp 20) rfl (w1.heap.size + 1) 0 rfl (clc y2) rfl 45 _ ((Blk.new1 _ _ _ _).wr hw2 (by omega)) (by kernel_rfl) (by simp [clc]) (clc_one _) _ (splice_all _ _ (by simp [clc])) ?_
       intro w3 hB3 hw3))
  have hB2 := hB2.wr hw3 (by omega)
  have hb3 : Below w1.heap.size w1 w3 := hw3.trans_below (hw2.trans_below (((Below.refl _ _).alloc (Nat.le_refl _) _).alloc (by simp) _) (Nat.le_refl _)) (by omega)
  obtain ⟨g8, hg8⟩ : ∃ q, w1.heap.size = q := ⟨_, rfl⟩
  obtain ⟨g9, hg9⟩ : ∃ q, w1.heap.size + 1 = q := ⟨_, rfl⟩
  rw [hg9] at hB3 ⊢
  rw [hg8] at hB2 ⊢
  refine wp_world (fun w' => Blk w' g8 29 (gcs g2 (some ⟨b, off, none⟩) 1 c2) ∧ Blk w' g9 45 (clc y2) ∧ Below w1.heap.size w1 w') ⟨hB2, hB3, hb3⟩ ?_
  clear hB2 hB3 hw2 hw3 hb3 hg8 hg9
  rintro w4 ⟨h1, h2, hb⟩
  have n0 := cell_on hb hbl n0
  have n1 := cell_on hb hbl n1
  have n2 := cell_on hb hbl n2
  have n3 := cell_on hb hbl n3
  have hbl : b < w4.heap.size := by have := hb.size; omega
  have H8 := Lib.hid h1
  have H9 := Lib.hid h2
  have HGV := Lib.hid (HGV.out.below hb)
  have HOK := Lib.hid (HOK.out.below hb)
  have HB := Lib.hid (hb1.trans (hb.mono hb1.size))
  have f3 : w4.cell? ⟨g8, 3, none⟩ = some (.slice (some ⟨b, off, none⟩) 1 c2) := by rw [h1.cell]; rfl
  have m1 : w4.cell? ⟨g9, 1, none⟩ = some (.int .i64 7) := by rw [(clFacts h2).2.2.1, x2]; rfl
  have m3 : w4.cell? ⟨g9, 3, none⟩ = some (.slice y2.T 0 y2.tc) := by rw [(clFacts h2).2.2.2.2.1, htn]
  have m4 : w4.cell? ⟨g9, 4, none⟩ = some (.int .i64 1) := by rw [(clFacts h2).2.2.2.2.2.1, x3]; rfl
  have m5 : w4.cell? ⟨g9, 5, none⟩ = some (.int .u64 KY) := by rw [(clFacts h2).2.2.2.2.2.2.1, x5]
  have ft : w4.cell? ⟨g8, 4 + p * 3, none⟩ = some (.bool false) := by
    have h := tly_part g2 (some ⟨b, off, none⟩) 1 c2 none 0 0 p hp4 0 (.bool (g2.t p).1) rfl
    rw [htk] at h
    rw [h1.cell]
    rcases (show p = 0 ∨ p = 1 ∨ p = 2 ∨ p = 3 by omega) with rfl | rfl | rfl | rfl <;> exact h
  obtain ⟨ys, hys⟩ : ∃ ys, [y] = ys := ⟨_, rfl⟩
  rw [hys] at HGV
  clear h1 h2 hb hb1 x2 x3 x5 htn htk hys
  -- [[f2
  refine wp_flowF (fun k => decide (k < 76)) (fun k => k == 0 || k == 6 || k == 11) 98 [0, 1, 2, 3, 4, 5, 6, 7, 8, 9, 10, 11, 12, 13, 14, 15, 16, 17, 18, 19, 20, 21, 22, 23, 24, 25, 26, 27, 28, 29, 30, 31, 32, 33, 34, 35, 36, 37, 38, 39, 40, 41, 42, 43, 44, 45, 46, 47, 48, 49, 50, 51, 52, 53, 54, 55, 56, 57, 58, 59, 60, 61, 62, 63, 64, 65, 66, 67, 68, 69, 70, 71, 72, 73, 74, 75] (fun w' => Below w4.heap.size w4 w') (fun k a v w' => (k = 0 → v = .bool true) ∧ (k = 6 → v = .int .i64 0) ∧ (k = 11 → v = .int .i64 0)) (by kernel_rfl) ?hflB ?hpuB ?hksB (fun _ _ _ _ _ h => h) rfl ?hst ?hC ?_
  case hflB => kernel_rfl
  case hpuB => kernel_rfl
  case hksB => kernel_rfl
  case hst => exact ⟨fun w0 w1 h1 hb => h1.trans (hb.mono h1.size), fun k a v w0 w1 hW hb => ⟨fun e => (fun hp => hp) (hW.1 e), fun e => (fun hp => hp) (hW.2.1 e), fun e => (fun hp => hp) (hW.2.2 e)⟩, fun k a b v w0 _ h => h⟩
  case hC => exact (Below.refl _ _).drew
  refine fcall 22 17 #[] (by kernel_rfl) (by kernel_rfl) (by kernel_rfl) (by kernel_rfl) (fun w => (by kernel_rfl)) (fun w hw => (gateTells_ok w).mono ?hx0_22) ?_
  case hx0_22 =>
    rintro e w' ⟨rfl, hb⟩
    exact ⟨_, rfl, ⟨fun _ => rfl, fun e => absurd e (by decide), fun e => absurd e (by decide)⟩, hw.1.trans (hb.mono hw.1.size), hb⟩
  rintro v ⟨w', hw', hW⟩
  obtain rfl := hW.1 rfl
  clear  hW hw' w'
  refine fq 23 (.bool true) (by kernel_rfl) (by kernel_rfl) (by kernel_rfl) (by kernel_rfl) (fun w => (by kernel_rfl)) ?_
  refine fq 24 (.bool true) (by kernel_rfl) (by kernel_rfl) (by kernel_rfl) (by kernel_rfl) (fun w => (by kernel_rfl)) ?_
  refine fq 25 (.bool true) (by kernel_rfl) (by kernel_rfl) (by kernel_rfl) (by kernel_rfl) (fun w => (by kernel_rfl)) ?_
  refine fq 26 (.bool true) (by kernel_rfl) (by kernel_rfl) (by kernel_rfl) (by kernel_rfl) (fun w => (by kernel_rfl)) ?_
  refine fqR 27 (gcs g2 (some ⟨b, off, none⟩) 1 c2) 29 (.tmp 8) g8 0 _ (by kernel_rfl) (by kernel_rfl) (by kernel_rfl) (by kernel_rfl) (by kernel_rfl) (by kernel_rfl) Tryz.underlying29 rfl (by kernel_rfl) (fun w hw => (H8.out.carry hw.1).whole) ?_
  refine fcall 28 18 #[.agg (gcs g2 (some ⟨b, off, none⟩) 1 c2)] (by kernel_rfl) (by kernel_rfl) (by kernel_rfl) (by kernel_rfl) (fun w => (by kernel_rfl)) (fun w hw => (gateCheck_ok g2 (some ⟨b, off, none⟩) 1 c2 ys w (HGV.out.below hw.1)).mono ?hx6_28) ?_
  case hx6_28 =>
    rintro e w' ⟨rfl, hb⟩
    exact ⟨_, rfl, ⟨fun e => absurd e (by decide), fun _ => rfl, fun e => absurd e (by decide)⟩, hw.1.trans (hb.mono hw.1.size), hb⟩
  rintro v ⟨w', hw', hW⟩
  obtain rfl := hW.2.1 rfl
  clear  hW hw' w'
  refine fq 29 (.bool true) (by kernel_rfl) (by kernel_rfl) (by kernel_rfl) (by kernel_rfl) (fun w => (by kernel_rfl)) ?_
  refine fq 30 (.bool true) (by kernel_rfl) (by kernel_rfl) (by kernel_rfl) (by kernel_rfl) (fun w => (by kernel_rfl)) ?_
  refine fq 31 (.bool true) (by kernel_rfl) (by kernel_rfl) (by kernel_rfl) (by kernel_rfl) (fun w => (by kernel_rfl)) ?_
  refine fqR 32 (clc y2) 45 (.tmp 9) g9 0 _ (by kernel_rfl) (by kernel_rfl) (by kernel_rfl) (by kernel_rfl) (by kernel_rfl) (by kernel_rfl) Tryz.underlying45 rfl (by kernel_rfl) (fun w hw => (H9.out.carry hw.1).whole) ?_
  refine fcall 33 19 #[.agg (clc y2)] (by kernel_rfl) (by kernel_rfl) (by kernel_rfl) (by kernel_rfl) (fun w => (by kernel_rfl)) (fun w hw => (clCheck_ok y2 w (HOK.out.below hw.1)).mono ?hx11_33) ?_
  case hx11_33 =>
    rintro e w' ⟨rfl, hb⟩
    exact ⟨_, rfl, ⟨fun e => absurd e (by decide), fun e => absurd e (by decide), fun _ => rfl⟩, hw.1.trans (hb.mono hw.1.size), hb⟩
  rintro v ⟨w', hw', hW⟩
  obtain rfl := hW.2.2 rfl
  clear  hW hw' w'
  refine fq 34 (.bool true) (by kernel_rfl) (by kernel_rfl) (by kernel_rfl) (by kernel_rfl) (fun w => (by kernel_rfl)) ?_
  refine fq 35 (.bool true) (by kernel_rfl) (by kernel_rfl) (by kernel_rfl) (by kernel_rfl) (fun w => (by kernel_rfl)) ?_
  refine fq 36 (.bool true) (by kernel_rfl) (by kernel_rfl) (by kernel_rfl) (by kernel_rfl) (fun w => (by kernel_rfl)) ?_
  refine fq 37 (.pointer (some ⟨g8, 3, none⟩)) (by kernel_rfl) (by kernel_rfl) (by kernel_rfl) (by kernel_rfl) (fun w => (by kernel_rfl)) ?_
  refine fq1 38 (.slice (some ⟨b, off, none⟩) 1 c2) 24 (.tmp 37) g8 3 _ (by kernel_rfl) (by kernel_rfl) (by kernel_rfl) (by kernel_rfl) (by kernel_rfl) (by kernel_rfl) Tryz.underlying24 rfl (fun w hw => cell_on hw.1 H8.out.lt f3) ?_
  refine fq 39 (.int .i64 1) (by kernel_rfl) (by kernel_rfl) (by kernel_rfl) (by kernel_rfl) (fun w => (by kernel_rfl)) ?_
  refine fq 40 (.bool true) (by kernel_rfl) (by kernel_rfl) (by kernel_rfl) (by kernel_rfl) (fun w => (by kernel_rfl)) ?_
  refine fq 41 (.bool true) (by kernel_rfl) (by kernel_rfl) (by kernel_rfl) (by kernel_rfl) (fun w => (by kernel_rfl)) ?_
  refine fq 42 (.bool true) (by kernel_rfl) (by kernel_rfl) (by kernel_rfl) (by kernel_rfl) (fun w => (by kernel_rfl)) ?_
  refine fq 43 (.pointer (some ⟨g8, 3, none⟩)) (by kernel_rfl) (by kernel_rfl) (by kernel_rfl) (by kernel_rfl) (fun w => (by kernel_rfl)) ?_
  refine fq1 44 (.slice (some ⟨b, off, none⟩) 1 c2) 24 (.tmp 43) g8 3 _ (by kernel_rfl) (by kernel_rfl) (by kernel_rfl) (by kernel_rfl) (by kernel_rfl) (by kernel_rfl) Tryz.underlying24 rfl (fun w hw => cell_on hw.1 H8.out.lt f3) ?_
  refine fidx 45 24 (.tmp 44) (.const (.int .i64 0)) b off 1 c2 .i64 0 29 off (by kernel_rfl) (by kernel_rfl) (by kernel_rfl) (by kernel_rfl) (by kernel_rfl) (by kernel_rfl) (by kernel_rfl) Tryz.underlying24 (fun w => (by kernel_rfl)) (by decide) (by decide) (by simp) ?_
  refine fq 46 (.pointer (some ⟨b, off + 2, none⟩)) (by kernel_rfl) (by kernel_rfl) (by kernel_rfl) (by kernel_rfl) (fun w => (by kernel_rfl)) ?_
  refine fq1 47 (.int .i64 (p : Nat)) 3 (.tmp 46) b (off + 2) _ (by kernel_rfl) (by kernel_rfl) (by kernel_rfl) (by kernel_rfl) (by kernel_rfl) (by kernel_rfl) Tryz.underlying3 rfl (fun w hw => cell_on hw.1 hbl n2) ?_
  refine fq 48 (.int .i64 (p : Nat)) (by kernel_rfl) (by kernel_rfl) (by kernel_rfl) (by kernel_rfl) (fun w => (by kernel_rfl)) ?_
  refine fqe 49 (.bool (decide (((p : Nat) : Int) = ((p : Nat) : Int)))) (.bool true) (by simp) (by kernel_rfl) (by kernel_rfl) (by kernel_rfl) (by kernel_rfl) (fun w => (by kernel_rfl)) ?_
  refine fq 50 (.bool true) (by kernel_rfl) (by kernel_rfl) (by kernel_rfl) (by kernel_rfl) (fun w => (by kernel_rfl)) ?_
  refine fq 51 (.bool true) (by kernel_rfl) (by kernel_rfl) (by kernel_rfl) (by kernel_rfl) (fun w => (by kernel_rfl)) ?_
  refine fq 52 (.pointer (some ⟨g8, 3, none⟩)) (by kernel_rfl) (by kernel_rfl) (by kernel_rfl) (by kernel_rfl) (fun w => (by kernel_rfl)) ?_
  refine fq1 53 (.slice (some ⟨b, off, none⟩) 1 c2) 24 (.tmp 52) g8 3 _ (by kernel_rfl) (by kernel_rfl) (by kernel_rfl) (by kernel_rfl) (by kernel_rfl) (by kernel_rfl) Tryz.underlying24 rfl (fun w hw => cell_on hw.1 H8.out.lt f3) ?_
  refine fidx 54 24 (.tmp 53) (.const (.int .i64 0)) b off 1 c2 .i64 0 29 off (by kernel_rfl) (by kernel_rfl) (by kernel_rfl) (by kernel_rfl) (by kernel_rfl) (by kernel_rfl) (by kernel_rfl) Tryz.underlying24 (fun w => (by kernel_rfl)) (by decide) (by decide) (by simp) ?_
  refine fq 55 (.pointer (some ⟨b, off + 1, none⟩)) (by kernel_rfl) (by kernel_rfl) (by kernel_rfl) (by kernel_rfl) (fun w => (by kernel_rfl)) ?_
  refine fq1 56 (.int .i64 7) 3 (.tmp 55) b (off + 1) _ (by kernel_rfl) (by kernel_rfl) (by kernel_rfl) (by kernel_rfl) (by kernel_rfl) (by kernel_rfl) Tryz.underlying3 rfl (fun w hw => cell_on hw.1 hbl n1) ?_
  refine fq 57 (.pointer (some ⟨g9, 1, none⟩)) (by kernel_rfl) (by kernel_rfl) (by kernel_rfl) (by kernel_rfl) (fun w => (by kernel_rfl)) ?_
  refine fq1 58 (.int .i64 7) 3 (.tmp 57) g9 1 _ (by kernel_rfl) (by kernel_rfl) (by kernel_rfl) (by kernel_rfl) (by kernel_rfl) (by kernel_rfl) Tryz.underlying3 rfl (fun w hw => cell_on hw.1 H9.out.lt m1) ?_
  refine fq 59 (.bool true) (by kernel_rfl) (by kernel_rfl) (by kernel_rfl) (by kernel_rfl) (fun w => (by kernel_rfl)) ?_
  refine fq 60 (.bool true) (by kernel_rfl) (by kernel_rfl) (by kernel_rfl) (by kernel_rfl) (fun w => (by kernel_rfl)) ?_
  refine fq 61 (.bool true) (by kernel_rfl) (by kernel_rfl) (by kernel_rfl) (by kernel_rfl) (fun w => (by kernel_rfl)) ?_
  refine fq 62 (.pointer (some ⟨g8, 3, none⟩)) (by kernel_rfl) (by kernel_rfl) (by kernel_rfl) (by kernel_rfl) (fun w => (by kernel_rfl)) ?_
  refine fq1 63 (.slice (some ⟨b, off, none⟩) 1 c2) 24 (.tmp 62) g8 3 _ (by kernel_rfl) (by kernel_rfl) (by kernel_rfl) (by kernel_rfl) (by kernel_rfl) (by kernel_rfl) Tryz.underlying24 rfl (fun w hw => cell_on hw.1 H8.out.lt f3) ?_
  refine fidx 64 24 (.tmp 63) (.const (.int .i64 0)) b off 1 c2 .i64 0 29 off (by kernel_rfl) (by kernel_rfl) (by kernel_rfl) (by kernel_rfl) (by kernel_rfl) (by kernel_rfl) (by kernel_rfl) Tryz.underlying24 (fun w => (by kernel_rfl)) (by decide) (by decide) (by simp) ?_
  refine fq 65 (.pointer (some ⟨b, off + 3, none⟩)) (by kernel_rfl) (by kernel_rfl) (by kernel_rfl) (by kernel_rfl) (fun w => (by kernel_rfl)) ?_
  refine fq1 66 (.int .u64 KY) 23 (.tmp 65) b (off + 3) _ (by kernel_rfl) (by kernel_rfl) (by kernel_rfl) (by kernel_rfl) (by kernel_rfl) (by kernel_rfl) Tryz.underlying23 rfl (fun w hw => cell_on hw.1 hbl n3) ?_
  refine fq 67 (.pointer (some ⟨g9, 5, none⟩)) (by kernel_rfl) (by kernel_rfl) (by kernel_rfl) (by kernel_rfl) (fun w => (by kernel_rfl)) ?_
  refine fq1 68 (.int .u64 KY) 23 (.tmp 67) g9 5 _ (by kernel_rfl) (by kernel_rfl) (by kernel_rfl) (by kernel_rfl) (by kernel_rfl) (by kernel_rfl) Tryz.underlying23 rfl (fun w hw => cell_on hw.1 H9.out.lt m5) ?_
  refine fqe 69 (.bool (decide (KY = KY))) (.bool true) (by simp) (by kernel_rfl) (by kernel_rfl) (by kernel_rfl) (by kernel_rfl) (fun w => (by kernel_rfl)) ?_
  refine fq 70 (.bool true) (by kernel_rfl) (by kernel_rfl) (by kernel_rfl) (by kernel_rfl) (fun w => (by kernel_rfl)) ?_
  refine fq 71 (.bool true) (by kernel_rfl) (by kernel_rfl) (by kernel_rfl) (by kernel_rfl) (fun w => (by kernel_rfl)) ?_
  refine fq 72 (.pointer (some ⟨g8, 3, none⟩)) (by kernel_rfl) (by kernel_rfl) (by kernel_rfl) (by kernel_rfl) (fun w => (by kernel_rfl)) ?_
  refine fq1 73 (.slice (some ⟨b, off, none⟩) 1 c2) 24 (.tmp 72) g8 3 _ (by kernel_rfl) (by kernel_rfl) (by kernel_rfl) (by kernel_rfl) (by kernel_rfl) (by kernel_rfl) Tryz.underlying24 rfl (fun w hw => cell_on hw.1 H8.out.lt f3) ?_
  refine fidx 74 24 (.tmp 73) (.const (.int .i64 0)) b off 1 c2 .i64 0 29 off (by kernel_rfl) (by kernel_rfl) (by kernel_rfl) (by kernel_rfl) (by kernel_rfl) (by kernel_rfl) (by kernel_rfl) Tryz.underlying24 (fun w => (by kernel_rfl)) (by decide) (by decide) (by simp) ?_
  refine fq 75 (.pointer (some ⟨b, off, none⟩)) (by kernel_rfl) (by kernel_rfl) (by kernel_rfl) (by kernel_rfl) (fun w => (by kernel_rfl)) ?_
  refine fq1 76 (.int .i64 1) 3 (.tmp 75) b (off) _ (by kernel_rfl) (by kernel_rfl) (by kernel_rfl) (by kernel_rfl) (by kernel_rfl) (by kernel_rfl) Tryz.underlying3 rfl (fun w hw => cell_on hw.1 hbl n0) ?_
  refine fq 77 (.pointer (some ⟨g9, 4, none⟩)) (by kernel_rfl) (by kernel_rfl) (by kernel_rfl) (by kernel_rfl) (fun w => (by kernel_rfl)) ?_
  refine fq1 78 (.int .i64 1) 3 (.tmp 77) g9 4 _ (by kernel_rfl) (by kernel_rfl) (by kernel_rfl) (by kernel_rfl) (by kernel_rfl) (by kernel_rfl) Tryz.underlying3 rfl (fun w hw => cell_on hw.1 H9.out.lt m4) ?_
  refine fq 79 (.bool true) (by kernel_rfl) (by kernel_rfl) (by kernel_rfl) (by kernel_rfl) (fun w => (by kernel_rfl)) ?_
  refine fq 80 (.bool true) (by kernel_rfl) (by kernel_rfl) (by kernel_rfl) (by kernel_rfl) (fun w => (by kernel_rfl)) ?_
  refine fq 81 (.bool true) (by kernel_rfl) (by kernel_rfl) (by kernel_rfl) (by kernel_rfl) (fun w => (by kernel_rfl)) ?_
  refine fq 82 (.int .i64 (p : Nat)) (by kernel_rfl) (by kernel_rfl) (by kernel_rfl) (by kernel_rfl) (fun w => (by kernel_rfl)) ?_
  refine fq 83 (.pointer (some ⟨g8, 4, none⟩)) (by kernel_rfl) (by kernel_rfl) (by kernel_rfl) (by kernel_rfl) (fun w => (by kernel_rfl)) ?_
  refine fidxA 84 27 (.tmp 83) (.tmp 82) g8 4 4 .i64 (p : Nat) 3 (4 + p * 3) (by kernel_rfl) (by kernel_rfl) (by kernel_rfl) (by kernel_rfl) (by kernel_rfl) (by kernel_rfl) (by kernel_rfl) (by kernel_rfl) (fun w => (by kernel_rfl)) (by kernel_rfl) (by omega) (by omega) (by simp) ?_
  refine fq 85 (.pointer (some ⟨g8, 4 + p * 3, none⟩)) (by kernel_rfl) (by kernel_rfl) (by kernel_rfl) (by kernel_rfl) (fun w => (by kernel_rfl)) ?_
  refine fq1 86 (.bool false) 4 (.tmp 85) g8 (4 + p * 3) _ (by kernel_rfl) (by kernel_rfl) (by kernel_rfl) (by kernel_rfl) (by kernel_rfl) (by kernel_rfl) Tryz.underlying4 rfl (fun w hw => cell_on hw.1 H8.out.lt ft) ?_
  refine fq 87 (.bool false) (by kernel_rfl) (by kernel_rfl) (by kernel_rfl) (by kernel_rfl) (fun w => (by kernel_rfl)) ?_
  refine fq 88 (.bool true) (by kernel_rfl) (by kernel_rfl) (by kernel_rfl) (by kernel_rfl) (fun w => (by kernel_rfl)) ?_
  refine fq 89 (.bool true) (by kernel_rfl) (by kernel_rfl) (by kernel_rfl) (by kernel_rfl) (fun w => (by kernel_rfl)) ?_
  refine fq 90 (.bool true) (by kernel_rfl) (by kernel_rfl) (by kernel_rfl) (by kernel_rfl) (fun w => (by kernel_rfl)) ?_
  refine fq 91 (.pointer (some ⟨g9, 3, none⟩)) (by kernel_rfl) (by kernel_rfl) (by kernel_rfl) (by kernel_rfl) (fun w => (by kernel_rfl)) ?_
  refine fq1 92 (.slice y2.T 0 y2.tc) 30 (.tmp 91) g9 3 _ (by kernel_rfl) (by kernel_rfl) (by kernel_rfl) (by kernel_rfl) (by kernel_rfl) (by kernel_rfl) Tryz.underlying30 rfl (fun w hw => cell_on hw.1 H9.out.lt m3) ?_
  refine fq 93 (.int .i64 0) (by kernel_rfl) (by kernel_rfl) (by kernel_rfl) (by kernel_rfl) (fun w => (by kernel_rfl)) ?_
  refine fq 94 (.bool false) (by kernel_rfl) (by kernel_rfl) (by kernel_rfl) (by kernel_rfl) (fun w => (by kernel_rfl)) ?_
  refine fq 95 (.bool false) (by kernel_rfl) (by kernel_rfl) (by kernel_rfl) (by kernel_rfl) (fun w => (by kernel_rfl)) ?_
  refine fq 96 (.bool true) (by kernel_rfl) (by kernel_rfl) (by kernel_rfl) (by kernel_rfl) (fun w => (by kernel_rfl)) ?_
  refine fq 97 (.bool true) (by kernel_rfl) (by kernel_rfl) (by kernel_rfl) (by kernel_rfl) (fun w => (by kernel_rfl)) ?_
  refine fend [76] (by kernel_rfl) (by kernel_rfl) ?_
  intro w5 hw5 _
  refine tval (some 6) (.bool true) w5 (by kernel_rfl) (by kernel_rfl) (by kernel_rfl) ?_
  refine tend ?_
  go_simp
  refine (show ∀ (a : Act) (w : World), Code.wp _ _ _ a w → _ from by assumption) _ _ ?_
  go_wp2_with fail
  go_ret
  exact ⟨rfl, HB.out.trans (hw5.mono HB.out.size)⟩
  -- ]]f2
  -- ]]f1

theorem gateGreets_walk (secret : Int) (retry : Bool) (peer : Int) (w : World) (hse : (Lit.int .i64 secret).wf = true) (hpe : (Lit.int .i64 peer).wf = true) :
    Calls Tryz.prog 3 #[.int .i64 secret, .bool retry, .int .i64 peer] w fun e w' => e = .returned (.bool true) ∧ Below w.heap.size w w' := by
  cases retry
  · exact gateGreets_false secret peer w hse hpe
  · exact gateGreets_true secret peer w hse hpe
end Go.Proofs.YtbcagdjfegobnaaGreat
