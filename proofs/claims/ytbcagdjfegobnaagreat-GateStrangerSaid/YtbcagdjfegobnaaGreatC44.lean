/- Texts of the proof, laid together: Tells. -/
import Derived.Test.YtbcagdjfegobnaaGreatC38
/- gateTells: who greets is known. -/
namespace Go.Proofs.YtbcagdjfegobnaaGreat
open Go.ChangeShapes Go.WideShapes Go.ChangeAt Go.RowKit
set_option linter.unusedVariables false

theorem pl_one {ys : List NtB} {a : NtP} (h : ys.map NtB.pl = [a]) : ∃ y, ys = [y] ∧ y.pl = a := by
  match ys, h with
  | [y], h => exact ⟨y, rfl, by simpa using h⟩
set_option maxRecDepth 100000 in
set_option maxHeartbeats 4000000 in
theorem gateTells_ok (w : World) : Calls Tryz.prog 17 #[] w fun e w' => e = .returned (.bool true) ∧ Below w.heap.size w w' := by
  go_enter Tryz.func17, Tryz.ntmps17
  go_wp2_with fail
  refine (greeted_no 5 (by decide) (by decide) 1 (by decide) _).mono ?_
  rintro e w1 ⟨g2, A2, c2, ys, y2, rfl, hgv, hpl, hs, hnx, hrt, htk, hok, hypl, hb1⟩
  obtain ⟨y, rfl, hy⟩ := pl_one hpl
  obtain ⟨b, off, rfl, hcell⟩ := hgv.rd.nt (by simp)
  have hc0 := hcell 0 (by simp)
  simp only [Nat.zero_mul, Nat.add_zero] at hc0
  have hyv : y.id = 1 ∧ y.key = sessI 99 (keyI 5 1) := by
    simp only [NtB.pl, Prod.mk.injEq] at hy
    exact ⟨hy.1, hy.2.2.2.1⟩
  have hto : y2.to_ = 1 ∧ y2.key = sessI 99 (keyI 5 1) := by
    simp only [ClM.pl, Prod.mk.injEq] at hypl
    exact ⟨hypl.2.2.1, hypl.2.2.2.2.1⟩
  have n0 : w1.cell? ⟨b, off, none⟩ = some (.int .i64 1) := by
    have := hc0 0 _ (nta_id y)
    rw [hyv.1] at this
    exact this
  have n3 : w1.cell? ⟨b, off + 3, none⟩ = some (.int .u64 (sessI 99 (keyI 5 1))) := by
    have := hc0 3 (.int .u64 y.key) (by simp [List.getD]; unfold nta; rw [Array.getElem?_append_left (by simp)]; rfl)
    rw [hyv.2] at this
    exact this
  have hbl : b < w1.heap.size := by
    by_cases h : b < w1.heap.size
    · exact h
    · simp [World.cell?, Array.getElem?_eq_none (Nat.le_of_not_lt h)] at n0
  clear hcell hc0 hpl hgv hs hnx hrt htk hok
  go_upto_region 2 with (first
    | (refine wpList_storeP rfl 29 (.tmp 1) (.tmp 6) rfl w1.heap.size 0 rfl (gcs g2 (some ⟨b, off, none⟩) 1 c2) rfl 29 _ ((Blk.new _ _ _).alloc _) (by kernel_rfl) (by simp [gcs]) (gcs_one _ _ _ _) _ (splice_all _ _ (by simp [gcs])) ?_
       intro w2 hB2 hw2)
    | (refine wpList_storeP rfl 45 (.tmp 2) (.tmp 7) rfl (w1.heap.size + 1) 0 rfl (clc y2) rfl 45 _ ((Blk.new1 _ _ _ _).wr hw2 (by omega)) (by kernel_rfl) (by simp [clc]) (clc_one _) _ (splice_all _ _ (by simp [clc])) ?_
       intro w3 hB3 hw3))
  have hB2 := hB2.wr hw3 (by omega)
  have hb3 : Below w1.heap.size w1 w3 := hw3.trans_below (hw2.trans_below (((Below.refl _ _).alloc (Nat.le_refl _) _).alloc (by simp) _) (Nat.le_refl _)) (by omega)
  have n0 := cell_on hb3 hbl n0
  have n3 := cell_on hb3 hbl n3
  obtain ⟨g1, hg1⟩ : ∃ q, w1.heap.size = q := ⟨_, rfl⟩
  obtain ⟨g2', hg2'⟩ : ∃ q, w1.heap.size + 1 = q := ⟨_, rfl⟩
  rw [hg2'] at hB3 ⊢
  rw [hg1] at hB2 ⊢
  refine wp_world (fun w' => Blk w' g1 29 (gcs g2 (some ⟨b, off, none⟩) 1 c2) ∧ Blk w' g2' 45 (clc y2) ∧ w'.cell? ⟨b, off, none⟩ = some (.int .i64 1) ∧ w'.cell? ⟨b, off + 3, none⟩ = some (.int .u64 (sessI 99 (keyI 5 1))) ∧ b < w'.heap.size ∧ Below w.heap.size w w') ⟨hB2, hB3, n0, n3, by have := hb3.size; omega, hb1.trans (hb3.mono hb1.size)⟩ ?_
  clear hB2 hB3 hw2 hw3 hb3 n0 n3 hg1 hg2' hbl hb1
  rintro w4 ⟨h1, h2, n0, n3, hbl, hb⟩
  have H1 := Lib.hid h1
  have H2 := Lib.hid h2
  have HB := Lib.hid hb
  have f3 : w4.cell? ⟨g1, 3, none⟩ = some (.slice (some ⟨b, off, none⟩) 1 c2) := by rw [h1.cell]; rfl
  have f4 : w4.cell? ⟨g2', 4, none⟩ = some (.int .i64 1) := by rw [(clFacts h2).2.2.2.2.2.1, hto.1]; rfl
  have f5 : w4.cell? ⟨g2', 5, none⟩ = some (.int .u64 (sessI 99 (keyI 5 1))) := by rw [(clFacts h2).2.2.2.2.2.2.1, hto.2]
  clear h1 h2 hb hto hyv hy hypl
  -- [[t1
  refine wp_flow (fun k => decide (k < 27)) (fun k => false) 36 [0, 1, 2, 3, 4, 5, 6, 7, 8, 9, 10, 11, 12, 13, 14, 15, 16, 17, 18, 19, 20, 21, 22, 23, 24, 25, 26] (fun w' => Below w4.heap.size w4 w') (fun k a v w' => True) (by kernel_rfl) ?hflB ?hpuB ?hksB (fun _ _ _ _ _ h => h) rfl ?hst ?hC ?_
  case hflB => kernel_rfl
  case hpuB => kernel_rfl
  case hksB => kernel_rfl
  case hst => exact ⟨fun w0 w1 h1 hb => h1.trans (hb.mono h1.size), fun k a v w0 w1 hW hb => hW, fun k a b v w0 _ h => h⟩
  case hC => exact (Below.refl _ _).drew
  refine fq 9 (.bool true) (by kernel_rfl) (by kernel_rfl) (by kernel_rfl) (by kernel_rfl) (fun w => (by kernel_rfl)) ?_
  refine fq 10 (.bool true) (by kernel_rfl) (by kernel_rfl) (by kernel_rfl) (by kernel_rfl) (fun w => (by kernel_rfl)) ?_
  refine fq 11 (.pointer (some ⟨g1, 3, none⟩)) (by kernel_rfl) (by kernel_rfl) (by kernel_rfl) (by kernel_rfl) (fun w => (by kernel_rfl)) ?_
  refine fq1 12 (.slice (some ⟨b, off, none⟩) 1 c2) 24 (.tmp 11) g1 3 _ (by kernel_rfl) (by kernel_rfl) (by kernel_rfl) (by kernel_rfl) (by kernel_rfl) (by kernel_rfl) Tryz.underlying24 rfl (fun w hw => cell_on hw.1 H1.out.lt f3) ?_
  refine fq 13 (.int .i64 1) (by kernel_rfl) (by kernel_rfl) (by kernel_rfl) (by kernel_rfl) (fun w => (by kernel_rfl)) ?_
  refine fq 14 (.bool true) (by kernel_rfl) (by kernel_rfl) (by kernel_rfl) (by kernel_rfl) (fun w => (by kernel_rfl)) ?_
  refine fq 15 (.bool true) (by kernel_rfl) (by kernel_rfl) (by kernel_rfl) (by kernel_rfl) (fun w => (by kernel_rfl)) ?_
  refine fq 16 (.bool true) (by kernel_rfl) (by kernel_rfl) (by kernel_rfl) (by kernel_rfl) (fun w => (by kernel_rfl)) ?_
  refine fq 17 (.pointer (some ⟨g2', 4, none⟩)) (by kernel_rfl) (by kernel_rfl) (by kernel_rfl) (by kernel_rfl) (fun w => (by kernel_rfl)) ?_
  refine fq1 18 (.int .i64 1) 3 (.tmp 17) g2' 4 _ (by kernel_rfl) (by kernel_rfl) (by kernel_rfl) (by kernel_rfl) (by kernel_rfl) (by kernel_rfl) Tryz.underlying3 rfl (fun w hw => cell_on hw.1 H2.out.lt f4) ?_
  refine fq 19 (.pointer (some ⟨g1, 3, none⟩)) (by kernel_rfl) (by kernel_rfl) (by kernel_rfl) (by kernel_rfl) (fun w => (by kernel_rfl)) ?_
  refine fq1 20 (.slice (some ⟨b, off, none⟩) 1 c2) 24 (.tmp 19) g1 3 _ (by kernel_rfl) (by kernel_rfl) (by kernel_rfl) (by kernel_rfl) (by kernel_rfl) (by kernel_rfl) Tryz.underlying24 rfl (fun w hw => cell_on hw.1 H1.out.lt f3) ?_
  refine fidx 21 24 (.tmp 20) (.const (.int .i64 0)) b off 1 c2 .i64 0 29 off (by kernel_rfl) (by kernel_rfl) (by kernel_rfl) (by kernel_rfl) (by kernel_rfl) (by kernel_rfl) (by kernel_rfl) Tryz.underlying24 (fun w => (by kernel_rfl)) (by decide) (by decide) (by simp) ?_
  refine fq 22 (.pointer (some ⟨b, off, none⟩)) (by kernel_rfl) (by kernel_rfl) (by kernel_rfl) (by kernel_rfl) (fun w => (by kernel_rfl)) ?_
  refine fq1 23 (.int .i64 1) 3 (.tmp 22) b (off) _ (by kernel_rfl) (by kernel_rfl) (by kernel_rfl) (by kernel_rfl) (by kernel_rfl) (by kernel_rfl) Tryz.underlying3 rfl (fun w hw => cell_on hw.1 hbl n0) ?_
  refine fq 24 (.bool true) (by kernel_rfl) (by kernel_rfl) (by kernel_rfl) (by kernel_rfl) (fun w => (by kernel_rfl)) ?_
  refine fq 25 (.bool true) (by kernel_rfl) (by kernel_rfl) (by kernel_rfl) (by kernel_rfl) (fun w => (by kernel_rfl)) ?_
  refine fq 26 (.bool true) (by kernel_rfl) (by kernel_rfl) (by kernel_rfl) (by kernel_rfl) (fun w => (by kernel_rfl)) ?_
  refine fq 27 (.pointer (some ⟨g2', 5, none⟩)) (by kernel_rfl) (by kernel_rfl) (by kernel_rfl) (by kernel_rfl) (fun w => (by kernel_rfl)) ?_
  refine fq1 28 (.int .u64 (sessI 99 (keyI 5 1))) 23 (.tmp 27) g2' 5 _ (by kernel_rfl) (by kernel_rfl) (by kernel_rfl) (by kernel_rfl) (by kernel_rfl) (by kernel_rfl) Tryz.underlying23 rfl (fun w hw => cell_on hw.1 H2.out.lt f5) ?_
  refine fq 29 (.pointer (some ⟨g1, 3, none⟩)) (by kernel_rfl) (by kernel_rfl) (by kernel_rfl) (by kernel_rfl) (fun w => (by kernel_rfl)) ?_
  refine fq1 30 (.slice (some ⟨b, off, none⟩) 1 c2) 24 (.tmp 29) g1 3 _ (by kernel_rfl) (by kernel_rfl) (by kernel_rfl) (by kernel_rfl) (by kernel_rfl) (by kernel_rfl) Tryz.underlying24 rfl (fun w hw => cell_on hw.1 H1.out.lt f3) ?_
  refine fidx 31 24 (.tmp 30) (.const (.int .i64 0)) b off 1 c2 .i64 0 29 off (by kernel_rfl) (by kernel_rfl) (by kernel_rfl) (by kernel_rfl) (by kernel_rfl) (by kernel_rfl) (by kernel_rfl) Tryz.underlying24 (fun w => (by kernel_rfl)) (by decide) (by decide) (by simp) ?_
  refine fq 32 (.pointer (some ⟨b, off + 3, none⟩)) (by kernel_rfl) (by kernel_rfl) (by kernel_rfl) (by kernel_rfl) (fun w => (by kernel_rfl)) ?_
  refine fq1 33 (.int .u64 (sessI 99 (keyI 5 1))) 23 (.tmp 32) b (off + 3) _ (by kernel_rfl) (by kernel_rfl) (by kernel_rfl) (by kernel_rfl) (by kernel_rfl) (by kernel_rfl) Tryz.underlying23 rfl (fun w hw => cell_on hw.1 hbl n3) ?_
  refine fqe 34 (.bool (decide ((sessI 99 (keyI 5 1)) = (sessI 99 (keyI 5 1))))) (.bool true) (by simp) (by kernel_rfl) (by kernel_rfl) (by kernel_rfl) (by kernel_rfl) (fun w => (by kernel_rfl)) ?_
  refine fq 35 (.bool true) (by kernel_rfl) (by kernel_rfl) (by kernel_rfl) (by kernel_rfl) (fun w => (by kernel_rfl)) ?_
  refine fend [27] (by kernel_rfl) (by kernel_rfl) ?_
  intro w5 hw5 _
  refine tval (some 0) (.bool true) w5 (by kernel_rfl) (by kernel_rfl) (by kernel_rfl) ?_
  refine tend ?_
  go_simp
  refine (show ∀ (a : Act) (w : World), Code.wp _ _ _ a w → _ from by assumption) _ _ ?_
  go_wp2_with fail
  go_ret
  exact ⟨rfl, HB.out.trans (hw5.mono HB.out.size)⟩
  -- ]]t1
end Go.Proofs.YtbcagdjfegobnaaGreat
