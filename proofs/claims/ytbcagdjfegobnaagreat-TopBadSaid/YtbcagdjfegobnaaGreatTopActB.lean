/- The steps of a world that may not be: dial and pass. -/
import Derived.Test.YtbcagdjfegobnaaGreatTopActA
namespace Go.Proofs.YtbcagdjfegobnaaGreat
open Go.ChangeShapes Go.WideShapes Go.ChangeAt Go.RowKit
set_option linter.unusedVariables false

theorem wld_part (g : GtD) : ∀ j v, (gcs g none 0 0)[j]? = some v → (wld g none 0 0)[0 + j]? = some v := by
  intro j v hv
  have hj : j < (gcs g none 0 0).size := (Array.getElem?_eq_some_iff.1 hv).1
  unfold wld
  rw [Nat.zero_add, Array.getElem?_append_left hj]
  exact hv
theorem gtv_nil (g : GtD) (w : World) (h : GOk g []) : GtV w g none 0 0 [] := ⟨rfl, by decide, by decide, h, RdX.nil⟩
set_option maxRecDepth 100000 in
set_option maxHeartbeats 4000000 in
theorem clBegin_bad (id wo now : Int) (w : World) : Calls Tryz.prog 34 #[.int .i64 (-1), .int .i64 id, .int .u64 wo, .int .i64 now] w fun e w' => e = .returned (.tuple #[.agg #[.int .i64 0, .int .i64 0, .int .u64 0, .slice none 0 0, .int .i64 0, .int .u64 0, .bool false, .int .i64 0, .slice none 0 0, .int .i64 0, .slice none 0 0, .slice none 0 0, .int .i64 0, .int .i64 0, .int .i64 0, .int .i64 0, .int .i64 0, .int .i64 0, .int .i64 0, .int .i64 0, .int .i64 0, .int .i64 0, .int .i64 0, .slice none 0 0, .bool false, .slice none 0 0, .int .i64 0, .int .i64 0, .bool false, .int .i64 0], .int .i64 6]) ∧ Below w.heap.size w w' := by
  have HB0 := Lib.hid (Below.refl w.heap.size w)
  go_enter Tryz.func34, Tryz.ntmps34
  refine wp_seq_k ?_
  intro KC1 hKC1
  refine wp_regionW ?_
  refine wnew (some 8) 45 #[.int .i64 0, .int .i64 0, .int .u64 0, .slice none 0 0, .int .i64 0, .int .u64 0, .bool false, .int .i64 0, .slice none 0 0, .int .i64 0, .slice none 0 0, .slice none 0 0, .int .i64 0, .int .i64 0, .int .i64 0, .int .i64 0, .int .i64 0, .int .i64 0, .int .i64 0, .int .i64 0, .int .i64 0, .int .i64 0, .int .i64 0, .slice none 0 0, .bool false, .slice none 0 0, .int .i64 0, .int .i64 0, .bool false, .int .i64 0] (fun q => .pointer (some ⟨q, 0, none⟩)) (by kernel_rfl) (by kernel_rfl) (by kernel_rfl) ?_
  intro wz3 g2 hg2 hBg2 hbg2
  have hlg2 : w.heap.size ≤ g2 := by rw [← hg2]; exact HB0.out.size
  have HF4 := Lib.hid (HB0.out.trans (hbg2.mono HB0.out.size))
  have HKg2 := Lib.hid hBg2
  clear hBg2 hbg2
  refine wval (some 9) (.int .i64 0) wz3 (by kernel_rfl) (by kernel_rfl) (by kernel_rfl) ?_
  refine wnil (hKC1 _ _ (?_))
  clear hKC1
  refine wp_seq_k ?_
  intro KC5 hKC5
  refine wp_seq_k ?_
  intro KC6 hKC6
  refine wp_regionW ?_
  refine wval (some 12) (.int .i64 (-1)) wz3 (by kernel_rfl) (by kernel_rfl) (by kernel_rfl) ?_
  refine wval (some 13) (.bool true) wz3 (by kernel_rfl) (by kernel_rfl) (by kernel_rfl) ?_
  refine wval (some 14) (.bool true) wz3 (by kernel_rfl) (by kernel_rfl) (by kernel_rfl) ?_
  refine wskip (some 15) (by kernel_rfl) (by kernel_rfl) ?_
  refine wskip (some 16) (by kernel_rfl) (by kernel_rfl) ?_
  refine wval (some 17) (.bool true) wz3 (by kernel_rfl) (by kernel_rfl) (by kernel_rfl) ?_
  refine wval (some 18) (.bool true) wz3 (by kernel_rfl) (by kernel_rfl) (by kernel_rfl) ?_
  refine wskip (some 19) (by kernel_rfl) (by kernel_rfl) ?_
  refine wskip (some 20) (by kernel_rfl) (by kernel_rfl) ?_
  refine wval (some 21) (.bool true) wz3 (by kernel_rfl) (by kernel_rfl) (by kernel_rfl) ?_
  refine wval (some 22) (.bool true) wz3 (by kernel_rfl) (by kernel_rfl) (by kernel_rfl) ?_
  refine wskip (some 23) (by kernel_rfl) (by kernel_rfl) ?_
  refine wskip (some 24) (by kernel_rfl) (by kernel_rfl) ?_
  refine wval (some 25) (.bool true) wz3 (by kernel_rfl) (by kernel_rfl) (by kernel_rfl) ?_
  refine wnil (hKC6 _ _ (?_))
  clear hKC6
  refine wp_cond_true (by kernel_rfl) ?_
  refine wp_seq_k ?_
  intro KC7 hKC7
  refine wp_regionW ?_
  refine wval (some 26) (.agg #[.int .i64 0, .int .i64 0, .int .u64 0, .slice none 0 0, .int .i64 0, .int .u64 0, .bool false, .int .i64 0, .slice none 0 0, .int .i64 0, .slice none 0 0, .slice none 0 0, .int .i64 0, .int .i64 0, .int .i64 0, .int .i64 0, .int .i64 0, .int .i64 0, .int .i64 0, .int .i64 0, .int .i64 0, .int .i64 0, .int .i64 0, .slice none 0 0, .bool false, .slice none 0 0, .int .i64 0, .int .i64 0, .bool false, .int .i64 0]) wz3 (by kernel_rfl) (by kernel_rfl) (by kernel_rfl) ?_
  refine wstoreP (by kernel_rfl) (by kernel_rfl) 45 (.tmp 8) (.tmp 26) (by kernel_rfl) g2 0 (by kernel_rfl) #[.int .i64 0, .int .i64 0, .int .u64 0, .slice none 0 0, .int .i64 0, .int .u64 0, .bool false, .int .i64 0, .slice none 0 0, .int .i64 0, .slice none 0 0, .slice none 0 0, .int .i64 0, .int .i64 0, .int .i64 0, .int .i64 0, .int .i64 0, .int .i64 0, .int .i64 0, .int .i64 0, .int .i64 0, .int .i64 0, .int .i64 0, .slice none 0 0, .bool false, .slice none 0 0, .int .i64 0, .int .i64 0, .bool false, .int .i64 0] (by kernel_rfl) 45 #[.int .i64 0, .int .i64 0, .int .u64 0, .slice none 0 0, .int .i64 0, .int .u64 0, .bool false, .int .i64 0, .slice none 0 0, .int .i64 0, .slice none 0 0, .slice none 0 0, .int .i64 0, .int .i64 0, .int .i64 0, .int .i64 0, .int .i64 0, .int .i64 0, .int .i64 0, .int .i64 0, .int .i64 0, .int .i64 0, .int .i64 0, .slice none 0 0, .bool false, .slice none 0 0, .int .i64 0, .int .i64 0, .bool false, .int .i64 0] HKg2.out (by kernel_rfl) (Nat.le_of_eq (by kernel_rfl)) (all_one (by kernel_rfl)) #[.int .i64 0, .int .i64 0, .int .u64 0, .slice none 0 0, .int .i64 0, .int .u64 0, .bool false, .int .i64 0, .slice none 0 0, .int .i64 0, .slice none 0 0, .slice none 0 0, .int .i64 0, .int .i64 0, .int .i64 0, .int .i64 0, .int .i64 0, .int .i64 0, .int .i64 0, .int .i64 0, .int .i64 0, .int .i64 0, .int .i64 0, .slice none 0 0, .bool false, .slice none 0 0, .int .i64 0, .int .i64 0, .bool false, .int .i64 0] (splice_all _ _ (by kernel_rfl)) ?_
  intro wz8 hBwz8 hwwz8
  have HF9 := Lib.hid (hwwz8.trans_below HF4.out hlg2)
  clear HF4
  have HK10 := Lib.hid hBwz8
  clear HKg2
  refine wval (some 9) (.int .i64 6) wz8 (by kernel_rfl) (by kernel_rfl) (by kernel_rfl) ?_
  refine wnil (hKC7 _ _ (?_))
  clear hKC7
  refine wp_ret ?_
  refine then_ret ?_
  refine bodyPost_ret (results_c2 _ _ g2 _ #[.int .i64 0, .int .i64 0, .int .u64 0, .slice none 0 0, .int .i64 0, .int .u64 0, .bool false, .int .i64 0, .slice none 0 0, .int .i64 0, .slice none 0 0, .slice none 0 0, .int .i64 0, .int .i64 0, .int .i64 0, .int .i64 0, .int .i64 0, .int .i64 0, .int .i64 0, .int .i64 0, .int .i64 0, .int .i64 0, .int .i64 0, .slice none 0 0, .bool false, .slice none 0 0, .int .i64 0, .int .i64 0, .bool false, .int .i64 0] _ Tryz.results34 (by kernel_rfl) HK10.out Tryz.underlying45 rfl (by kernel_rfl) (by kernel_rfl)) rfl ⟨rfl, HF9.out⟩
set_option maxRecDepth 100000 in
set_option maxHeartbeats 4000000 in
theorem gateTick_bad (g : GtD) (ok : GOk g []) (w : World) : Calls Tryz.prog 46 #[.agg (gcs g none 0 0), .int .i64 0] w fun e w' => e = .returned (.tuple #[.agg #[.int .u64 0, .int .i64 0, .int .i64 0, .slice none 0 0, .bool false, .int .i64 0, .int .i64 0, .bool false, .int .i64 0, .int .i64 0, .bool false, .int .i64 0, .int .i64 0, .bool false, .int .i64 0, .int .i64 0, .bool false, .int .i64 0], .slice none 0 0, .int .i64 6]) ∧ Below w.heap.size w w' := by
  have HK := Lib.hid ok
  have HB0 := Lib.hid (Below.refl w.heap.size w)
  clear ok
  go_enter Tryz.func46, Tryz.ntmps46
  refine wp_seq_k ?_
  intro KC1 hKC1
  refine wp_regionW ?_
  refine wnew (some 2) 29 (gcs g none 0 0) (fun q => .pointer (some ⟨q, 0, none⟩)) (by kernel_rfl) (by kernel_rfl) (by kernel_rfl) ?_
  intro wz3 g2 hg2 hBg2 hbg2
  have hlg2 : w.heap.size ≤ g2 := by rw [← hg2]; exact HB0.out.size
  have HF4 := Lib.hid (HB0.out.trans (hbg2.mono HB0.out.size))
  have HKg2 := Lib.hid hBg2
  clear hBg2 hbg2
  refine wnew (some 4) 29 #[.int .u64 0, .int .i64 0, .int .i64 0, .slice none 0 0, .bool false, .int .i64 0, .int .i64 0, .bool false, .int .i64 0, .int .i64 0, .bool false, .int .i64 0, .int .i64 0, .bool false, .int .i64 0, .int .i64 0, .bool false, .int .i64 0] (fun q => .pointer (some ⟨q, 0, none⟩)) (by kernel_rfl) (by kernel_rfl) (by kernel_rfl) ?_
  intro wz6 g5 hg5 hBg5 hbg5
  have hneg2g5 : g2 ≠ g5 := by have := HKg2.out.lt; omega
  have hlg5 : w.heap.size ≤ g5 := by rw [← hg5]; exact HF4.out.size
  have HK7 := Lib.hid (HKg2.out.carry hbg5)
  clear HKg2
  have HF8 := Lib.hid (HF4.out.trans (hbg5.mono HF4.out.size))
  clear HF4
  have HKg5 := Lib.hid hBg5
  clear hBg5 hbg5
  refine wval (some 5) (.slice none 0 0) wz6 (by kernel_rfl) (by kernel_rfl) (by kernel_rfl) ?_
  refine wval (some 6) (.int .i64 0) wz6 (by kernel_rfl) (by kernel_rfl) (by kernel_rfl) ?_
  refine wnil (hKC1 _ _ (?_))
  clear hKC1
  refine wp_seq_k ?_
  intro KC9 hKC9
  refine wp_seq_k ?_
  intro KC10 hKC10
  refine wp_regionW ?_
  refine wloadR (some 10) (by kernel_rfl) (by kernel_rfl) 29 (.tmp 2) (by kernel_rfl) g2 0 (by kernel_rfl) (gcs g none 0 0) _ Tryz.underlying29 rfl (by kernel_rfl) HK7.out.whole ?_
  refine wcall (some 11) 18 #[.agg (gcs g none 0 0)] (by kernel_rfl) (by kernel_rfl) (by kernel_rfl) ?_
  refine (gateCheck_ok g none 0 0 [] _ (gtv_nil _ _ HK.out)).mono ?_
  rintro e wz11 ⟨rfl, hbc⟩
  refine ⟨_, rfl, ?_⟩
  have HK12 := Lib.hid (HK7.out.carry hbc)
  clear HK7
  have HK13 := Lib.hid (HKg5.out.carry hbc)
  clear HKg5
  have HF14 := Lib.hid (HF8.out.trans (hbc.mono HF8.out.size))
  clear HF8
  clear hbc
  refine wval (some 7) (.int .i64 0) wz11 (by kernel_rfl) (by kernel_rfl) (by kernel_rfl) ?_
  refine wnil (hKC10 _ _ (?_))
  clear hKC10
  refine wp_seq_k ?_
  intro KC15 hKC15
  refine wp_regionW ?_
  refine wval (some 12) (.int .i64 0) wz11 (by kernel_rfl) (by kernel_rfl) (by kernel_rfl) ?_
  refine wval (some 13) (.bool false) wz11 (by kernel_rfl) (by kernel_rfl) (by kernel_rfl) ?_
  refine wnil (hKC15 _ _ (?_))
  clear hKC15
  refine wp_cond_false (by kernel_rfl) ?_
  refine wp_skip (hKC9 _ _ (?_))
  clear hKC9
  refine wp_seq_k ?_
  intro KC16 hKC16
  refine wp_seq_k ?_
  intro KC17 hKC17
  refine wp_regionW ?_
  refine wval (some 16) (.int .i64 0) wz11 (by kernel_rfl) (by kernel_rfl) (by kernel_rfl) ?_
  refine wval (some 17) (.bool true) wz11 (by kernel_rfl) (by kernel_rfl) (by kernel_rfl) ?_
  refine wval (some 18) (.bool true) wz11 (by kernel_rfl) (by kernel_rfl) (by kernel_rfl) ?_
  refine wskip (some 19) (by kernel_rfl) (by kernel_rfl) ?_
  refine wskip (some 20) (by kernel_rfl) (by kernel_rfl) ?_
  refine wval (some 21) (.bool true) wz11 (by kernel_rfl) (by kernel_rfl) (by kernel_rfl) ?_
  refine wval (some 22) (.bool true) wz11 (by kernel_rfl) (by kernel_rfl) (by kernel_rfl) ?_
  refine wskip (some 23) (by kernel_rfl) (by kernel_rfl) ?_
  refine wskip (some 24) (by kernel_rfl) (by kernel_rfl) ?_
  refine wskip (some 25) (by kernel_rfl) (by kernel_rfl) ?_
  refine wskip (some 26) (by kernel_rfl) (by kernel_rfl) ?_
  refine wskip (some 27) (by kernel_rfl) (by kernel_rfl) ?_
  refine wval (some 28) (.bool true) wz11 (by kernel_rfl) (by kernel_rfl) (by kernel_rfl) ?_
  refine wnil (hKC17 _ _ (?_))
  clear hKC17
  refine wp_cond_true (by kernel_rfl) ?_
  refine wp_seq_k ?_
  intro KC18 hKC18
  refine wp_regionW ?_
  refine wval (some 29) (.agg #[.int .u64 0, .int .i64 0, .int .i64 0, .slice none 0 0, .bool false, .int .i64 0, .int .i64 0, .bool false, .int .i64 0, .int .i64 0, .bool false, .int .i64 0, .int .i64 0, .bool false, .int .i64 0, .int .i64 0, .bool false, .int .i64 0]) wz11 (by kernel_rfl) (by kernel_rfl) (by kernel_rfl) ?_
  refine wstoreP (by kernel_rfl) (by kernel_rfl) 29 (.tmp 4) (.tmp 29) (by kernel_rfl) g5 0 (by kernel_rfl) #[.int .u64 0, .int .i64 0, .int .i64 0, .slice none 0 0, .bool false, .int .i64 0, .int .i64 0, .bool false, .int .i64 0, .int .i64 0, .bool false, .int .i64 0, .int .i64 0, .bool false, .int .i64 0, .int .i64 0, .bool false, .int .i64 0] (by kernel_rfl) 29 #[.int .u64 0, .int .i64 0, .int .i64 0, .slice none 0 0, .bool false, .int .i64 0, .int .i64 0, .bool false, .int .i64 0, .int .i64 0, .bool false, .int .i64 0, .int .i64 0, .bool false, .int .i64 0, .int .i64 0, .bool false, .int .i64 0] HK13.out (by kernel_rfl) (Nat.le_of_eq (by kernel_rfl)) (all_one (by kernel_rfl)) #[.int .u64 0, .int .i64 0, .int .i64 0, .slice none 0 0, .bool false, .int .i64 0, .int .i64 0, .bool false, .int .i64 0, .int .i64 0, .bool false, .int .i64 0, .int .i64 0, .bool false, .int .i64 0, .int .i64 0, .bool false, .int .i64 0] (splice_all _ _ (by kernel_rfl)) ?_
  intro wz19 hBwz19 hwwz19
  have HK20 := Lib.hid (HK12.out.wr hwwz19 hneg2g5)
  clear HK12
  have HF21 := Lib.hid (hwwz19.trans_below HF14.out hlg5)
  clear HF14
  have HK22 := Lib.hid hBwz19
  clear HK13
  refine wval (some 5) (.slice none 0 0) wz19 (by kernel_rfl) (by kernel_rfl) (by kernel_rfl) ?_
  refine wval (some 6) (.int .i64 6) wz19 (by kernel_rfl) (by kernel_rfl) (by kernel_rfl) ?_
  refine wnil (hKC18 _ _ (?_))
  clear hKC18
  refine wp_ret ?_
  refine then_ret ?_
  refine bodyPost_ret (results_c3 _ _ g5 _ #[.int .u64 0, .int .i64 0, .int .i64 0, .slice none 0 0, .bool false, .int .i64 0, .int .i64 0, .bool false, .int .i64 0, .int .i64 0, .bool false, .int .i64 0, .int .i64 0, .bool false, .int .i64 0, .int .i64 0, .bool false, .int .i64 0] _ Tryz.results46 (by kernel_rfl) HK22.out Tryz.underlying29 rfl (by kernel_rfl) (by kernel_rfl) (by kernel_rfl)) rfl ⟨rfl, HF21.out⟩
set_option maxRecDepth 100000 in
set_option maxHeartbeats 4000000 in
theorem dial_bad (g : GtD)  (gp : Nat) (w : World) (hw : Blk w gp 158 (wld g none 0 0)) :
    Calls Tryz.prog 115 #[.pointer (some ⟨gp, 0, none⟩), .agg #[.int .i64 1, .int .i64 (-1), .int .i64 0, .int .i64 0, .int .u64 0, .slice none 0 0]] w fun e w' => e = .returned (.int .i64 6) ∧ Below w.heap.size w w' := by
  have HG0 := Lib.hid hw
  have HB0 := Lib.hid (Below.refl w.heap.size w)
  clear hw
  go_enter Tryz.func115, Tryz.ntmps115
  refine wp_seq_k ?_
  intro KC1 hKC1
  refine wp_regionW ?_
  refine wnew (some 3) 99 #[.int .i64 1, .int .i64 (-1), .int .i64 0, .int .i64 0, .int .u64 0, .slice none 0 0] (fun q => .pointer (some ⟨q, 0, none⟩)) (by kernel_rfl) (by kernel_rfl) (by kernel_rfl) ?_
  intro wz3 g2 hg2 hBg2 hbg2
  have hlg2 : w.heap.size ≤ g2 := by rw [← hg2]; exact HB0.out.size
  have HK4 := Lib.hid (HG0.out.carry hbg2)
  have HF5 := Lib.hid (HB0.out.trans (hbg2.mono HB0.out.size))
  have HKg2 := Lib.hid hBg2
  clear hBg2 hbg2
  refine wval (some 4) (.int .i64 0) wz3 (by kernel_rfl) (by kernel_rfl) (by kernel_rfl) ?_
  refine wnil (hKC1 _ _ (?_))
  clear hKC1
  refine wp_seq_k ?_
  intro KC6 hKC6
  refine wp_seq_k ?_
  intro KC7 hKC7
  refine wp_regionW ?_
  refine wval (some 8) (.pointer (some ⟨gp, 0, none⟩)) wz3 (by kernel_rfl) (by kernel_rfl) (by kernel_rfl) ?_
  refine wval (some 9) (.pointer (some ⟨gp, 0, none⟩)) wz3 (by kernel_rfl) (by kernel_rfl) (by kernel_rfl) ?_
  refine wval (some 10) (.pointer (some ⟨gp, 0, none⟩)) wz3 (by kernel_rfl) (by kernel_rfl) (by kernel_rfl) ?_
  refine wval (some 11) (.pointer (some ⟨gp, 18, none⟩)) wz3 (by kernel_rfl) (by kernel_rfl) (by kernel_rfl) ?_
  refine wload (some 12) (.slice none 0 0) 102 (.tmp 11) gp 18 _ (by kernel_rfl) (by kernel_rfl) (by kernel_rfl) (by kernel_rfl) Tryz.underlying102 rfl (by rw [HK4.out.cell]; kernel_rfl) ?_
  refine wval (some 13) (.int .i64 0) wz3 (by kernel_rfl) (by kernel_rfl) (by kernel_rfl) ?_
  refine wval (some 14) (.bool false) wz3 (by kernel_rfl) (by kernel_rfl) (by kernel_rfl) ?_
  refine wnil (hKC7 _ _ (?_))
  clear hKC7
  refine wp_cond_false (by kernel_rfl) ?_
  refine wp_skip (hKC6 _ _ (?_))
  clear hKC6
  refine wp_seq_k ?_
  intro KC8 hKC8
  refine wp_flow (fun k => decide (k < 21)) (fun k => k == 16 || k == 20) 64 [0, 1, 2, 3, 4, 5, 6, 7, 8, 9, 10, 11, 12, 13, 14, 15, 16, 17, 18, 19, 20] (fun w' => Below wz3.heap.size wz3 w') (fun k a v w' => (k = 16 → v = .tuple #[.agg #[.int .i64 0, .int .i64 0, .int .u64 0, .slice none 0 0, .int .i64 0, .int .u64 0, .bool false, .int .i64 0, .slice none 0 0, .int .i64 0, .slice none 0 0, .slice none 0 0, .int .i64 0, .int .i64 0, .int .i64 0, .int .i64 0, .int .i64 0, .int .i64 0, .int .i64 0, .int .i64 0, .int .i64 0, .int .i64 0, .int .i64 0, .slice none 0 0, .bool false, .slice none 0 0, .int .i64 0, .int .i64 0, .bool false, .int .i64 0], .int .i64 6]) ∧ (k = 20 → ∃ g, v = .pointer (some ⟨g, 0, none⟩) ∧ wz3.heap.size ≤ g ∧ Blk w' g 45 #[.int .i64 0, .int .i64 0, .int .u64 0, .slice none 0 0, .int .i64 0, .int .u64 0, .bool false, .int .i64 0, .slice none 0 0, .int .i64 0, .slice none 0 0, .slice none 0 0, .int .i64 0, .int .i64 0, .int .i64 0, .int .i64 0, .int .i64 0, .int .i64 0, .int .i64 0, .int .i64 0, .int .i64 0, .int .i64 0, .int .i64 0, .slice none 0 0, .bool false, .slice none 0 0, .int .i64 0, .int .i64 0, .bool false, .int .i64 0])) (by kernel_rfl) ?hflB ?hpuB ?hksB (fun _ _ _ _ _ h => h) (by kernel_rfl) ?hst ?hC ?_
  case hflB => kernel_rfl
  case hpuB => kernel_rfl
  case hksB => kernel_rfl
  case hst => exact ⟨fun w0 w1 h1 hb => h1.trans (hb.mono h1.size), fun k a v w0 w1 hW hb => ⟨fun e => (fun hp => hp) (hW.1 e), fun e => (fun hp => by obtain ⟨g, e1, e0, e2⟩ := hp; exact ⟨g, e1, e0, e2.carry hb⟩) (hW.2 e)⟩, fun k a b v w0 _ h => h⟩
  case hC => exact (Below.refl _ _).drew
  refine fq 16 (.pointer (some ⟨g2, 1, none⟩)) (by kernel_rfl) (by kernel_rfl) (by kernel_rfl) (by kernel_rfl) (fun w => (by kernel_rfl)) ?_
  refine fq1 17 (.int .i64 (-1)) 3 (.tmp 16) g2 1 _ (by kernel_rfl) (by kernel_rfl) (by kernel_rfl) (by kernel_rfl) (by kernel_rfl) (by kernel_rfl) Tryz.underlying3 rfl (fun w hw => by rw [(HKg2.out.carry hw.1).cell]; kernel_rfl) ?_
  refine fq 18 (.pointer (some ⟨gp, 0, none⟩)) (by kernel_rfl) (by kernel_rfl) (by kernel_rfl) (by kernel_rfl) (fun w => (by kernel_rfl)) ?_
  refine fq 19 (.pointer (some ⟨gp, 0, none⟩)) (by kernel_rfl) (by kernel_rfl) (by kernel_rfl) (by kernel_rfl) (fun w => (by kernel_rfl)) ?_
  refine fq 20 (.pointer (some ⟨gp, 0, none⟩)) (by kernel_rfl) (by kernel_rfl) (by kernel_rfl) (by kernel_rfl) (fun w => (by kernel_rfl)) ?_
  refine fq 21 (.pointer (some ⟨gp, 18, none⟩)) (by kernel_rfl) (by kernel_rfl) (by kernel_rfl) (by kernel_rfl) (fun w => (by kernel_rfl)) ?_
  refine fq1 22 (.slice none 0 0) 102 (.tmp 21) gp 18 _ (by kernel_rfl) (by kernel_rfl) (by kernel_rfl) (by kernel_rfl) (by kernel_rfl) (by kernel_rfl) Tryz.underlying102 rfl (fun w hw => by rw [(HK4.out.carry hw.1).cell]; kernel_rfl) ?_
  refine fq 23 (.int .i64 0) (by kernel_rfl) (by kernel_rfl) (by kernel_rfl) (by kernel_rfl) (fun w => (by kernel_rfl)) ?_
  refine fq 24 (.int .i64 1) (by kernel_rfl) (by kernel_rfl) (by kernel_rfl) (by kernel_rfl) (fun w => (by kernel_rfl)) ?_
  refine fq 25 (.pointer (some ⟨g2, 4, none⟩)) (by kernel_rfl) (by kernel_rfl) (by kernel_rfl) (by kernel_rfl) (fun w => (by kernel_rfl)) ?_
  refine fq1 26 (.int .u64 0) 23 (.tmp 25) g2 4 _ (by kernel_rfl) (by kernel_rfl) (by kernel_rfl) (by kernel_rfl) (by kernel_rfl) (by kernel_rfl) Tryz.underlying23 rfl (fun w hw => by rw [(HKg2.out.carry hw.1).cell]; kernel_rfl) ?_
  refine fq 27 (.pointer (some ⟨gp, 0, none⟩)) (by kernel_rfl) (by kernel_rfl) (by kernel_rfl) (by kernel_rfl) (fun w => (by kernel_rfl)) ?_
  refine fq 28 (.pointer (some ⟨gp, 0, none⟩)) (by kernel_rfl) (by kernel_rfl) (by kernel_rfl) (by kernel_rfl) (fun w => (by kernel_rfl)) ?_
  refine fq 29 (.pointer (some ⟨gp, 0, none⟩)) (by kernel_rfl) (by kernel_rfl) (by kernel_rfl) (by kernel_rfl) (fun w => (by kernel_rfl)) ?_
  refine fq 30 (.pointer (some ⟨gp, 20, none⟩)) (by kernel_rfl) (by kernel_rfl) (by kernel_rfl) (by kernel_rfl) (fun w => (by kernel_rfl)) ?_
  refine fq1 31 (.int .i64 0) 3 (.tmp 30) gp 20 _ (by kernel_rfl) (by kernel_rfl) (by kernel_rfl) (by kernel_rfl) (by kernel_rfl) (by kernel_rfl) Tryz.underlying3 rfl (fun w hw => by rw [(HK4.out.carry hw.1).cell]; kernel_rfl) ?_
  refine fcall 32 34 #[.int .i64 (-1), .int .i64 1, .int .u64 0, .int .i64 0] (by kernel_rfl) (by kernel_rfl) (by kernel_rfl) (by kernel_rfl) (fun w => (by kernel_rfl)) (fun w hw => (clBegin_bad 1 0 0 w).mono ?hx16_32) ?_
  case hx16_32 =>
    rintro e w' ⟨rfl, hb⟩
    exact ⟨_, rfl, ⟨fun _ => rfl, fun e => absurd e (by decide)⟩, hw.1.trans (hb.mono hw.1.size), hb⟩
  rintro v ⟨w', hw', hW⟩
  obtain rfl := hW.1 rfl
  clear  hW hw' w'
  refine fq 15 (.tuple #[.agg #[.int .i64 0, .int .i64 0, .int .u64 0, .slice none 0 0, .int .i64 0, .int .u64 0, .bool false, .int .i64 0, .slice none 0 0, .int .i64 0, .slice none 0 0, .slice none 0 0, .int .i64 0, .int .i64 0, .int .i64 0, .int .i64 0, .int .i64 0, .int .i64 0, .int .i64 0, .int .i64 0, .int .i64 0, .int .i64 0, .int .i64 0, .slice none 0 0, .bool false, .slice none 0 0, .int .i64 0, .int .i64 0, .bool false, .int .i64 0], .int .i64 6]) (by kernel_rfl) (by kernel_rfl) (by kernel_rfl) (by kernel_rfl) (fun w => (by kernel_rfl)) ?_
  refine fq 33 (.agg #[.int .i64 0, .int .i64 0, .int .u64 0, .slice none 0 0, .int .i64 0, .int .u64 0, .bool false, .int .i64 0, .slice none 0 0, .int .i64 0, .slice none 0 0, .slice none 0 0, .int .i64 0, .int .i64 0, .int .i64 0, .int .i64 0, .int .i64 0, .int .i64 0, .int .i64 0, .int .i64 0, .int .i64 0, .int .i64 0, .int .i64 0, .slice none 0 0, .bool false, .slice none 0 0, .int .i64 0, .int .i64 0, .bool false, .int .i64 0]) (by kernel_rfl) (by kernel_rfl) (by kernel_rfl) (by kernel_rfl) (fun w => (by kernel_rfl)) ?_
  refine fq 34 (.int .i64 6) (by kernel_rfl) (by kernel_rfl) (by kernel_rfl) (by kernel_rfl) (fun w => (by kernel_rfl)) ?_
  refine fnew 5 (fun w => .pointer (some ⟨w.heap.size, 0, none⟩)) (fun w => w.alloc (.cells #[.int .i64 0, .int .i64 0, .int .u64 0, .slice none 0 0, .int .i64 0, .int .u64 0, .bool false, .int .i64 0, .slice none 0 0, .int .i64 0, .slice none 0 0, .slice none 0 0, .int .i64 0, .int .i64 0, .int .i64 0, .int .i64 0, .int .i64 0, .int .i64 0, .int .i64 0, .int .i64 0, .int .i64 0, .int .i64 0, .int .i64 0, .slice none 0 0, .bool false, .slice none 0 0, .int .i64 0, .int .i64 0, .bool false, .int .i64 0] 45)) (by kernel_rfl) (by kernel_rfl) (by kernel_rfl) (by kernel_rfl) (fun w => (by kernel_rfl)) (fun w hw => ⟨⟨fun e => absurd e (by decide), fun _ => ⟨w.heap.size, rfl, hw.1.size, Blk.new _ _ _⟩⟩, hw.1.alloc hw.1.size _, (Below.refl _ _).alloc (Nat.le_refl _) _⟩) ?_
  rintro v ⟨w', hw', hW⟩
  obtain ⟨g9, rfl, hlog9, h4⟩ := hW.2 rfl
  clear h4 hW hw' w'
  refine fend [21, 22] (by kernel_rfl) (by kernel_rfl) ?_
  intro wf10 hwwf10 hF
  obtain ⟨g_, e_, _, hNg9⟩ := (hF _ List.mem_cons_self).2 rfl
  obtain rfl : g9 = g_ := by injection e_ with e_; simpa using e_
  clear e_
  clear hF
  have hlg9 : w.heap.size ≤ g9 := Nat.le_trans HF5.out.size hlog9
  have HK11 := Lib.hid (HK4.out.carry hwwf10)
  clear HK4
  have HK12 := Lib.hid (HKg2.out.carry hwwf10)
  clear HKg2
  have HF13 := Lib.hid (HF5.out.trans (hwwf10.mono HF5.out.size))
  clear HF5
  have HKg9 := Lib.hid hNg9
  clear hNg9
  refine tstoreP (by kernel_rfl) (by kernel_rfl) 45 (.tmp 5) (.tmp 33) (by kernel_rfl) g9 0 (by kernel_rfl) #[.int .i64 0, .int .i64 0, .int .u64 0, .slice none 0 0, .int .i64 0, .int .u64 0, .bool false, .int .i64 0, .slice none 0 0, .int .i64 0, .slice none 0 0, .slice none 0 0, .int .i64 0, .int .i64 0, .int .i64 0, .int .i64 0, .int .i64 0, .int .i64 0, .int .i64 0, .int .i64 0, .int .i64 0, .int .i64 0, .int .i64 0, .slice none 0 0, .bool false, .slice none 0 0, .int .i64 0, .int .i64 0, .bool false, .int .i64 0] (by kernel_rfl) 45 #[.int .i64 0, .int .i64 0, .int .u64 0, .slice none 0 0, .int .i64 0, .int .u64 0, .bool false, .int .i64 0, .slice none 0 0, .int .i64 0, .slice none 0 0, .slice none 0 0, .int .i64 0, .int .i64 0, .int .i64 0, .int .i64 0, .int .i64 0, .int .i64 0, .int .i64 0, .int .i64 0, .int .i64 0, .int .i64 0, .int .i64 0, .slice none 0 0, .bool false, .slice none 0 0, .int .i64 0, .int .i64 0, .bool false, .int .i64 0] HKg9.out (by kernel_rfl) (Nat.le_of_eq (by kernel_rfl)) (all_one (by kernel_rfl)) #[.int .i64 0, .int .i64 0, .int .u64 0, .slice none 0 0, .int .i64 0, .int .u64 0, .bool false, .int .i64 0, .slice none 0 0, .int .i64 0, .slice none 0 0, .slice none 0 0, .int .i64 0, .int .i64 0, .int .i64 0, .int .i64 0, .int .i64 0, .int .i64 0, .int .i64 0, .int .i64 0, .int .i64 0, .int .i64 0, .int .i64 0, .slice none 0 0, .bool false, .slice none 0 0, .int .i64 0, .int .i64 0, .bool false, .int .i64 0] (splice_all _ _ (by kernel_rfl)) ?_
  intro wz14 hBwz14 hwwz14
  have HK15 := Lib.hid (HK11.out.wr hwwz14 (Blk.neq HK11.out HKg9.out (by decide)))
  clear HK11
  have HK16 := Lib.hid (HK12.out.wr hwwz14 (Blk.neq HK12.out HKg9.out (by decide)))
  clear HK12
  have HF17 := Lib.hid (hwwz14.trans_below HF13.out hlg9)
  clear HF13
  have HK18 := Lib.hid hBwz14
  clear HKg9
  refine tval (some 6) (.int .i64 6) wz14 (by kernel_rfl) (by kernel_rfl) (by kernel_rfl) ?_
  refine tend (hKC8 _ _ (?_))
  clear hKC8
  refine wp_seq_k ?_
  intro KC19 hKC19
  refine wp_seq_k ?_
  intro KC20 hKC20
  refine wp_regionW ?_
  refine wval (some 35) (.int .i64 6) wz14 (by kernel_rfl) (by kernel_rfl) (by kernel_rfl) ?_
  refine wval (some 36) (.bool true) wz14 (by kernel_rfl) (by kernel_rfl) (by kernel_rfl) ?_
  refine wnil (hKC20 _ _ (?_))
  clear hKC20
  refine wp_cond_true (by kernel_rfl) ?_
  refine wp_seq_k ?_
  intro KC21 hKC21
  refine wp_regionW ?_
  refine wval (some 37) (.int .i64 6) wz14 (by kernel_rfl) (by kernel_rfl) (by kernel_rfl) ?_
  refine wval (some 4) (.int .i64 6) wz14 (by kernel_rfl) (by kernel_rfl) (by kernel_rfl) ?_
  refine wnil (hKC21 _ _ (?_))
  clear hKC21
  refine wp_ret ?_
  refine then_ret ?_
  refine bodyPost_ret (v := .int .i64 6) (by kernel_rfl) rfl ⟨rfl, HF17.out⟩
set_option maxRecDepth 100000 in
set_option maxHeartbeats 4000000 in
theorem act_dial (g : GtD)  (gp : Nat) (w : World) (hw : Blk w gp 158 (wld g none 0 0)) :
    Calls Tryz.prog 76 #[.pointer (some ⟨gp, 0, none⟩), .agg #[.int .i64 1, .int .i64 (-1), .int .i64 0, .int .i64 0, .int .u64 0, .slice none 0 0]] w fun e w' => e = .returned (.int .i64 6) ∧ Below w.heap.size w w' := by
  have HG0 := Lib.hid hw
  have HB0 := Lib.hid (Below.refl w.heap.size w)
  clear hw
  go_enter Tryz.func76, Tryz.ntmps76
  refine wp_seq_k ?_
  intro KC1 hKC1
  refine wp_regionW ?_
  refine wnew (some 3) 99 #[.int .i64 1, .int .i64 (-1), .int .i64 0, .int .i64 0, .int .u64 0, .slice none 0 0] (fun q => .pointer (some ⟨q, 0, none⟩)) (by kernel_rfl) (by kernel_rfl) (by kernel_rfl) ?_
  intro wz3 g2 hg2 hBg2 hbg2
  have hlg2 : w.heap.size ≤ g2 := by rw [← hg2]; exact HB0.out.size
  have HK4 := Lib.hid (HG0.out.carry hbg2)
  have HF5 := Lib.hid (HB0.out.trans (hbg2.mono HB0.out.size))
  have HKg2 := Lib.hid hBg2
  clear hBg2 hbg2
  refine wval (some 4) (.int .i64 0) wz3 (by kernel_rfl) (by kernel_rfl) (by kernel_rfl) ?_
  refine wnil (hKC1 _ _ (?_))
  clear hKC1
  refine wp_seq_k ?_
  intro KC6 hKC6
  refine wp_seq_k ?_
  intro KC7 hKC7
  refine wp_regionW ?_
  refine wval (some 7) (.pointer (some ⟨g2, 0, none⟩)) wz3 (by kernel_rfl) (by kernel_rfl) (by kernel_rfl) ?_
  refine wload (some 8) (.int .i64 1) 3 (.tmp 7) g2 0 _ (by kernel_rfl) (by kernel_rfl) (by kernel_rfl) (by kernel_rfl) Tryz.underlying3 rfl (by rw [HKg2.out.cell]; kernel_rfl) ?_
  refine wnil (hKC7 _ _ (?_))
  clear hKC7
  refine wp_block ?_
  refine wp_seq_k ?_
  intro KC8 hKC8
  refine wp_regionW ?_
  refine wval (some 10) (.bool true) wz3 (by kernel_rfl) (by kernel_rfl) (by kernel_rfl) ?_
  refine wval (some 9) (.bool true) wz3 (by kernel_rfl) (by kernel_rfl) (by kernel_rfl) ?_
  refine wnil (hKC8 _ _ (?_))
  clear hKC8
  refine wp_cond_true (by kernel_rfl) ?_
  refine wp_seq_k ?_
  intro KC9 hKC9
  refine wp_regionW ?_
  refine wval (some 11) (.pointer (some ⟨gp, 0, none⟩)) wz3 (by kernel_rfl) (by kernel_rfl) (by kernel_rfl) ?_
  refine wloadR (some 12) (by kernel_rfl) (by kernel_rfl) 99 (.tmp 3) (by kernel_rfl) g2 0 (by kernel_rfl) #[.int .i64 1, .int .i64 (-1), .int .i64 0, .int .i64 0, .int .u64 0, .slice none 0 0] _ Tryz.underlying99 rfl (by kernel_rfl) HKg2.out.whole ?_
  refine wcall (some 13) 115 #[.pointer (some ⟨gp, 0, none⟩), .agg #[.int .i64 1, .int .i64 (-1), .int .i64 0, .int .i64 0, .int .u64 0, .slice none 0 0]] (by kernel_rfl) (by kernel_rfl) (by kernel_rfl) ?_
  refine (dial_bad g gp _ HK4.out).mono ?_
  rintro e wz10 ⟨rfl, hbc⟩
  refine ⟨_, rfl, ?_⟩
  have HK11 := Lib.hid (HK4.out.carry hbc)
  clear HK4
  have HK12 := Lib.hid (HKg2.out.carry hbc)
  clear HKg2
  have HF13 := Lib.hid (HF5.out.trans (hbc.mono HF5.out.size))
  clear HF5
  clear hbc
  refine wval (some 4) (.int .i64 6) wz10 (by kernel_rfl) (by kernel_rfl) (by kernel_rfl) ?_
  refine wnil (hKC9 _ _ (?_))
  clear hKC9
  refine wp_ret ?_
  refine inBlock_ret ?_
  refine then_ret ?_
  refine bodyPost_ret (v := .int .i64 6) (by kernel_rfl) rfl ⟨rfl, HF13.out⟩
set_option maxRecDepth 100000 in
set_option maxHeartbeats 4000000 in
theorem pass_bad (g : GtD) (ok : GOk g []) (gp : Nat) (w : World) (hw : Blk w gp 158 (wld g none 0 0)) :
    Calls Tryz.prog 120 #[.pointer (some ⟨gp, 0, none⟩), .int .i64 0] w fun e w' => e = .returned (.int .i64 6) ∧ Below w.heap.size w w' := by
  have HG0 := Lib.hid hw
  have HB0 := Lib.hid (Below.refl w.heap.size w)
  have HOKG := Lib.hid ok
  clear hw ok
  go_enter Tryz.func120, Tryz.ntmps120
  refine wp_seq_k ?_
  intro KC1 hKC1
  refine wp_regionW ?_
  refine wval (some 4) (.int .i64 0) w (by kernel_rfl) (by kernel_rfl) (by kernel_rfl) ?_
  refine wnil (hKC1 _ _ (?_))
  clear hKC1
  refine wp_seq_k ?_
  intro KC2 hKC2
  refine wp_regionW ?_
  refine wval (some 14) (.pointer (some ⟨gp, 0, none⟩)) w (by kernel_rfl) (by kernel_rfl) (by kernel_rfl) ?_
  refine wval (some 15) (.pointer (some ⟨gp, 0, none⟩)) w (by kernel_rfl) (by kernel_rfl) (by kernel_rfl) ?_
  refine wval (some 16) (.pointer (some ⟨gp, 0, none⟩)) w (by kernel_rfl) (by kernel_rfl) (by kernel_rfl) ?_
  refine wval (some 17) (.pointer (some ⟨gp, 0, none⟩)) w (by kernel_rfl) (by kernel_rfl) (by kernel_rfl) ?_
  refine wloadR (some 18) (by kernel_rfl) (by kernel_rfl) 29 (.tmp 17) (by kernel_rfl) gp 0 (by kernel_rfl) (gcs g none 0 0) _ Tryz.underlying29 rfl (by kernel_rfl) (HG0.out.part 0 _ (wld_part g)) ?_
  refine wval (some 19) (.int .i64 0) w (by kernel_rfl) (by kernel_rfl) (by kernel_rfl) ?_
  refine wcall (some 20) 46 #[.agg (gcs g none 0 0), .int .i64 0] (by kernel_rfl) (by kernel_rfl) (by kernel_rfl) ?_
  refine (gateTick_bad g HOKG.out _).mono ?_
  rintro e wz3 ⟨rfl, hbc⟩
  refine ⟨_, rfl, ?_⟩
  have HK4 := Lib.hid (HG0.out.carry hbc)
  have HF5 := Lib.hid (HB0.out.trans (hbc.mono HB0.out.size))
  clear hbc
  refine wval (some 13) (.tuple #[.agg #[.int .u64 0, .int .i64 0, .int .i64 0, .slice none 0 0, .bool false, .int .i64 0, .int .i64 0, .bool false, .int .i64 0, .int .i64 0, .bool false, .int .i64 0, .int .i64 0, .bool false, .int .i64 0, .int .i64 0, .bool false, .int .i64 0], .slice none 0 0, .int .i64 6]) wz3 (by kernel_rfl) (by kernel_rfl) (by kernel_rfl) ?_
  refine wval (some 21) (.agg #[.int .u64 0, .int .i64 0, .int .i64 0, .slice none 0 0, .bool false, .int .i64 0, .int .i64 0, .bool false, .int .i64 0, .int .i64 0, .bool false, .int .i64 0, .int .i64 0, .bool false, .int .i64 0, .int .i64 0, .bool false, .int .i64 0]) wz3 (by kernel_rfl) (by kernel_rfl) (by kernel_rfl) ?_
  refine wval (some 22) (.slice none 0 0) wz3 (by kernel_rfl) (by kernel_rfl) (by kernel_rfl) ?_
  refine wval (some 23) (.int .i64 6) wz3 (by kernel_rfl) (by kernel_rfl) (by kernel_rfl) ?_
  refine wnew (some 5) 29 #[.int .u64 0, .int .i64 0, .int .i64 0, .slice none 0 0, .bool false, .int .i64 0, .int .i64 0, .bool false, .int .i64 0, .int .i64 0, .bool false, .int .i64 0, .int .i64 0, .bool false, .int .i64 0, .int .i64 0, .bool false, .int .i64 0] (fun q => .pointer (some ⟨q, 0, none⟩)) (by kernel_rfl) (by kernel_rfl) (by kernel_rfl) ?_
  intro wz7 g6 hg6 hBg6 hbg6
  have hlg6 : w.heap.size ≤ g6 := by rw [← hg6]; exact HF5.out.size
  have HK8 := Lib.hid (HK4.out.carry hbg6)
  clear HK4
  have HF9 := Lib.hid (HF5.out.trans (hbg6.mono HF5.out.size))
  clear HF5
  have HKg6 := Lib.hid hBg6
  clear hBg6 hbg6
  refine wstoreP (by kernel_rfl) (by kernel_rfl) 29 (.tmp 5) (.tmp 21) (by kernel_rfl) g6 0 (by kernel_rfl) #[.int .u64 0, .int .i64 0, .int .i64 0, .slice none 0 0, .bool false, .int .i64 0, .int .i64 0, .bool false, .int .i64 0, .int .i64 0, .bool false, .int .i64 0, .int .i64 0, .bool false, .int .i64 0, .int .i64 0, .bool false, .int .i64 0] (by kernel_rfl) 29 #[.int .u64 0, .int .i64 0, .int .i64 0, .slice none 0 0, .bool false, .int .i64 0, .int .i64 0, .bool false, .int .i64 0, .int .i64 0, .bool false, .int .i64 0, .int .i64 0, .bool false, .int .i64 0, .int .i64 0, .bool false, .int .i64 0] HKg6.out (by kernel_rfl) (Nat.le_of_eq (by kernel_rfl)) (all_one (by kernel_rfl)) #[.int .u64 0, .int .i64 0, .int .i64 0, .slice none 0 0, .bool false, .int .i64 0, .int .i64 0, .bool false, .int .i64 0, .int .i64 0, .bool false, .int .i64 0, .int .i64 0, .bool false, .int .i64 0, .int .i64 0, .bool false, .int .i64 0] (splice_all _ _ (by kernel_rfl)) ?_
  intro wz10 hBwz10 hwwz10
  have HK11 := Lib.hid (HK8.out.wr hwwz10 (Blk.neq HK8.out HKg6.out (by decide)))
  clear HK8
  have HF12 := Lib.hid (hwwz10.trans_below HF9.out hlg6)
  clear HF9
  have HK13 := Lib.hid hBwz10
  clear HKg6
  refine wval (some 6) (.slice none 0 0) wz10 (by kernel_rfl) (by kernel_rfl) (by kernel_rfl) ?_
  refine wval (some 7) (.int .i64 6) wz10 (by kernel_rfl) (by kernel_rfl) (by kernel_rfl) ?_
  refine wnil (hKC2 _ _ (?_))
  clear hKC2
  refine wp_seq_k ?_
  intro KC14 hKC14
  refine wp_seq_k ?_
  intro KC15 hKC15
  refine wp_regionW ?_
  refine wval (some 24) (.int .i64 6) wz10 (by kernel_rfl) (by kernel_rfl) (by kernel_rfl) ?_
  refine wval (some 25) (.bool true) wz10 (by kernel_rfl) (by kernel_rfl) (by kernel_rfl) ?_
  refine wnil (hKC15 _ _ (?_))
  clear hKC15
  refine wp_cond_true (by kernel_rfl) ?_
  refine wp_seq_k ?_
  intro KC16 hKC16
  refine wp_regionW ?_
  refine wval (some 26) (.int .i64 6) wz10 (by kernel_rfl) (by kernel_rfl) (by kernel_rfl) ?_
  refine wval (some 4) (.int .i64 6) wz10 (by kernel_rfl) (by kernel_rfl) (by kernel_rfl) ?_
  refine wnil (hKC16 _ _ (?_))
  clear hKC16
  refine wp_ret ?_
  refine then_ret ?_
  refine bodyPost_ret (v := .int .i64 6) (by kernel_rfl) rfl ⟨rfl, HF12.out⟩
set_option maxRecDepth 100000 in
set_option maxHeartbeats 4000000 in
theorem act_pass (g : GtD) (ok : GOk g []) (gp : Nat) (w : World) (hw : Blk w gp 158 (wld g none 0 0)) :
    Calls Tryz.prog 76 #[.pointer (some ⟨gp, 0, none⟩), .agg #[.int .i64 9, .int .i64 0, .int .i64 0, .int .i64 0, .int .u64 0, .slice none 0 0]] w fun e w' => e = .returned (.int .i64 6) ∧ Below w.heap.size w w' := by
  have HG0 := Lib.hid hw
  have HB0 := Lib.hid (Below.refl w.heap.size w)
  have HOKG := Lib.hid ok
  clear hw ok
  go_enter Tryz.func76, Tryz.ntmps76
  refine wp_seq_k ?_
  intro KC1 hKC1
  refine wp_regionW ?_
  refine wnew (some 3) 99 #[.int .i64 9, .int .i64 0, .int .i64 0, .int .i64 0, .int .u64 0, .slice none 0 0] (fun q => .pointer (some ⟨q, 0, none⟩)) (by kernel_rfl) (by kernel_rfl) (by kernel_rfl) ?_
  intro wz3 g2 hg2 hBg2 hbg2
  have hlg2 : w.heap.size ≤ g2 := by rw [← hg2]; exact HB0.out.size
  have HK4 := Lib.hid (HG0.out.carry hbg2)
  have HF5 := Lib.hid (HB0.out.trans (hbg2.mono HB0.out.size))
  have HKg2 := Lib.hid hBg2
  clear hBg2 hbg2
  refine wval (some 4) (.int .i64 0) wz3 (by kernel_rfl) (by kernel_rfl) (by kernel_rfl) ?_
  refine wnil (hKC1 _ _ (?_))
  clear hKC1
  refine wp_seq_k ?_
  intro KC6 hKC6
  refine wp_seq_k ?_
  intro KC7 hKC7
  refine wp_regionW ?_
  refine wval (some 7) (.pointer (some ⟨g2, 0, none⟩)) wz3 (by kernel_rfl) (by kernel_rfl) (by kernel_rfl) ?_
  refine wload (some 8) (.int .i64 9) 3 (.tmp 7) g2 0 _ (by kernel_rfl) (by kernel_rfl) (by kernel_rfl) (by kernel_rfl) Tryz.underlying3 rfl (by rw [HKg2.out.cell]; kernel_rfl) ?_
  refine wnil (hKC7 _ _ (?_))
  clear hKC7
  refine wp_block ?_
  refine wp_seq_k ?_
  intro KC8 hKC8
  refine wp_regionW ?_
  refine wval (some 10) (.bool false) wz3 (by kernel_rfl) (by kernel_rfl) (by kernel_rfl) ?_
  refine wval (some 9) (.bool false) wz3 (by kernel_rfl) (by kernel_rfl) (by kernel_rfl) ?_
  refine wnil (hKC8 _ _ (?_))
  clear hKC8
  refine wp_cond_false (by kernel_rfl) ?_
  refine wp_seq_k ?_
  intro KC9 hKC9
  refine wp_regionW ?_
  refine wval (some 15) (.bool false) wz3 (by kernel_rfl) (by kernel_rfl) (by kernel_rfl) ?_
  refine wval (some 14) (.bool false) wz3 (by kernel_rfl) (by kernel_rfl) (by kernel_rfl) ?_
  refine wnil (hKC9 _ _ (?_))
  clear hKC9
  refine wp_cond_false (by kernel_rfl) ?_
  refine wp_seq_k ?_
  intro KC10 hKC10
  refine wp_regionW ?_
  refine wval (some 20) (.bool false) wz3 (by kernel_rfl) (by kernel_rfl) (by kernel_rfl) ?_
  refine wval (some 19) (.bool false) wz3 (by kernel_rfl) (by kernel_rfl) (by kernel_rfl) ?_
  refine wnil (hKC10 _ _ (?_))
  clear hKC10
  refine wp_cond_false (by kernel_rfl) ?_
  refine wp_seq_k ?_
  intro KC11 hKC11
  refine wp_seq_k ?_
  intro KC12 hKC12
  refine wp_regionW ?_
  refine wval (some 24) (.bool false) wz3 (by kernel_rfl) (by kernel_rfl) (by kernel_rfl) ?_
  refine wval (some 23) (.bool false) wz3 (by kernel_rfl) (by kernel_rfl) (by kernel_rfl) ?_
  refine wnil (hKC12 _ _ (?_))
  clear hKC12
  refine wp_cond_false (by kernel_rfl) ?_
  refine wp_seq_k ?_
  intro KC13 hKC13
  refine wp_regionW ?_
  refine wval (some 25) (.bool false) wz3 (by kernel_rfl) (by kernel_rfl) (by kernel_rfl) ?_
  refine wval (some 23) (.bool false) wz3 (by kernel_rfl) (by kernel_rfl) (by kernel_rfl) ?_
  refine wnil (hKC13 _ _ (?_))
  clear hKC13
  refine wp_cond_false (by kernel_rfl) ?_
  refine wp_seq_k ?_
  intro KC14 hKC14
  refine wp_regionW ?_
  refine wval (some 26) (.bool false) wz3 (by kernel_rfl) (by kernel_rfl) (by kernel_rfl) ?_
  refine wval (some 23) (.bool false) wz3 (by kernel_rfl) (by kernel_rfl) (by kernel_rfl) ?_
  refine wnil (hKC14 _ _ (?_))
  clear hKC14
  refine wp_cond_false (by kernel_rfl) ?_
  refine wp_regionW ?_
  refine wval (some 27) (.bool false) wz3 (by kernel_rfl) (by kernel_rfl) (by kernel_rfl) ?_
  refine wval (some 23) (.bool false) wz3 (by kernel_rfl) (by kernel_rfl) (by kernel_rfl) ?_
  refine wnil (hKC11 _ _ (?_))
  clear hKC11
  refine wp_cond_false (by kernel_rfl) ?_
  refine wp_seq_k ?_
  intro KC15 hKC15
  refine wp_regionW ?_
  refine wval (some 32) (.bool false) wz3 (by kernel_rfl) (by kernel_rfl) (by kernel_rfl) ?_
  refine wval (some 31) (.bool false) wz3 (by kernel_rfl) (by kernel_rfl) (by kernel_rfl) ?_
  refine wnil (hKC15 _ _ (?_))
  clear hKC15
  refine wp_cond_false (by kernel_rfl) ?_
  refine wp_seq_k ?_
  intro KC16 hKC16
  refine wp_regionW ?_
  refine wval (some 51) (.bool true) wz3 (by kernel_rfl) (by kernel_rfl) (by kernel_rfl) ?_
  refine wval (some 50) (.bool true) wz3 (by kernel_rfl) (by kernel_rfl) (by kernel_rfl) ?_
  refine wnil (hKC16 _ _ (?_))
  clear hKC16
  refine wp_cond_true (by kernel_rfl) ?_
  refine wp_seq_k ?_
  intro KC17 hKC17
  refine wp_regionW ?_
  refine wval (some 52) (.pointer (some ⟨gp, 0, none⟩)) wz3 (by kernel_rfl) (by kernel_rfl) (by kernel_rfl) ?_
  refine wval (some 53) (.pointer (some ⟨g2, 3, none⟩)) wz3 (by kernel_rfl) (by kernel_rfl) (by kernel_rfl) ?_
  refine wload (some 54) (.int .i64 0) 3 (.tmp 53) g2 3 _ (by kernel_rfl) (by kernel_rfl) (by kernel_rfl) (by kernel_rfl) Tryz.underlying3 rfl (by rw [HKg2.out.cell]; kernel_rfl) ?_
  refine wcall (some 55) 120 #[.pointer (some ⟨gp, 0, none⟩), .int .i64 0] (by kernel_rfl) (by kernel_rfl) (by kernel_rfl) ?_
  refine (pass_bad g HOKG.out gp _ HK4.out).mono ?_
  rintro e wz18 ⟨rfl, hbc⟩
  refine ⟨_, rfl, ?_⟩
  have HK19 := Lib.hid (HK4.out.carry hbc)
  clear HK4
  have HK20 := Lib.hid (HKg2.out.carry hbc)
  clear HKg2
  have HF21 := Lib.hid (HF5.out.trans (hbc.mono HF5.out.size))
  clear HF5
  clear hbc
  refine wval (some 4) (.int .i64 6) wz18 (by kernel_rfl) (by kernel_rfl) (by kernel_rfl) ?_
  refine wnil (hKC17 _ _ (?_))
  clear hKC17
  refine wp_ret ?_
  refine inBlock_ret ?_
  refine then_ret ?_
  refine bodyPost_ret (v := .int .i64 6) (by kernel_rfl) rfl ⟨rfl, HF21.out⟩
end Go.Proofs.YtbcagdjfegobnaaGreat
