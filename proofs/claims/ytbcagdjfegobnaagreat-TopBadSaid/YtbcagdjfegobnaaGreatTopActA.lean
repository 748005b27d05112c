/- The steps of a world that may not be. -/
import Derived.Test.YtbcagdjfegobnaaGreatSeqM
import Derived.Test.YtbcagdjfegobnaaGreatGate1
namespace Go.Proofs.YtbcagdjfegobnaaGreat
open Go.ChangeShapes Go.WideShapes Go.ChangeAt Go.RowKit
set_option linter.unusedVariables false

/-- A world in which nothing is but a gate. -/
def wld (g : GtD) (A : Option Addr) (n c : Nat) : Array Value := gcs g A n c ++ #[.slice none 0 0, .slice none 0 0, .int .i64 0]
set_option maxRecDepth 100000 in
set_option maxHeartbeats 4000000 in
theorem ask_none (g : GtD) (kd : Int) (k : Nat) (gp : Nat) (w : World) (hw : Blk w gp 158 (wld g none 0 0)) :
    Calls Tryz.prog 116 #[.pointer (some ⟨gp, 0, none⟩), .agg #[.int .i64 kd, .int .i64 0, .int .i64 (k : Nat), .int .i64 0, .int .u64 0, .slice none 0 0]] w fun e w' => e = .returned (.int .i64 5) ∧ Below w.heap.size w w' := by
  have HG0 := Lib.hid hw
  have HB0 := Lib.hid (Below.refl w.heap.size w)
  clear hw
  go_enter Tryz.func116, Tryz.ntmps116
  refine wp_seq_k ?_
  intro KC1 hKC1
  refine wp_regionW ?_
  refine wnew (some 3) 99 #[.int .i64 kd, .int .i64 0, .int .i64 (k : Nat), .int .i64 0, .int .u64 0, .slice none 0 0] (fun q => .pointer (some ⟨q, 0, none⟩)) (by kernel_rfl) (by kernel_rfl) (by kernel_rfl) ?_
  intro wz3 g2 hg2 hBg2 hbg2
  have hlg2 : w.heap.size ≤ g2 := by rw [← hg2]; exact HB0.out.size
  have HK4 := Lib.hid (HG0.out.carry hbg2)
  have HF5 := Lib.hid (HB0.out.trans (hbg2.mono HB0.out.size))
  have HKg2 := Lib.hid hBg2
  clear hBg2 hbg2
  refine wval (some 4) (.int .i64 0) wz3 (by kernel_rfl) (by kernel_rfl) (by kernel_rfl) ?_
  refine wnil (hKC1 _ _ (?_))
  clear hKC1
  refine wp_seq_k ?_
  intro KC6 hKC6
  refine wp_seq_k ?_
  intro KC7 hKC7
  refine wp_flow (fun k => decide (k < 14)) (fun k => false) 62 [0, 1, 2, 3, 4, 5, 6, 7, 8, 9, 10, 11, 12, 13] (fun w' => Below wz3.heap.size wz3 w') (fun k a v w' => True) (by kernel_rfl) ?hflB ?hpuB ?hksB (fun _ _ _ _ _ h => h) (by kernel_rfl) ?hst ?hC ?_
  case hflB => kernel_rfl
  case hpuB => kernel_rfl
  case hksB => kernel_rfl
  case hst => exact ⟨fun w0 w1 h1 hb => h1.trans (hb.mono h1.size), fun k a v w0 w1 hW hb => hW, fun k a b v w0 _ h => h⟩
  case hC => exact (Below.refl _ _).drew
  refine fq 9 (.pointer (some ⟨g2, 2, none⟩)) (by kernel_rfl) (by kernel_rfl) (by kernel_rfl) (by kernel_rfl) (fun w => (by kernel_rfl)) ?_
  refine fq1 10 (.int .i64 (k : Nat)) 3 (.tmp 9) g2 2 _ (by kernel_rfl) (by kernel_rfl) (by kernel_rfl) (by kernel_rfl) (by kernel_rfl) (by kernel_rfl) Tryz.underlying3 rfl (fun w hw => by rw [(HKg2.out.carry hw.1).cell]; kernel_rfl) ?_
  refine fqe 11 (.bool (decide (((k : Nat) : Int) < 0))) (.bool false) (by simp; try omega) (by kernel_rfl) (by kernel_rfl) (by kernel_rfl) (by kernel_rfl) (fun w => (by kernel_rfl)) ?_
  refine fq 12 (.bool false) (by kernel_rfl) (by kernel_rfl) (by kernel_rfl) (by kernel_rfl) (fun w => (by kernel_rfl)) ?_
  refine fq 13 (.pointer (some ⟨g2, 2, none⟩)) (by kernel_rfl) (by kernel_rfl) (by kernel_rfl) (by kernel_rfl) (fun w => (by kernel_rfl)) ?_
  refine fq1 14 (.int .i64 (k : Nat)) 3 (.tmp 13) g2 2 _ (by kernel_rfl) (by kernel_rfl) (by kernel_rfl) (by kernel_rfl) (by kernel_rfl) (by kernel_rfl) Tryz.underlying3 rfl (fun w hw => by rw [(HKg2.out.carry hw.1).cell]; kernel_rfl) ?_
  refine fq 15 (.pointer (some ⟨gp, 0, none⟩)) (by kernel_rfl) (by kernel_rfl) (by kernel_rfl) (by kernel_rfl) (fun w => (by kernel_rfl)) ?_
  refine fq 16 (.pointer (some ⟨gp, 0, none⟩)) (by kernel_rfl) (by kernel_rfl) (by kernel_rfl) (by kernel_rfl) (fun w => (by kernel_rfl)) ?_
  refine fq 17 (.pointer (some ⟨gp, 0, none⟩)) (by kernel_rfl) (by kernel_rfl) (by kernel_rfl) (by kernel_rfl) (fun w => (by kernel_rfl)) ?_
  refine fq 18 (.pointer (some ⟨gp, 18, none⟩)) (by kernel_rfl) (by kernel_rfl) (by kernel_rfl) (by kernel_rfl) (fun w => (by kernel_rfl)) ?_
  refine fq1 19 (.slice none 0 0) 102 (.tmp 18) gp 18 _ (by kernel_rfl) (by kernel_rfl) (by kernel_rfl) (by kernel_rfl) (by kernel_rfl) (by kernel_rfl) Tryz.underlying102 rfl (fun w hw => by rw [(HK4.out.carry hw.1).cell]; kernel_rfl) ?_
  refine fq 20 (.int .i64 0) (by kernel_rfl) (by kernel_rfl) (by kernel_rfl) (by kernel_rfl) (fun w => (by kernel_rfl)) ?_
  refine fqe 21 (.bool (decide (((k : Nat) : Int) ≥ 0))) (.bool true) (by simp; try omega) (by kernel_rfl) (by kernel_rfl) (by kernel_rfl) (by kernel_rfl) (fun w => (by kernel_rfl)) ?_
  refine fq 22 (.bool true) (by kernel_rfl) (by kernel_rfl) (by kernel_rfl) (by kernel_rfl) (fun w => (by kernel_rfl)) ?_
  refine fend [] (by kernel_rfl) (by kernel_rfl) ?_
  intro wf8 hwwf8 hF
  clear hF
  have HK9 := Lib.hid (HK4.out.carry hwwf8)
  clear HK4
  have HK10 := Lib.hid (HKg2.out.carry hwwf8)
  clear HKg2
  have HF11 := Lib.hid (HF5.out.trans (hwwf8.mono HF5.out.size))
  clear HF5
  refine tend (hKC7 _ _ (?_))
  clear hKC7
  refine wp_cond_true (by kernel_rfl) ?_
  refine wp_seq_k ?_
  intro KC12 hKC12
  refine wp_regionW ?_
  refine wval (some 4) (.int .i64 5) wf8 (by kernel_rfl) (by kernel_rfl) (by kernel_rfl) ?_
  refine wnil (hKC12 _ _ (?_))
  clear hKC12
  refine wp_ret ?_
  refine then_ret ?_
  refine bodyPost_ret (v := .int .i64 5) (by kernel_rfl) rfl ⟨rfl, HF11.out⟩
set_option maxRecDepth 100000 in
set_option maxHeartbeats 4000000 in
theorem meddle_none (g : GtD) (kd : Int) (k : Nat) (gp : Nat) (w : World) (hw : Blk w gp 158 (wld g none 0 0)) :
    Calls Tryz.prog 118 #[.pointer (some ⟨gp, 0, none⟩), .agg #[.int .i64 kd, .int .i64 0, .int .i64 (k : Nat), .int .i64 0, .int .u64 0, .slice none 0 0]] w fun e w' => e = .returned (.int .i64 5) ∧ Below w.heap.size w w' := by
  have HG0 := Lib.hid hw
  have HB0 := Lib.hid (Below.refl w.heap.size w)
  clear hw
  go_enter Tryz.func118, Tryz.ntmps118
  refine wp_seq_k ?_
  intro KC1 hKC1
  refine wp_regionW ?_
  refine wnew (some 3) 99 #[.int .i64 kd, .int .i64 0, .int .i64 (k : Nat), .int .i64 0, .int .u64 0, .slice none 0 0] (fun q => .pointer (some ⟨q, 0, none⟩)) (by kernel_rfl) (by kernel_rfl) (by kernel_rfl) ?_
  intro wz3 g2 hg2 hBg2 hbg2
  have hlg2 : w.heap.size ≤ g2 := by rw [← hg2]; exact HB0.out.size
  have HK4 := Lib.hid (HG0.out.carry hbg2)
  have HF5 := Lib.hid (HB0.out.trans (hbg2.mono HB0.out.size))
  have HKg2 := Lib.hid hBg2
  clear hBg2 hbg2
  refine wval (some 4) (.int .i64 0) wz3 (by kernel_rfl) (by kernel_rfl) (by kernel_rfl) ?_
  refine wnil (hKC1 _ _ (?_))
  clear hKC1
  refine wp_seq_k ?_
  intro KC6 hKC6
  refine wp_seq_k ?_
  intro KC7 hKC7
  refine wp_flow (fun k => decide (k < 14)) (fun k => false) 139 [0, 1, 2, 3, 4, 5, 6, 7, 8, 9, 10, 11, 12, 13] (fun w' => Below wz3.heap.size wz3 w') (fun k a v w' => True) (by kernel_rfl) ?hflB ?hpuB ?hksB (fun _ _ _ _ _ h => h) (by kernel_rfl) ?hst ?hC ?_
  case hflB => kernel_rfl
  case hpuB => kernel_rfl
  case hksB => kernel_rfl
  case hst => exact ⟨fun w0 w1 h1 hb => h1.trans (hb.mono h1.size), fun k a v w0 w1 hW hb => hW, fun k a b v w0 _ h => h⟩
  case hC => exact (Below.refl _ _).drew
  refine fq 7 (.pointer (some ⟨g2, 2, none⟩)) (by kernel_rfl) (by kernel_rfl) (by kernel_rfl) (by kernel_rfl) (fun w => (by kernel_rfl)) ?_
  refine fq1 8 (.int .i64 (k : Nat)) 3 (.tmp 7) g2 2 _ (by kernel_rfl) (by kernel_rfl) (by kernel_rfl) (by kernel_rfl) (by kernel_rfl) (by kernel_rfl) Tryz.underlying3 rfl (fun w hw => by rw [(HKg2.out.carry hw.1).cell]; kernel_rfl) ?_
  refine fqe 9 (.bool (decide (((k : Nat) : Int) < 0))) (.bool false) (by simp; try omega) (by kernel_rfl) (by kernel_rfl) (by kernel_rfl) (by kernel_rfl) (fun w => (by kernel_rfl)) ?_
  refine fq 10 (.bool false) (by kernel_rfl) (by kernel_rfl) (by kernel_rfl) (by kernel_rfl) (fun w => (by kernel_rfl)) ?_
  refine fq 11 (.pointer (some ⟨g2, 2, none⟩)) (by kernel_rfl) (by kernel_rfl) (by kernel_rfl) (by kernel_rfl) (fun w => (by kernel_rfl)) ?_
  refine fq1 12 (.int .i64 (k : Nat)) 3 (.tmp 11) g2 2 _ (by kernel_rfl) (by kernel_rfl) (by kernel_rfl) (by kernel_rfl) (by kernel_rfl) (by kernel_rfl) Tryz.underlying3 rfl (fun w hw => by rw [(HKg2.out.carry hw.1).cell]; kernel_rfl) ?_
  refine fq 13 (.pointer (some ⟨gp, 0, none⟩)) (by kernel_rfl) (by kernel_rfl) (by kernel_rfl) (by kernel_rfl) (fun w => (by kernel_rfl)) ?_
  refine fq 14 (.pointer (some ⟨gp, 0, none⟩)) (by kernel_rfl) (by kernel_rfl) (by kernel_rfl) (by kernel_rfl) (fun w => (by kernel_rfl)) ?_
  refine fq 15 (.pointer (some ⟨gp, 0, none⟩)) (by kernel_rfl) (by kernel_rfl) (by kernel_rfl) (by kernel_rfl) (fun w => (by kernel_rfl)) ?_
  refine fq 16 (.pointer (some ⟨gp, 19, none⟩)) (by kernel_rfl) (by kernel_rfl) (by kernel_rfl) (by kernel_rfl) (fun w => (by kernel_rfl)) ?_
  refine fq1 17 (.slice none 0 0) 103 (.tmp 16) gp 19 _ (by kernel_rfl) (by kernel_rfl) (by kernel_rfl) (by kernel_rfl) (by kernel_rfl) (by kernel_rfl) Tryz.underlying103 rfl (fun w hw => by rw [(HK4.out.carry hw.1).cell]; kernel_rfl) ?_
  refine fq 18 (.int .i64 0) (by kernel_rfl) (by kernel_rfl) (by kernel_rfl) (by kernel_rfl) (fun w => (by kernel_rfl)) ?_
  refine fqe 19 (.bool (decide (((k : Nat) : Int) ≥ 0))) (.bool true) (by simp; try omega) (by kernel_rfl) (by kernel_rfl) (by kernel_rfl) (by kernel_rfl) (fun w => (by kernel_rfl)) ?_
  refine fq 20 (.bool true) (by kernel_rfl) (by kernel_rfl) (by kernel_rfl) (by kernel_rfl) (fun w => (by kernel_rfl)) ?_
  refine fend [] (by kernel_rfl) (by kernel_rfl) ?_
  intro wf8 hwwf8 hF
  clear hF
  have HK9 := Lib.hid (HK4.out.carry hwwf8)
  clear HK4
  have HK10 := Lib.hid (HKg2.out.carry hwwf8)
  clear HKg2
  have HF11 := Lib.hid (HF5.out.trans (hwwf8.mono HF5.out.size))
  clear HF5
  refine tend (hKC7 _ _ (?_))
  clear hKC7
  refine wp_cond_true (by kernel_rfl) ?_
  refine wp_seq_k ?_
  intro KC12 hKC12
  refine wp_regionW ?_
  refine wval (some 4) (.int .i64 5) wf8 (by kernel_rfl) (by kernel_rfl) (by kernel_rfl) ?_
  refine wnil (hKC12 _ _ (?_))
  clear hKC12
  refine wp_ret ?_
  refine then_ret ?_
  refine bodyPost_ret (v := .int .i64 5) (by kernel_rfl) rfl ⟨rfl, HF11.out⟩
set_option maxRecDepth 100000 in
set_option maxHeartbeats 4000000 in
theorem act_zero (g : GtD)  (gp : Nat) (w : World) (hw : Blk w gp 158 (wld g none 0 0)) :
    Calls Tryz.prog 76 #[.pointer (some ⟨gp, 0, none⟩), .agg #[.int .i64 0, .int .i64 0, .int .i64 0, .int .i64 0, .int .u64 0, .slice none 0 0]] w fun e w' => e = .returned (.int .i64 2) ∧ Below w.heap.size w w' := by
  have HG0 := Lib.hid hw
  have HB0 := Lib.hid (Below.refl w.heap.size w)
  clear hw
  go_enter Tryz.func76, Tryz.ntmps76
  refine wp_seq_k ?_
  intro KC1 hKC1
  refine wp_regionW ?_
  refine wnew (some 3) 99 #[.int .i64 0, .int .i64 0, .int .i64 0, .int .i64 0, .int .u64 0, .slice none 0 0] (fun q => .pointer (some ⟨q, 0, none⟩)) (by kernel_rfl) (by kernel_rfl) (by kernel_rfl) ?_
  intro wz3 g2 hg2 hBg2 hbg2
  have hlg2 : w.heap.size ≤ g2 := by rw [← hg2]; exact HB0.out.size
  have HK4 := Lib.hid (HG0.out.carry hbg2)
  have HF5 := Lib.hid (HB0.out.trans (hbg2.mono HB0.out.size))
  have HKg2 := Lib.hid hBg2
  clear hBg2 hbg2
  refine wval (some 4) (.int .i64 0) wz3 (by kernel_rfl) (by kernel_rfl) (by kernel_rfl) ?_
  refine wnil (hKC1 _ _ (?_))
  clear hKC1
  refine wp_seq_k ?_
  intro KC6 hKC6
  refine wp_seq_k ?_
  intro KC7 hKC7
  refine wp_regionW ?_
  refine wval (some 7) (.pointer (some ⟨g2, 0, none⟩)) wz3 (by kernel_rfl) (by kernel_rfl) (by kernel_rfl) ?_
  refine wload (some 8) (.int .i64 0) 3 (.tmp 7) g2 0 _ (by kernel_rfl) (by kernel_rfl) (by kernel_rfl) (by kernel_rfl) Tryz.underlying3 rfl (by rw [HKg2.out.cell]; kernel_rfl) ?_
  refine wnil (hKC7 _ _ (?_))
  clear hKC7
  refine wp_block ?_
  refine wp_seq_k ?_
  intro KC8 hKC8
  refine wp_regionW ?_
  refine wval (some 10) (.bool false) wz3 (by kernel_rfl) (by kernel_rfl) (by kernel_rfl) ?_
  refine wval (some 9) (.bool false) wz3 (by kernel_rfl) (by kernel_rfl) (by kernel_rfl) ?_
  refine wnil (hKC8 _ _ (?_))
  clear hKC8
  refine wp_cond_false (by kernel_rfl) ?_
  refine wp_seq_k ?_
  intro KC9 hKC9
  refine wp_regionW ?_
  refine wval (some 15) (.bool false) wz3 (by kernel_rfl) (by kernel_rfl) (by kernel_rfl) ?_
  refine wval (some 14) (.bool false) wz3 (by kernel_rfl) (by kernel_rfl) (by kernel_rfl) ?_
  refine wnil (hKC9 _ _ (?_))
  clear hKC9
  refine wp_cond_false (by kernel_rfl) ?_
  refine wp_seq_k ?_
  intro KC10 hKC10
  refine wp_regionW ?_
  refine wval (some 20) (.bool false) wz3 (by kernel_rfl) (by kernel_rfl) (by kernel_rfl) ?_
  refine wval (some 19) (.bool false) wz3 (by kernel_rfl) (by kernel_rfl) (by kernel_rfl) ?_
  refine wnil (hKC10 _ _ (?_))
  clear hKC10
  refine wp_cond_false (by kernel_rfl) ?_
  refine wp_seq_k ?_
  intro KC11 hKC11
  refine wp_seq_k ?_
  intro KC12 hKC12
  refine wp_regionW ?_
  refine wval (some 24) (.bool false) wz3 (by kernel_rfl) (by kernel_rfl) (by kernel_rfl) ?_
  refine wval (some 23) (.bool false) wz3 (by kernel_rfl) (by kernel_rfl) (by kernel_rfl) ?_
  refine wnil (hKC12 _ _ (?_))
  clear hKC12
  refine wp_cond_false (by kernel_rfl) ?_
  refine wp_seq_k ?_
  intro KC13 hKC13
  refine wp_regionW ?_
  refine wval (some 25) (.bool false) wz3 (by kernel_rfl) (by kernel_rfl) (by kernel_rfl) ?_
  refine wval (some 23) (.bool false) wz3 (by kernel_rfl) (by kernel_rfl) (by kernel_rfl) ?_
  refine wnil (hKC13 _ _ (?_))
  clear hKC13
  refine wp_cond_false (by kernel_rfl) ?_
  refine wp_seq_k ?_
  intro KC14 hKC14
  refine wp_regionW ?_
  refine wval (some 26) (.bool false) wz3 (by kernel_rfl) (by kernel_rfl) (by kernel_rfl) ?_
  refine wval (some 23) (.bool false) wz3 (by kernel_rfl) (by kernel_rfl) (by kernel_rfl) ?_
  refine wnil (hKC14 _ _ (?_))
  clear hKC14
  refine wp_cond_false (by kernel_rfl) ?_
  refine wp_regionW ?_
  refine wval (some 27) (.bool false) wz3 (by kernel_rfl) (by kernel_rfl) (by kernel_rfl) ?_
  refine wval (some 23) (.bool false) wz3 (by kernel_rfl) (by kernel_rfl) (by kernel_rfl) ?_
  refine wnil (hKC11 _ _ (?_))
  clear hKC11
  refine wp_cond_false (by kernel_rfl) ?_
  refine wp_seq_k ?_
  intro KC15 hKC15
  refine wp_regionW ?_
  refine wval (some 32) (.bool false) wz3 (by kernel_rfl) (by kernel_rfl) (by kernel_rfl) ?_
  refine wval (some 31) (.bool false) wz3 (by kernel_rfl) (by kernel_rfl) (by kernel_rfl) ?_
  refine wnil (hKC15 _ _ (?_))
  clear hKC15
  refine wp_cond_false (by kernel_rfl) ?_
  refine wp_seq_k ?_
  intro KC16 hKC16
  refine wp_regionW ?_
  refine wval (some 51) (.bool false) wz3 (by kernel_rfl) (by kernel_rfl) (by kernel_rfl) ?_
  refine wval (some 50) (.bool false) wz3 (by kernel_rfl) (by kernel_rfl) (by kernel_rfl) ?_
  refine wnil (hKC16 _ _ (?_))
  clear hKC16
  refine wp_cond_false (by kernel_rfl) ?_
  refine wp_seq_k ?_
  intro KC17 hKC17
  refine wp_regionW ?_
  refine wval (some 57) (.bool false) wz3 (by kernel_rfl) (by kernel_rfl) (by kernel_rfl) ?_
  refine wval (some 56) (.bool false) wz3 (by kernel_rfl) (by kernel_rfl) (by kernel_rfl) ?_
  refine wnil (hKC17 _ _ (?_))
  clear hKC17
  refine wp_cond_false (by kernel_rfl) ?_
  refine wp_skip (hKC6 _ _ (?_))
  clear hKC6
  refine wp_seq_k ?_
  intro KC18 hKC18
  refine wp_regionW ?_
  refine wval (some 4) (.int .i64 2) wz3 (by kernel_rfl) (by kernel_rfl) (by kernel_rfl) ?_
  refine wnil (hKC18 _ _ (?_))
  clear hKC18
  refine wp_ret ?_
  refine bodyPost_ret (v := .int .i64 2) (by kernel_rfl) rfl ⟨rfl, HF5.out⟩
set_option maxRecDepth 100000 in
set_option maxHeartbeats 4000000 in
theorem act_high (g : GtD) (k : Int) (hk : 11 ≤ k) (gp : Nat) (w : World) (hw : Blk w gp 158 (wld g none 0 0)) :
    Calls Tryz.prog 76 #[.pointer (some ⟨gp, 0, none⟩), .agg #[.int .i64 k, .int .i64 0, .int .i64 0, .int .i64 0, .int .u64 0, .slice none 0 0]] w fun e w' => e = .returned (.int .i64 2) ∧ Below w.heap.size w w' := by
  have HG0 := Lib.hid hw
  have HB0 := Lib.hid (Below.refl w.heap.size w)
  clear hw
  go_enter Tryz.func76, Tryz.ntmps76
  refine wp_seq_k ?_
  intro KC1 hKC1
  refine wp_regionW ?_
  refine wnew (some 3) 99 #[.int .i64 k, .int .i64 0, .int .i64 0, .int .i64 0, .int .u64 0, .slice none 0 0] (fun q => .pointer (some ⟨q, 0, none⟩)) (by kernel_rfl) (by kernel_rfl) (by kernel_rfl) ?_
  intro wz3 g2 hg2 hBg2 hbg2
  have hlg2 : w.heap.size ≤ g2 := by rw [← hg2]; exact HB0.out.size
  have HK4 := Lib.hid (HG0.out.carry hbg2)
  have HF5 := Lib.hid (HB0.out.trans (hbg2.mono HB0.out.size))
  have HKg2 := Lib.hid hBg2
  clear hBg2 hbg2
  refine wval (some 4) (.int .i64 0) wz3 (by kernel_rfl) (by kernel_rfl) (by kernel_rfl) ?_
  refine wnil (hKC1 _ _ (?_))
  clear hKC1
  refine wp_seq_k ?_
  intro KC6 hKC6
  refine wp_seq_k ?_
  intro KC7 hKC7
  refine wp_regionW ?_
  refine wval (some 7) (.pointer (some ⟨g2, 0, none⟩)) wz3 (by kernel_rfl) (by kernel_rfl) (by kernel_rfl) ?_
  refine wload (some 8) (.int .i64 k) 3 (.tmp 7) g2 0 _ (by kernel_rfl) (by kernel_rfl) (by kernel_rfl) (by kernel_rfl) Tryz.underlying3 rfl (by rw [HKg2.out.cell]; kernel_rfl) ?_
  refine wnil (hKC7 _ _ (?_))
  clear hKC7
  refine wp_block ?_
  refine wp_seq_k ?_
  intro KC8 hKC8
  refine wp_regionW ?_
  refine wvalE (some 10) (.bool (decide (k = 1))) (.bool false) wz3 (by simp; omega) (by kernel_rfl) (by kernel_rfl) (by kernel_rfl) ?_
  refine wval (some 9) (.bool false) wz3 (by kernel_rfl) (by kernel_rfl) (by kernel_rfl) ?_
  refine wnil (hKC8 _ _ (?_))
  clear hKC8
  refine wp_cond_false (by kernel_rfl) ?_
  refine wp_seq_k ?_
  intro KC9 hKC9
  refine wp_regionW ?_
  refine wvalE (some 15) (.bool (decide (k = 2))) (.bool false) wz3 (by simp; omega) (by kernel_rfl) (by kernel_rfl) (by kernel_rfl) ?_
  refine wval (some 14) (.bool false) wz3 (by kernel_rfl) (by kernel_rfl) (by kernel_rfl) ?_
  refine wnil (hKC9 _ _ (?_))
  clear hKC9
  refine wp_cond_false (by kernel_rfl) ?_
  refine wp_seq_k ?_
  intro KC10 hKC10
  refine wp_regionW ?_
  refine wvalE (some 20) (.bool (decide (k = 3))) (.bool false) wz3 (by simp; omega) (by kernel_rfl) (by kernel_rfl) (by kernel_rfl) ?_
  refine wval (some 19) (.bool false) wz3 (by kernel_rfl) (by kernel_rfl) (by kernel_rfl) ?_
  refine wnil (hKC10 _ _ (?_))
  clear hKC10
  refine wp_cond_false (by kernel_rfl) ?_
  refine wp_seq_k ?_
  intro KC11 hKC11
  refine wp_seq_k ?_
  intro KC12 hKC12
  refine wp_regionW ?_
  refine wvalE (some 24) (.bool (decide (k = 4))) (.bool false) wz3 (by simp; omega) (by kernel_rfl) (by kernel_rfl) (by kernel_rfl) ?_
  refine wval (some 23) (.bool false) wz3 (by kernel_rfl) (by kernel_rfl) (by kernel_rfl) ?_
  refine wnil (hKC12 _ _ (?_))
  clear hKC12
  refine wp_cond_false (by kernel_rfl) ?_
  refine wp_seq_k ?_
  intro KC13 hKC13
  refine wp_regionW ?_
  refine wvalE (some 25) (.bool (decide (k = 5))) (.bool false) wz3 (by simp; omega) (by kernel_rfl) (by kernel_rfl) (by kernel_rfl) ?_
  refine wval (some 23) (.bool false) wz3 (by kernel_rfl) (by kernel_rfl) (by kernel_rfl) ?_
  refine wnil (hKC13 _ _ (?_))
  clear hKC13
  refine wp_cond_false (by kernel_rfl) ?_
  refine wp_seq_k ?_
  intro KC14 hKC14
  refine wp_regionW ?_
  refine wvalE (some 26) (.bool (decide (k = 6))) (.bool false) wz3 (by simp; omega) (by kernel_rfl) (by kernel_rfl) (by kernel_rfl) ?_
  refine wval (some 23) (.bool false) wz3 (by kernel_rfl) (by kernel_rfl) (by kernel_rfl) ?_
  refine wnil (hKC14 _ _ (?_))
  clear hKC14
  refine wp_cond_false (by kernel_rfl) ?_
  refine wp_regionW ?_
  refine wvalE (some 27) (.bool (decide (k = 7))) (.bool false) wz3 (by simp; omega) (by kernel_rfl) (by kernel_rfl) (by kernel_rfl) ?_
  refine wval (some 23) (.bool false) wz3 (by kernel_rfl) (by kernel_rfl) (by kernel_rfl) ?_
  refine wnil (hKC11 _ _ (?_))
  clear hKC11
  refine wp_cond_false (by kernel_rfl) ?_
  refine wp_seq_k ?_
  intro KC15 hKC15
  refine wp_regionW ?_
  refine wvalE (some 32) (.bool (decide (k = 8))) (.bool false) wz3 (by simp; omega) (by kernel_rfl) (by kernel_rfl) (by kernel_rfl) ?_
  refine wval (some 31) (.bool false) wz3 (by kernel_rfl) (by kernel_rfl) (by kernel_rfl) ?_
  refine wnil (hKC15 _ _ (?_))
  clear hKC15
  refine wp_cond_false (by kernel_rfl) ?_
  refine wp_seq_k ?_
  intro KC16 hKC16
  refine wp_regionW ?_
  refine wvalE (some 51) (.bool (decide (k = 9))) (.bool false) wz3 (by simp; omega) (by kernel_rfl) (by kernel_rfl) (by kernel_rfl) ?_
  refine wval (some 50) (.bool false) wz3 (by kernel_rfl) (by kernel_rfl) (by kernel_rfl) ?_
  refine wnil (hKC16 _ _ (?_))
  clear hKC16
  refine wp_cond_false (by kernel_rfl) ?_
  refine wp_seq_k ?_
  intro KC17 hKC17
  refine wp_regionW ?_
  refine wvalE (some 57) (.bool (decide (k = 10))) (.bool false) wz3 (by simp; omega) (by kernel_rfl) (by kernel_rfl) (by kernel_rfl) ?_
  refine wval (some 56) (.bool false) wz3 (by kernel_rfl) (by kernel_rfl) (by kernel_rfl) ?_
  refine wnil (hKC17 _ _ (?_))
  clear hKC17
  refine wp_cond_false (by kernel_rfl) ?_
  refine wp_skip (hKC6 _ _ (?_))
  clear hKC6
  refine wp_seq_k ?_
  intro KC18 hKC18
  refine wp_regionW ?_
  refine wval (some 4) (.int .i64 2) wz3 (by kernel_rfl) (by kernel_rfl) (by kernel_rfl) ?_
  refine wnil (hKC18 _ _ (?_))
  clear hKC18
  refine wp_ret ?_
  refine bodyPost_ret (v := .int .i64 2) (by kernel_rfl) rfl ⟨rfl, HF5.out⟩
set_option maxRecDepth 100000 in
set_option maxHeartbeats 4000000 in
theorem act_ask (g : GtD) (k : Nat) (gp : Nat) (w : World) (hw : Blk w gp 158 (wld g none 0 0)) :
    Calls Tryz.prog 76 #[.pointer (some ⟨gp, 0, none⟩), .agg #[.int .i64 2, .int .i64 0, .int .i64 (k : Nat), .int .i64 0, .int .u64 0, .slice none 0 0]] w fun e w' => e = .returned (.int .i64 5) ∧ Below w.heap.size w w' := by
  have HG0 := Lib.hid hw
  have HB0 := Lib.hid (Below.refl w.heap.size w)
  clear hw
  go_enter Tryz.func76, Tryz.ntmps76
  refine wp_seq_k ?_
  intro KC1 hKC1
  refine wp_regionW ?_
  refine wnew (some 3) 99 #[.int .i64 2, .int .i64 0, .int .i64 (k : Nat), .int .i64 0, .int .u64 0, .slice none 0 0] (fun q => .pointer (some ⟨q, 0, none⟩)) (by kernel_rfl) (by kernel_rfl) (by kernel_rfl) ?_
  intro wz3 g2 hg2 hBg2 hbg2
  have hlg2 : w.heap.size ≤ g2 := by rw [← hg2]; exact HB0.out.size
  have HK4 := Lib.hid (HG0.out.carry hbg2)
  have HF5 := Lib.hid (HB0.out.trans (hbg2.mono HB0.out.size))
  have HKg2 := Lib.hid hBg2
  clear hBg2 hbg2
  refine wval (some 4) (.int .i64 0) wz3 (by kernel_rfl) (by kernel_rfl) (by kernel_rfl) ?_
  refine wnil (hKC1 _ _ (?_))
  clear hKC1
  refine wp_seq_k ?_
  intro KC6 hKC6
  refine wp_seq_k ?_
  intro KC7 hKC7
  refine wp_regionW ?_
  refine wval (some 7) (.pointer (some ⟨g2, 0, none⟩)) wz3 (by kernel_rfl) (by kernel_rfl) (by kernel_rfl) ?_
  refine wload (some 8) (.int .i64 2) 3 (.tmp 7) g2 0 _ (by kernel_rfl) (by kernel_rfl) (by kernel_rfl) (by kernel_rfl) Tryz.underlying3 rfl (by rw [HKg2.out.cell]; kernel_rfl) ?_
  refine wnil (hKC7 _ _ (?_))
  clear hKC7
  refine wp_block ?_
  refine wp_seq_k ?_
  intro KC8 hKC8
  refine wp_regionW ?_
  refine wval (some 10) (.bool false) wz3 (by kernel_rfl) (by kernel_rfl) (by kernel_rfl) ?_
  refine wval (some 9) (.bool false) wz3 (by kernel_rfl) (by kernel_rfl) (by kernel_rfl) ?_
  refine wnil (hKC8 _ _ (?_))
  clear hKC8
  refine wp_cond_false (by kernel_rfl) ?_
  refine wp_seq_k ?_
  intro KC9 hKC9
  refine wp_regionW ?_
  refine wval (some 15) (.bool true) wz3 (by kernel_rfl) (by kernel_rfl) (by kernel_rfl) ?_
  refine wval (some 14) (.bool true) wz3 (by kernel_rfl) (by kernel_rfl) (by kernel_rfl) ?_
  refine wnil (hKC9 _ _ (?_))
  clear hKC9
  refine wp_cond_true (by kernel_rfl) ?_
  refine wp_seq_k ?_
  intro KC10 hKC10
  refine wp_regionW ?_
  refine wval (some 16) (.pointer (some ⟨gp, 0, none⟩)) wz3 (by kernel_rfl) (by kernel_rfl) (by kernel_rfl) ?_
  refine wloadR (some 17) (by kernel_rfl) (by kernel_rfl) 99 (.tmp 3) (by kernel_rfl) g2 0 (by kernel_rfl) #[.int .i64 2, .int .i64 0, .int .i64 (k : Nat), .int .i64 0, .int .u64 0, .slice none 0 0] _ Tryz.underlying99 rfl (by kernel_rfl) HKg2.out.whole ?_
  refine wcall (some 18) 116 #[.pointer (some ⟨gp, 0, none⟩), .agg #[.int .i64 2, .int .i64 0, .int .i64 (k : Nat), .int .i64 0, .int .u64 0, .slice none 0 0]] (by kernel_rfl) (by kernel_rfl) (by kernel_rfl) ?_
  refine (ask_none g 2 k gp _ HK4.out).mono ?_
  rintro e wz11 ⟨rfl, hbc⟩
  refine ⟨_, rfl, ?_⟩
  have HK12 := Lib.hid (HK4.out.carry hbc)
  clear HK4
  have HK13 := Lib.hid (HKg2.out.carry hbc)
  clear HKg2
  have HF14 := Lib.hid (HF5.out.trans (hbc.mono HF5.out.size))
  clear HF5
  clear hbc
  refine wval (some 4) (.int .i64 5) wz11 (by kernel_rfl) (by kernel_rfl) (by kernel_rfl) ?_
  refine wnil (hKC10 _ _ (?_))
  clear hKC10
  refine wp_ret ?_
  refine inBlock_ret ?_
  refine then_ret ?_
  refine bodyPost_ret (v := .int .i64 5) (by kernel_rfl) rfl ⟨rfl, HF14.out⟩
set_option maxRecDepth 100000 in
set_option maxHeartbeats 4000000 in
theorem act_deliver (g : GtD) (k : Nat) (gp : Nat) (w : World) (hw : Blk w gp 158 (wld g none 0 0)) :
    Calls Tryz.prog 76 #[.pointer (some ⟨gp, 0, none⟩), .agg #[.int .i64 4, .int .i64 0, .int .i64 (k : Nat), .int .i64 0, .int .u64 0, .slice none 0 0]] w fun e w' => e = .returned (.int .i64 5) ∧ Below w.heap.size w w' := by
  have HG0 := Lib.hid hw
  have HB0 := Lib.hid (Below.refl w.heap.size w)
  clear hw
  go_enter Tryz.func76, Tryz.ntmps76
  refine wp_seq_k ?_
  intro KC1 hKC1
  refine wp_regionW ?_
  refine wnew (some 3) 99 #[.int .i64 4, .int .i64 0, .int .i64 (k : Nat), .int .i64 0, .int .u64 0, .slice none 0 0] (fun q => .pointer (some ⟨q, 0, none⟩)) (by kernel_rfl) (by kernel_rfl) (by kernel_rfl) ?_
  intro wz3 g2 hg2 hBg2 hbg2
  have hlg2 : w.heap.size ≤ g2 := by rw [← hg2]; exact HB0.out.size
  have HK4 := Lib.hid (HG0.out.carry hbg2)
  have HF5 := Lib.hid (HB0.out.trans (hbg2.mono HB0.out.size))
  have HKg2 := Lib.hid hBg2
  clear hBg2 hbg2
  refine wval (some 4) (.int .i64 0) wz3 (by kernel_rfl) (by kernel_rfl) (by kernel_rfl) ?_
  refine wnil (hKC1 _ _ (?_))
  clear hKC1
  refine wp_seq_k ?_
  intro KC6 hKC6
  refine wp_seq_k ?_
  intro KC7 hKC7
  refine wp_regionW ?_
  refine wval (some 7) (.pointer (some ⟨g2, 0, none⟩)) wz3 (by kernel_rfl) (by kernel_rfl) (by kernel_rfl) ?_
  refine wload (some 8) (.int .i64 4) 3 (.tmp 7) g2 0 _ (by kernel_rfl) (by kernel_rfl) (by kernel_rfl) (by kernel_rfl) Tryz.underlying3 rfl (by rw [HKg2.out.cell]; kernel_rfl) ?_
  refine wnil (hKC7 _ _ (?_))
  clear hKC7
  refine wp_block ?_
  refine wp_seq_k ?_
  intro KC8 hKC8
  refine wp_regionW ?_
  refine wval (some 10) (.bool false) wz3 (by kernel_rfl) (by kernel_rfl) (by kernel_rfl) ?_
  refine wval (some 9) (.bool false) wz3 (by kernel_rfl) (by kernel_rfl) (by kernel_rfl) ?_
  refine wnil (hKC8 _ _ (?_))
  clear hKC8
  refine wp_cond_false (by kernel_rfl) ?_
  refine wp_seq_k ?_
  intro KC9 hKC9
  refine wp_regionW ?_
  refine wval (some 15) (.bool false) wz3 (by kernel_rfl) (by kernel_rfl) (by kernel_rfl) ?_
  refine wval (some 14) (.bool false) wz3 (by kernel_rfl) (by kernel_rfl) (by kernel_rfl) ?_
  refine wnil (hKC9 _ _ (?_))
  clear hKC9
  refine wp_cond_false (by kernel_rfl) ?_
  refine wp_seq_k ?_
  intro KC10 hKC10
  refine wp_regionW ?_
  refine wval (some 20) (.bool false) wz3 (by kernel_rfl) (by kernel_rfl) (by kernel_rfl) ?_
  refine wval (some 19) (.bool false) wz3 (by kernel_rfl) (by kernel_rfl) (by kernel_rfl) ?_
  refine wnil (hKC10 _ _ (?_))
  clear hKC10
  refine wp_cond_false (by kernel_rfl) ?_
  refine wp_seq_k ?_
  intro KC11 hKC11
  refine wp_seq_k ?_
  intro KC12 hKC12
  refine wp_regionW ?_
  refine wval (some 24) (.bool true) wz3 (by kernel_rfl) (by kernel_rfl) (by kernel_rfl) ?_
  refine wval (some 23) (.bool true) wz3 (by kernel_rfl) (by kernel_rfl) (by kernel_rfl) ?_
  refine wnil (hKC12 _ _ (?_))
  clear hKC12
  refine wp_cond_true (by kernel_rfl) ?_
  refine wp_skip (hKC11 _ _ (?_))
  clear hKC11
  refine wp_cond_true (by kernel_rfl) ?_
  refine wp_seq_k ?_
  intro KC13 hKC13
  refine wp_regionW ?_
  refine wval (some 28) (.pointer (some ⟨gp, 0, none⟩)) wz3 (by kernel_rfl) (by kernel_rfl) (by kernel_rfl) ?_
  refine wloadR (some 29) (by kernel_rfl) (by kernel_rfl) 99 (.tmp 3) (by kernel_rfl) g2 0 (by kernel_rfl) #[.int .i64 4, .int .i64 0, .int .i64 (k : Nat), .int .i64 0, .int .u64 0, .slice none 0 0] _ Tryz.underlying99 rfl (by kernel_rfl) HKg2.out.whole ?_
  refine wcall (some 30) 118 #[.pointer (some ⟨gp, 0, none⟩), .agg #[.int .i64 4, .int .i64 0, .int .i64 (k : Nat), .int .i64 0, .int .u64 0, .slice none 0 0]] (by kernel_rfl) (by kernel_rfl) (by kernel_rfl) ?_
  refine (meddle_none g 4 k gp _ HK4.out).mono ?_
  rintro e wz14 ⟨rfl, hbc⟩
  refine ⟨_, rfl, ?_⟩
  have HK15 := Lib.hid (HK4.out.carry hbc)
  clear HK4
  have HK16 := Lib.hid (HKg2.out.carry hbc)
  clear HKg2
  have HF17 := Lib.hid (HF5.out.trans (hbc.mono HF5.out.size))
  clear HF5
  clear hbc
  refine wval (some 4) (.int .i64 5) wz14 (by kernel_rfl) (by kernel_rfl) (by kernel_rfl) ?_
  refine wnil (hKC13 _ _ (?_))
  clear hKC13
  refine wp_ret ?_
  refine inBlock_ret ?_
  refine then_ret ?_
  refine bodyPost_ret (v := .int .i64 5) (by kernel_rfl) rfl ⟨rfl, HF17.out⟩
set_option maxRecDepth 100000 in
set_option maxHeartbeats 4000000 in
theorem act_inject (g : GtD)  (gp : Nat) (w : World) (hw : Blk w gp 158 (wld g none 0 0)) :
    Calls Tryz.prog 76 #[.pointer (some ⟨gp, 0, none⟩), .agg #[.int .i64 8, .int .i64 4, .int .i64 0, .int .i64 0, .int .u64 0, .slice none 0 0]] w fun e w' => e = .returned (.int .i64 6) ∧ Below w.heap.size w w' := by
  have HG0 := Lib.hid hw
  have HB0 := Lib.hid (Below.refl w.heap.size w)
  clear hw
  go_enter Tryz.func76, Tryz.ntmps76
  refine wp_seq_k ?_
  intro KC1 hKC1
  refine wp_regionW ?_
  refine wnew (some 3) 99 #[.int .i64 8, .int .i64 4, .int .i64 0, .int .i64 0, .int .u64 0, .slice none 0 0] (fun q => .pointer (some ⟨q, 0, none⟩)) (by kernel_rfl) (by kernel_rfl) (by kernel_rfl) ?_
  intro wz3 g2 hg2 hBg2 hbg2
  have hlg2 : w.heap.size ≤ g2 := by rw [← hg2]; exact HB0.out.size
  have HK4 := Lib.hid (HG0.out.carry hbg2)
  have HF5 := Lib.hid (HB0.out.trans (hbg2.mono HB0.out.size))
  have HKg2 := Lib.hid hBg2
  clear hBg2 hbg2
  refine wval (some 4) (.int .i64 0) wz3 (by kernel_rfl) (by kernel_rfl) (by kernel_rfl) ?_
  refine wnil (hKC1 _ _ (?_))
  clear hKC1
  refine wp_seq_k ?_
  intro KC6 hKC6
  refine wp_seq_k ?_
  intro KC7 hKC7
  refine wp_regionW ?_
  refine wval (some 7) (.pointer (some ⟨g2, 0, none⟩)) wz3 (by kernel_rfl) (by kernel_rfl) (by kernel_rfl) ?_
  refine wload (some 8) (.int .i64 8) 3 (.tmp 7) g2 0 _ (by kernel_rfl) (by kernel_rfl) (by kernel_rfl) (by kernel_rfl) Tryz.underlying3 rfl (by rw [HKg2.out.cell]; kernel_rfl) ?_
  refine wnil (hKC7 _ _ (?_))
  clear hKC7
  refine wp_block ?_
  refine wp_seq_k ?_
  intro KC8 hKC8
  refine wp_regionW ?_
  refine wval (some 10) (.bool false) wz3 (by kernel_rfl) (by kernel_rfl) (by kernel_rfl) ?_
  refine wval (some 9) (.bool false) wz3 (by kernel_rfl) (by kernel_rfl) (by kernel_rfl) ?_
  refine wnil (hKC8 _ _ (?_))
  clear hKC8
  refine wp_cond_false (by kernel_rfl) ?_
  refine wp_seq_k ?_
  intro KC9 hKC9
  refine wp_regionW ?_
  refine wval (some 15) (.bool false) wz3 (by kernel_rfl) (by kernel_rfl) (by kernel_rfl) ?_
  refine wval (some 14) (.bool false) wz3 (by kernel_rfl) (by kernel_rfl) (by kernel_rfl) ?_
  refine wnil (hKC9 _ _ (?_))
  clear hKC9
  refine wp_cond_false (by kernel_rfl) ?_
  refine wp_seq_k ?_
  intro KC10 hKC10
  refine wp_regionW ?_
  refine wval (some 20) (.bool false) wz3 (by kernel_rfl) (by kernel_rfl) (by kernel_rfl) ?_
  refine wval (some 19) (.bool false) wz3 (by kernel_rfl) (by kernel_rfl) (by kernel_rfl) ?_
  refine wnil (hKC10 _ _ (?_))
  clear hKC10
  refine wp_cond_false (by kernel_rfl) ?_
  refine wp_seq_k ?_
  intro KC11 hKC11
  refine wp_seq_k ?_
  intro KC12 hKC12
  refine wp_regionW ?_
  refine wval (some 24) (.bool false) wz3 (by kernel_rfl) (by kernel_rfl) (by kernel_rfl) ?_
  refine wval (some 23) (.bool false) wz3 (by kernel_rfl) (by kernel_rfl) (by kernel_rfl) ?_
  refine wnil (hKC12 _ _ (?_))
  clear hKC12
  refine wp_cond_false (by kernel_rfl) ?_
  refine wp_seq_k ?_
  intro KC13 hKC13
  refine wp_regionW ?_
  refine wval (some 25) (.bool false) wz3 (by kernel_rfl) (by kernel_rfl) (by kernel_rfl) ?_
  refine wval (some 23) (.bool false) wz3 (by kernel_rfl) (by kernel_rfl) (by kernel_rfl) ?_
  refine wnil (hKC13 _ _ (?_))
  clear hKC13
  refine wp_cond_false (by kernel_rfl) ?_
  refine wp_seq_k ?_
  intro KC14 hKC14
  refine wp_regionW ?_
  refine wval (some 26) (.bool false) wz3 (by kernel_rfl) (by kernel_rfl) (by kernel_rfl) ?_
  refine wval (some 23) (.bool false) wz3 (by kernel_rfl) (by kernel_rfl) (by kernel_rfl) ?_
  refine wnil (hKC14 _ _ (?_))
  clear hKC14
  refine wp_cond_false (by kernel_rfl) ?_
  refine wp_regionW ?_
  refine wval (some 27) (.bool false) wz3 (by kernel_rfl) (by kernel_rfl) (by kernel_rfl) ?_
  refine wval (some 23) (.bool false) wz3 (by kernel_rfl) (by kernel_rfl) (by kernel_rfl) ?_
  refine wnil (hKC11 _ _ (?_))
  clear hKC11
  refine wp_cond_false (by kernel_rfl) ?_
  refine wp_seq_k ?_
  intro KC15 hKC15
  refine wp_regionW ?_
  refine wval (some 32) (.bool true) wz3 (by kernel_rfl) (by kernel_rfl) (by kernel_rfl) ?_
  refine wval (some 31) (.bool true) wz3 (by kernel_rfl) (by kernel_rfl) (by kernel_rfl) ?_
  refine wnil (hKC15 _ _ (?_))
  clear hKC15
  refine wp_cond_true (by kernel_rfl) ?_
  refine wp_seq_k ?_
  intro KC16 hKC16
  refine wp_seq_k ?_
  intro KC17 hKC17
  refine wp_regionW ?_
  refine wval (some 33) (.pointer (some ⟨g2, 1, none⟩)) wz3 (by kernel_rfl) (by kernel_rfl) (by kernel_rfl) ?_
  refine wload (some 34) (.int .i64 4) 3 (.tmp 33) g2 1 _ (by kernel_rfl) (by kernel_rfl) (by kernel_rfl) (by kernel_rfl) Tryz.underlying3 rfl (by rw [HKg2.out.cell]; kernel_rfl) ?_
  refine wval (some 35) (.bool false) wz3 (by kernel_rfl) (by kernel_rfl) (by kernel_rfl) ?_
  refine wval (some 36) (.bool false) wz3 (by kernel_rfl) (by kernel_rfl) (by kernel_rfl) ?_
  refine wval (some 37) (.pointer (some ⟨g2, 1, none⟩)) wz3 (by kernel_rfl) (by kernel_rfl) (by kernel_rfl) ?_
  refine wload (some 38) (.int .i64 4) 3 (.tmp 37) g2 1 _ (by kernel_rfl) (by kernel_rfl) (by kernel_rfl) (by kernel_rfl) Tryz.underlying3 rfl (by rw [HKg2.out.cell]; kernel_rfl) ?_
  refine wval (some 39) (.bool true) wz3 (by kernel_rfl) (by kernel_rfl) (by kernel_rfl) ?_
  refine wval (some 40) (.bool true) wz3 (by kernel_rfl) (by kernel_rfl) (by kernel_rfl) ?_
  refine wnil (hKC17 _ _ (?_))
  clear hKC17
  refine wp_cond_true (by kernel_rfl) ?_
  refine wp_seq_k ?_
  intro KC18 hKC18
  refine wp_regionW ?_
  refine wval (some 4) (.int .i64 6) wz3 (by kernel_rfl) (by kernel_rfl) (by kernel_rfl) ?_
  refine wnil (hKC18 _ _ (?_))
  clear hKC18
  refine wp_ret ?_
  refine then_ret ?_
  refine inBlock_ret ?_
  refine then_ret ?_
  refine bodyPost_ret (v := .int .i64 6) (by kernel_rfl) rfl ⟨rfl, HF5.out⟩
set_option maxRecDepth 100000 in
set_option maxHeartbeats 4000000 in
theorem act_again (g : GtD)  (gp : Nat) (w : World) (hw : Blk w gp 158 (wld g none 0 0)) :
    Calls Tryz.prog 76 #[.pointer (some ⟨gp, 0, none⟩), .agg #[.int .i64 10, .int .i64 0, .int .i64 0, .int .i64 0, .int .u64 0, .slice none 0 0]] w fun e w' => e = .returned (.int .i64 5) ∧ Below w.heap.size w w' := by
  have HG0 := Lib.hid hw
  have HB0 := Lib.hid (Below.refl w.heap.size w)
  clear hw
  go_enter Tryz.func76, Tryz.ntmps76
  refine wp_seq_k ?_
  intro KC1 hKC1
  refine wp_regionW ?_
  refine wnew (some 3) 99 #[.int .i64 10, .int .i64 0, .int .i64 0, .int .i64 0, .int .u64 0, .slice none 0 0] (fun q => .pointer (some ⟨q, 0, none⟩)) (by kernel_rfl) (by kernel_rfl) (by kernel_rfl) ?_
  intro wz3 g2 hg2 hBg2 hbg2
  have hlg2 : w.heap.size ≤ g2 := by rw [← hg2]; exact HB0.out.size
  have HK4 := Lib.hid (HG0.out.carry hbg2)
  have HF5 := Lib.hid (HB0.out.trans (hbg2.mono HB0.out.size))
  have HKg2 := Lib.hid hBg2
  clear hBg2 hbg2
  refine wval (some 4) (.int .i64 0) wz3 (by kernel_rfl) (by kernel_rfl) (by kernel_rfl) ?_
  refine wnil (hKC1 _ _ (?_))
  clear hKC1
  refine wp_seq_k ?_
  intro KC6 hKC6
  refine wp_seq_k ?_
  intro KC7 hKC7
  refine wp_regionW ?_
  refine wval (some 7) (.pointer (some ⟨g2, 0, none⟩)) wz3 (by kernel_rfl) (by kernel_rfl) (by kernel_rfl) ?_
  refine wload (some 8) (.int .i64 10) 3 (.tmp 7) g2 0 _ (by kernel_rfl) (by kernel_rfl) (by kernel_rfl) (by kernel_rfl) Tryz.underlying3 rfl (by rw [HKg2.out.cell]; kernel_rfl) ?_
  refine wnil (hKC7 _ _ (?_))
  clear hKC7
  refine wp_block ?_
  refine wp_seq_k ?_
  intro KC8 hKC8
  refine wp_regionW ?_
  refine wval (some 10) (.bool false) wz3 (by kernel_rfl) (by kernel_rfl) (by kernel_rfl) ?_
  refine wval (some 9) (.bool false) wz3 (by kernel_rfl) (by kernel_rfl) (by kernel_rfl) ?_
  refine wnil (hKC8 _ _ (?_))
  clear hKC8
  refine wp_cond_false (by kernel_rfl) ?_
  refine wp_seq_k ?_
  intro KC9 hKC9
  refine wp_regionW ?_
  refine wval (some 15) (.bool false) wz3 (by kernel_rfl) (by kernel_rfl) (by kernel_rfl) ?_
  refine wval (some 14) (.bool false) wz3 (by kernel_rfl) (by kernel_rfl) (by kernel_rfl) ?_
  refine wnil (hKC9 _ _ (?_))
  clear hKC9
  refine wp_cond_false (by kernel_rfl) ?_
  refine wp_seq_k ?_
  intro KC10 hKC10
  refine wp_regionW ?_
  refine wval (some 20) (.bool false) wz3 (by kernel_rfl) (by kernel_rfl) (by kernel_rfl) ?_
  refine wval (some 19) (.bool false) wz3 (by kernel_rfl) (by kernel_rfl) (by kernel_rfl) ?_
  refine wnil (hKC10 _ _ (?_))
  clear hKC10
  refine wp_cond_false (by kernel_rfl) ?_
  refine wp_seq_k ?_
  intro KC11 hKC11
  refine wp_seq_k ?_
  intro KC12 hKC12
  refine wp_regionW ?_
  refine wval (some 24) (.bool false) wz3 (by kernel_rfl) (by kernel_rfl) (by kernel_rfl) ?_
  refine wval (some 23) (.bool false) wz3 (by kernel_rfl) (by kernel_rfl) (by kernel_rfl) ?_
  refine wnil (hKC12 _ _ (?_))
  clear hKC12
  refine wp_cond_false (by kernel_rfl) ?_
  refine wp_seq_k ?_
  intro KC13 hKC13
  refine wp_regionW ?_
  refine wval (some 25) (.bool false) wz3 (by kernel_rfl) (by kernel_rfl) (by kernel_rfl) ?_
  refine wval (some 23) (.bool false) wz3 (by kernel_rfl) (by kernel_rfl) (by kernel_rfl) ?_
  refine wnil (hKC13 _ _ (?_))
  clear hKC13
  refine wp_cond_false (by kernel_rfl) ?_
  refine wp_seq_k ?_
  intro KC14 hKC14
  refine wp_regionW ?_
  refine wval (some 26) (.bool false) wz3 (by kernel_rfl) (by kernel_rfl) (by kernel_rfl) ?_
  refine wval (some 23) (.bool false) wz3 (by kernel_rfl) (by kernel_rfl) (by kernel_rfl) ?_
  refine wnil (hKC14 _ _ (?_))
  clear hKC14
  refine wp_cond_false (by kernel_rfl) ?_
  refine wp_regionW ?_
  refine wval (some 27) (.bool false) wz3 (by kernel_rfl) (by kernel_rfl) (by kernel_rfl) ?_
  refine wval (some 23) (.bool false) wz3 (by kernel_rfl) (by kernel_rfl) (by kernel_rfl) ?_
  refine wnil (hKC11 _ _ (?_))
  clear hKC11
  refine wp_cond_false (by kernel_rfl) ?_
  refine wp_seq_k ?_
  intro KC15 hKC15
  refine wp_regionW ?_
  refine wval (some 32) (.bool false) wz3 (by kernel_rfl) (by kernel_rfl) (by kernel_rfl) ?_
  refine wval (some 31) (.bool false) wz3 (by kernel_rfl) (by kernel_rfl) (by kernel_rfl) ?_
  refine wnil (hKC15 _ _ (?_))
  clear hKC15
  refine wp_cond_false (by kernel_rfl) ?_
  refine wp_seq_k ?_
  intro KC16 hKC16
  refine wp_regionW ?_
  refine wval (some 51) (.bool false) wz3 (by kernel_rfl) (by kernel_rfl) (by kernel_rfl) ?_
  refine wval (some 50) (.bool false) wz3 (by kernel_rfl) (by kernel_rfl) (by kernel_rfl) ?_
  refine wnil (hKC16 _ _ (?_))
  clear hKC16
  refine wp_cond_false (by kernel_rfl) ?_
  refine wp_seq_k ?_
  intro KC17 hKC17
  refine wp_regionW ?_
  refine wval (some 57) (.bool true) wz3 (by kernel_rfl) (by kernel_rfl) (by kernel_rfl) ?_
  refine wval (some 56) (.bool true) wz3 (by kernel_rfl) (by kernel_rfl) (by kernel_rfl) ?_
  refine wnil (hKC17 _ _ (?_))
  clear hKC17
  refine wp_cond_true (by kernel_rfl) ?_
  refine wp_seq_k ?_
  intro KC18 hKC18
  refine wp_seq_k ?_
  intro KC19 hKC19
  refine wp_flow (fun k => decide (k < 14)) (fun k => false) 102 [0, 1, 2, 3, 4, 5, 6, 7, 8, 9, 10, 11, 12, 13] (fun w' => Below wz3.heap.size wz3 w') (fun k a v w' => True) (by kernel_rfl) ?hflB ?hpuB ?hksB (fun _ _ _ _ _ h => h) (by kernel_rfl) ?hst ?hC ?_
  case hflB => kernel_rfl
  case hpuB => kernel_rfl
  case hksB => kernel_rfl
  case hst => exact ⟨fun w0 w1 h1 hb => h1.trans (hb.mono h1.size), fun k a v w0 w1 hW hb => hW, fun k a b v w0 _ h => h⟩
  case hC => exact (Below.refl _ _).drew
  refine fq 58 (.pointer (some ⟨g2, 2, none⟩)) (by kernel_rfl) (by kernel_rfl) (by kernel_rfl) (by kernel_rfl) (fun w => (by kernel_rfl)) ?_
  refine fq1 59 (.int .i64 0) 3 (.tmp 58) g2 2 _ (by kernel_rfl) (by kernel_rfl) (by kernel_rfl) (by kernel_rfl) (by kernel_rfl) (by kernel_rfl) Tryz.underlying3 rfl (fun w hw => by rw [(HKg2.out.carry hw.1).cell]; kernel_rfl) ?_
  refine fq 60 (.bool false) (by kernel_rfl) (by kernel_rfl) (by kernel_rfl) (by kernel_rfl) (fun w => (by kernel_rfl)) ?_
  refine fq 61 (.bool false) (by kernel_rfl) (by kernel_rfl) (by kernel_rfl) (by kernel_rfl) (fun w => (by kernel_rfl)) ?_
  refine fq 62 (.pointer (some ⟨g2, 2, none⟩)) (by kernel_rfl) (by kernel_rfl) (by kernel_rfl) (by kernel_rfl) (fun w => (by kernel_rfl)) ?_
  refine fq1 63 (.int .i64 0) 3 (.tmp 62) g2 2 _ (by kernel_rfl) (by kernel_rfl) (by kernel_rfl) (by kernel_rfl) (by kernel_rfl) (by kernel_rfl) Tryz.underlying3 rfl (fun w hw => by rw [(HKg2.out.carry hw.1).cell]; kernel_rfl) ?_
  refine fq 64 (.pointer (some ⟨gp, 0, none⟩)) (by kernel_rfl) (by kernel_rfl) (by kernel_rfl) (by kernel_rfl) (fun w => (by kernel_rfl)) ?_
  refine fq 65 (.pointer (some ⟨gp, 0, none⟩)) (by kernel_rfl) (by kernel_rfl) (by kernel_rfl) (by kernel_rfl) (fun w => (by kernel_rfl)) ?_
  refine fq 66 (.pointer (some ⟨gp, 0, none⟩)) (by kernel_rfl) (by kernel_rfl) (by kernel_rfl) (by kernel_rfl) (fun w => (by kernel_rfl)) ?_
  refine fq 67 (.pointer (some ⟨gp, 18, none⟩)) (by kernel_rfl) (by kernel_rfl) (by kernel_rfl) (by kernel_rfl) (fun w => (by kernel_rfl)) ?_
  refine fq1 68 (.slice none 0 0) 102 (.tmp 67) gp 18 _ (by kernel_rfl) (by kernel_rfl) (by kernel_rfl) (by kernel_rfl) (by kernel_rfl) (by kernel_rfl) Tryz.underlying102 rfl (fun w hw => by rw [(HK4.out.carry hw.1).cell]; kernel_rfl) ?_
  refine fq 69 (.int .i64 0) (by kernel_rfl) (by kernel_rfl) (by kernel_rfl) (by kernel_rfl) (fun w => (by kernel_rfl)) ?_
  refine fq 70 (.bool true) (by kernel_rfl) (by kernel_rfl) (by kernel_rfl) (by kernel_rfl) (fun w => (by kernel_rfl)) ?_
  refine fq 71 (.bool true) (by kernel_rfl) (by kernel_rfl) (by kernel_rfl) (by kernel_rfl) (fun w => (by kernel_rfl)) ?_
  refine fend [] (by kernel_rfl) (by kernel_rfl) ?_
  intro wf20 hwwf20 hF
  clear hF
  have HK21 := Lib.hid (HK4.out.carry hwwf20)
  clear HK4
  have HK22 := Lib.hid (HKg2.out.carry hwwf20)
  clear HKg2
  have HF23 := Lib.hid (HF5.out.trans (hwwf20.mono HF5.out.size))
  clear HF5
  refine tend (hKC19 _ _ (?_))
  clear hKC19
  refine wp_cond_true (by kernel_rfl) ?_
  refine wp_seq_k ?_
  intro KC24 hKC24
  refine wp_regionW ?_
  refine wval (some 4) (.int .i64 5) wf20 (by kernel_rfl) (by kernel_rfl) (by kernel_rfl) ?_
  refine wnil (hKC24 _ _ (?_))
  clear hKC24
  refine wp_ret ?_
  refine then_ret ?_
  refine inBlock_ret ?_
  refine then_ret ?_
  refine bodyPost_ret (v := .int .i64 5) (by kernel_rfl) rfl ⟨rfl, HF23.out⟩
end Go.Proofs.YtbcagdjfegobnaaGreat
