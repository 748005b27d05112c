/- world.Run of one step that may not be, and of too many. -/
import Derived.Test.YtbcagdjfegobnaaGreatTopActB
import Derived.Test.YtbcagdjfegobnaaGreatPickAt
namespace Go.Proofs.YtbcagdjfegobnaaGreat
open Go.ChangeShapes Go.WideShapes Go.ChangeAt Go.RowKit
set_option linter.unusedVariables false

theorem errInfo : (Tryz.prog.info? 49).map (fun i => (i.zero, i.size, i.bytes)) = some (some (.int .i64 0), 1, 8) := by kernel_rfl
def gBeg (s : Int) : GtD := ⟨s, 0, 1, fun _ => (false, 0, 0), false, 0⟩
theorem gBeg_ok (s : Int) (s0 : 0 ≤ s) (s1 : s < 18446744073709551616) : GOk (gBeg s) [] :=
  ⟨s0, s1, by simp [gBeg], by simp [gBeg], by simp [gBeg], by simp [gBeg], by simp [gBeg], by simp [gBeg], fun i _ => ⟨⟨by simp [gBeg], by simp [gBeg]⟩, ⟨by simp [gBeg], by simp [gBeg]⟩, fun _ => by simp [gBeg]⟩, by simp, fun x hx => absurd hx List.not_mem_nil, List.Pairwise.nil⟩
theorem Blk.rdI {w : World} {g : Nat} {E : TypeId} {x : Int} (h : Blk w g E #[.int .i64 x]) : RdX icells 1 w (some ⟨g, 0, none⟩) [x] :=
  ⟨rfl, fun _ => ⟨g, 0, rfl, fun j u hu => by rw [h.cell, Nat.zero_add]; simpa [icells] using hu⟩⟩
theorem results_tct {P : Program} {fn : Func} {p q r : Tmp} {ty : TypeId} (tmps : Array Value) (w : World) (g : Nat) (t : TypeId) (cs : Array Value) (d : TypeDesc) (h : fn.results = #[.tmp q, .cell p ty, .tmp r]) (hp : tmps.getD p undef = .pointer (some ⟨g, 0, none⟩)) (hg : Blk w g t cs) (hu : P.underlying ty = some d) (hd : (match d with | .struct _ | .array _ _ => true | _ => false) = true) (hi : (P.info? ty).map (·.size) = some cs.size) {x y : Value} (hx : tmps.getD q undef = x) (hy : tmps.getD r undef = y) :
    (results fn tmps).run P w = .ok (.tuple #[x, .agg cs, y]) w := by
  have hp' : tmps[p]?.getD undef = .pointer (some ⟨g, 0, none⟩) := by simpa using hp
  have hx' : tmps[q]?.getD undef = x := by simpa using hx
  have hy' : tmps[r]?.getD undef = y := by simpa using hy
  simp [results, h, hp', hx', hy', asAddr, run_loadVar_cells (w := w) ty g 0 cs d hu hd hi hg.whole]
set_option maxRecDepth 100000 in
set_option maxHeartbeats 4000000 in
theorem pickedK_at (n m y : Int) (h0 : -9223372036854775808 ≤ n) (h1 : n ≤ 9223372036854775807) (hm : 0 < m) (hm1 : m ≤ 9223372036854775807) (hy : Hid (n % m = y)) (w : World) :
    Calls Tryz.prog 40 #[.int .i64 n, .int .i64 m] w fun e w' => e = .returned (.int .i64 y) ∧ w = w' := by
  go_enter Tryz.func40, Tryz.ntmps40
  refine wp_seq_k ?_
  intro KC1 hKC1
  refine wp_regionW ?_
  refine wval (some 4) (.int .i64 0) w (by kernel_rfl) (by kernel_rfl) (by kernel_rfl) ?_
  refine wnil (hKC1 _ _ (?_))
  clear hKC1
  refine wp_seq_k ?_
  intro KC2 hKC2
  refine wp_regionW ?_
  refine wval (some 5) (.int .i64 n) w (by kernel_rfl) (by kernel_rfl) (by kernel_rfl) ?_
  refine wval (some 6) (.int .i64 m) w (by kernel_rfl) (by kernel_rfl) (by kernel_rfl) ?_
  refine wcall (some 7) 15 #[.int .i64 n, .int .i64 m] (by kernel_rfl) (by kernel_rfl) (by kernel_rfl) ?_
  refine (picked_at n m y h0 h1 hm hm1 hy _).mono ?_
  rintro e wz3 ⟨rfl, rfl⟩
  refine ⟨_, rfl, ?_⟩
  refine wval (some 4) (.int .i64 y) w (by kernel_rfl) (by kernel_rfl) (by kernel_rfl) ?_
  refine wnil (hKC2 _ _ (?_))
  clear hKC2
  refine wp_ret ?_
  refine bodyPost_ret (v := .int .i64 y) (by kernel_rfl) rfl ⟨rfl, rfl⟩
set_option maxRecDepth 100000 in
set_option maxHeartbeats 4000000 in
theorem run_long (s : Int) (L : Option Addr) (c : Nat) (w : World) :
    Calls Tryz.prog 42 #[.int .u64 s, .bool false, .slice L 121 c] w fun e w' => e = .returned (.tuple #[.slice none 0 0, .agg #[.int .u64 0, .int .i64 0, .int .i64 0, .slice none 0 0, .bool false, .int .i64 0, .int .i64 0, .bool false, .int .i64 0, .int .i64 0, .bool false, .int .i64 0, .int .i64 0, .bool false, .int .i64 0, .int .i64 0, .bool false, .int .i64 0, .slice none 0 0, .slice none 0 0, .int .i64 0], .int .i64 1]) ∧ Below w.heap.size w w' := by
  have HB0 := Lib.hid (Below.refl w.heap.size w)
  go_enter Tryz.func42, Tryz.ntmps42
  refine wp_seq_k ?_
  intro KC1 hKC1
  refine wp_regionW ?_
  refine wval (some 6) (.slice none 0 0) w (by kernel_rfl) (by kernel_rfl) (by kernel_rfl) ?_
  refine wnew (some 7) 105 #[.int .u64 0, .int .i64 0, .int .i64 0, .slice none 0 0, .bool false, .int .i64 0, .int .i64 0, .bool false, .int .i64 0, .int .i64 0, .bool false, .int .i64 0, .int .i64 0, .bool false, .int .i64 0, .int .i64 0, .bool false, .int .i64 0, .slice none 0 0, .slice none 0 0, .int .i64 0] (fun q => .pointer (some ⟨q, 0, none⟩)) (by kernel_rfl) (by kernel_rfl) (by kernel_rfl) ?_
  intro wz3 g2 hg2 hBg2 hbg2
  have hlg2 : w.heap.size ≤ g2 := by rw [← hg2]; exact HB0.out.size
  have HF4 := Lib.hid (HB0.out.trans (hbg2.mono HB0.out.size))
  have HKg2 := Lib.hid hBg2
  clear hBg2 hbg2
  refine wval (some 8) (.int .i64 0) wz3 (by kernel_rfl) (by kernel_rfl) (by kernel_rfl) ?_
  refine wnil (hKC1 _ _ (?_))
  clear hKC1
  refine wp_seq_k ?_
  intro KC5 hKC5
  refine wp_seq_k ?_
  intro KC6 hKC6
  refine wp_regionW ?_
  refine wval (some 13) (.slice L 121 c) wz3 (by kernel_rfl) (by kernel_rfl) (by kernel_rfl) ?_
  refine wval (some 14) (.int .i64 121) wz3 (by kernel_rfl) (by kernel_rfl) (by kernel_rfl) ?_
  refine wval (some 15) (.bool true) wz3 (by kernel_rfl) (by kernel_rfl) (by kernel_rfl) ?_
  refine wnil (hKC6 _ _ (?_))
  clear hKC6
  refine wp_cond_true (by kernel_rfl) ?_
  refine wp_seq_k ?_
  intro KC7 hKC7
  refine wp_regionW ?_
  refine wval (some 16) (.agg #[.int .u64 0, .int .i64 0, .int .i64 0, .slice none 0 0, .bool false, .int .i64 0, .int .i64 0, .bool false, .int .i64 0, .int .i64 0, .bool false, .int .i64 0, .int .i64 0, .bool false, .int .i64 0, .int .i64 0, .bool false, .int .i64 0, .slice none 0 0, .slice none 0 0, .int .i64 0]) wz3 (by kernel_rfl) (by kernel_rfl) (by kernel_rfl) ?_
  refine wval (some 6) (.slice none 0 0) wz3 (by kernel_rfl) (by kernel_rfl) (by kernel_rfl) ?_
  refine wstoreP (by kernel_rfl) (by kernel_rfl) 105 (.tmp 7) (.tmp 16) (by kernel_rfl) g2 0 (by kernel_rfl) #[.int .u64 0, .int .i64 0, .int .i64 0, .slice none 0 0, .bool false, .int .i64 0, .int .i64 0, .bool false, .int .i64 0, .int .i64 0, .bool false, .int .i64 0, .int .i64 0, .bool false, .int .i64 0, .int .i64 0, .bool false, .int .i64 0, .slice none 0 0, .slice none 0 0, .int .i64 0] (by kernel_rfl) 105 #[.int .u64 0, .int .i64 0, .int .i64 0, .slice none 0 0, .bool false, .int .i64 0, .int .i64 0, .bool false, .int .i64 0, .int .i64 0, .bool false, .int .i64 0, .int .i64 0, .bool false, .int .i64 0, .int .i64 0, .bool false, .int .i64 0, .slice none 0 0, .slice none 0 0, .int .i64 0] HKg2.out (by kernel_rfl) (Nat.le_of_eq (by kernel_rfl)) (all_one (by kernel_rfl)) #[.int .u64 0, .int .i64 0, .int .i64 0, .slice none 0 0, .bool false, .int .i64 0, .int .i64 0, .bool false, .int .i64 0, .int .i64 0, .bool false, .int .i64 0, .int .i64 0, .bool false, .int .i64 0, .int .i64 0, .bool false, .int .i64 0, .slice none 0 0, .slice none 0 0, .int .i64 0] (splice_all _ _ (by kernel_rfl)) ?_
  intro wz8 hBwz8 hwwz8
  have HF9 := Lib.hid (hwwz8.trans_below HF4.out hlg2)
  clear HF4
  have HK10 := Lib.hid hBwz8
  clear HKg2
  refine wval (some 8) (.int .i64 1) wz8 (by kernel_rfl) (by kernel_rfl) (by kernel_rfl) ?_
  refine wnil (hKC7 _ _ (?_))
  clear hKC7
  refine wp_ret ?_
  refine then_ret ?_
  refine bodyPost_ret (results_tct _ _ g2 _ #[.int .u64 0, .int .i64 0, .int .i64 0, .slice none 0 0, .bool false, .int .i64 0, .int .i64 0, .bool false, .int .i64 0, .int .i64 0, .bool false, .int .i64 0, .int .i64 0, .bool false, .int .i64 0, .int .i64 0, .bool false, .int .i64 0, .slice none 0 0, .slice none 0 0, .int .i64 0] _ Tryz.results42 (by kernel_rfl) HK10.out Tryz.underlying105 rfl (by kernel_rfl) (by kernel_rfl) (by kernel_rfl)) rfl ⟨rfl, HF9.out⟩
set_option maxRecDepth 100000 in
set_option maxHeartbeats 4000000 in
theorem run_one (s : Int) (s0 : 0 ≤ s) (s1 : s < 18446744073709551616) (kd pe at_ n E : Int) (L : Nat) (w : World) (hL : Blk w L 99 #[.int .i64 kd, .int .i64 pe, .int .i64 at_, .int .i64 n, .int .u64 0, .slice none 0 0])
    (hact : ∀ (g : GtD) (gp : Nat) (W : World), GOk g [] → Blk W gp 158 (wld g none 0 0) → Calls Tryz.prog 76 #[.pointer (some ⟨gp, 0, none⟩), .agg #[.int .i64 kd, .int .i64 pe, .int .i64 at_, .int .i64 n, .int .u64 0, .slice none 0 0]] W fun e w' => e = .returned (.int .i64 E) ∧ Below W.heap.size W w') :
    Calls Tryz.prog 42 #[.int .u64 s, .bool false, .slice (some ⟨L, 0, none⟩) 1 1] w fun e w' => ∃ A c, e = .returned (.tuple #[.slice A 1 c, .agg (wld (gBeg s) none 0 0), .int .i64 0]) ∧ 1 ≤ c ∧ c ≤ 9223372036854775807 ∧ OwnX icells 1 w' w.heap.size 49 A c [E] ∧ Below w.heap.size w w' := by
  have HL := Lib.hid hL
  have HACT := Lib.hid hact
  have HB0 := Lib.hid (Below.refl w.heap.size w)
  clear hL hact
  go_enter Tryz.func42, Tryz.ntmps42
  refine wp_seq_k ?_
  intro KC1 hKC1
  refine wp_regionW ?_
  refine wval (some 6) (.slice none 0 0) w (by kernel_rfl) (by kernel_rfl) (by kernel_rfl) ?_
  refine wnew (some 7) 105 #[.int .u64 0, .int .i64 0, .int .i64 0, .slice none 0 0, .bool false, .int .i64 0, .int .i64 0, .bool false, .int .i64 0, .int .i64 0, .bool false, .int .i64 0, .int .i64 0, .bool false, .int .i64 0, .int .i64 0, .bool false, .int .i64 0, .slice none 0 0, .slice none 0 0, .int .i64 0] (fun q => .pointer (some ⟨q, 0, none⟩)) (by kernel_rfl) (by kernel_rfl) (by kernel_rfl) ?_
  intro wz3 g2 hg2 hBg2 hbg2
  have hlg2 : w.heap.size ≤ g2 := by rw [← hg2]; exact HB0.out.size
  have HK4 := Lib.hid (HL.out.carry hbg2)
  have HF5 := Lib.hid (HB0.out.trans (hbg2.mono HB0.out.size))
  have HKg2 := Lib.hid hBg2
  clear hBg2 hbg2
  refine wval (some 8) (.int .i64 0) wz3 (by kernel_rfl) (by kernel_rfl) (by kernel_rfl) ?_
  refine wnil (hKC1 _ _ (?_))
  clear hKC1
  refine wp_seq_k ?_
  intro KC6 hKC6
  refine wp_seq_k ?_
  intro KC7 hKC7
  refine wp_regionW ?_
  refine wval (some 13) (.slice (some ⟨L, 0, none⟩) 1 1) wz3 (by kernel_rfl) (by kernel_rfl) (by kernel_rfl) ?_
  refine wval (some 14) (.int .i64 1) wz3 (by kernel_rfl) (by kernel_rfl) (by kernel_rfl) ?_
  refine wval (some 15) (.bool false) wz3 (by kernel_rfl) (by kernel_rfl) (by kernel_rfl) ?_
  refine wnil (hKC7 _ _ (?_))
  clear hKC7
  refine wp_cond_false (by kernel_rfl) ?_
  refine wp_skip (hKC6 _ _ (?_))
  clear hKC6
  refine wp_seq_k ?_
  intro KC8 hKC8
  refine wp_regionW ?_
  refine wval (some 17) (.int .u64 s) wz3 (by kernel_rfl) (by kernel_rfl) (by kernel_rfl) ?_
  refine wval (some 18) (.bool false) wz3 (by kernel_rfl) (by kernel_rfl) (by kernel_rfl) ?_
  refine wcall (some 19) 28 #[.int .u64 s, .bool false] (by kernel_rfl) (by kernel_rfl) (by kernel_rfl) ?_
  refine (gateBegin_ok s false _).mono ?_
  rintro e wz9 ⟨rfl, hbc⟩
  refine ⟨_, rfl, ?_⟩
  have HK10 := Lib.hid (HK4.out.carry hbc)
  clear HK4
  have HK11 := Lib.hid (HKg2.out.carry hbc)
  clear HKg2
  have HF12 := Lib.hid (HF5.out.trans (hbc.mono HF5.out.size))
  clear HF5
  clear hbc
  refine wval (some 20) (.agg (wld (gBeg s) none 0 0)) wz9 (by kernel_rfl) (by kernel_rfl) (by kernel_rfl) ?_
  refine wval (some 21) (.agg (wld (gBeg s) none 0 0)) wz9 (by kernel_rfl) (by kernel_rfl) (by kernel_rfl) ?_
  refine wnew (some 22) 158 (wld (gBeg s) none 0 0) (fun q => .pointer (some ⟨q, 0, none⟩)) (by kernel_rfl) (by kernel_rfl) (by kernel_rfl) ?_
  intro wz14 g13 hg13 hBg13 hbg13
  have hlg13 : w.heap.size ≤ g13 := by rw [← hg13]; exact HF12.out.size
  have HK15 := Lib.hid (HK10.out.carry hbg13)
  clear HK10
  have HK16 := Lib.hid (HK11.out.carry hbg13)
  clear HK11
  have HF17 := Lib.hid (HF12.out.trans (hbg13.mono HF12.out.size))
  clear HF12
  have HKg13 := Lib.hid hBg13
  clear hBg13 hbg13
  refine wval (some 9) (.pointer (some ⟨g13, 0, none⟩)) wz14 (by kernel_rfl) (by kernel_rfl) (by kernel_rfl) ?_
  refine wnil (hKC8 _ _ (?_))
  clear hKC8
  refine wp_seq_k ?_
  intro KC18 hKC18
  refine wp_regionW ?_
  refine wval (some 10) (.slice none 0 0) wz14 (by kernel_rfl) (by kernel_rfl) (by kernel_rfl) ?_
  refine wnil (hKC18 _ _ (?_))
  clear hKC18
  refine wp_seq_k ?_
  intro KC19 hKC19
  refine wp_seq_k ?_
  intro KC20 hKC20
  refine wp_regionW ?_
  refine wval (some 23) (.slice (some ⟨L, 0, none⟩) 1 1) wz14 (by kernel_rfl) (by kernel_rfl) (by kernel_rfl) ?_
  refine wval (some 24) (.int .i64 1) wz14 (by kernel_rfl) (by kernel_rfl) (by kernel_rfl) ?_
  refine wval (some 25) (.int .i64 0) wz14 (by kernel_rfl) (by kernel_rfl) (by kernel_rfl) ?_
  refine wnil (hKC20 _ _ (?_))
  clear hKC20
  refine wp_block ?_
  refine wp_loop_rounds 2 ?_
  refine rounds_step ?_
  refine wp_seq_k ?_
  intro KC21 hKC21
  refine wp_regionW ?_
  refine wval (some 26) (.bool true) wz14 (by kernel_rfl) (by kernel_rfl) (by kernel_rfl) ?_
  refine wnil (hKC21 _ _ (?_))
  clear hKC21
  refine wp_seq_k ?_
  intro KC22 hKC22
  refine wp_cond_true (by kernel_rfl) ?_
  refine wp_skip (hKC22 _ _ (?_))
  clear hKC22
  refine wp_seq_k ?_
  intro KC23 hKC23
  refine wp_block ?_
  refine wp_seq_k ?_
  intro KC24 hKC24
  refine wp_regionW ?_
  refine widx (some 27) 95 (.tmp 23) (.tmp 25) L 0 1 1 .i64 0 6 0 (by kernel_rfl) (by kernel_rfl) (by kernel_rfl) (by kernel_rfl) (by kernel_rfl) Tryz.underlying95 (by kernel_rfl) (by decide) (by decide) (by decide) ?_
  refine wloadR (some 28) (by kernel_rfl) (by kernel_rfl) 99 (.tmp 27) (by kernel_rfl) L 0 (by kernel_rfl) #[.int .i64 kd, .int .i64 pe, .int .i64 at_, .int .i64 n, .int .u64 0, .slice none 0 0] _ Tryz.underlying99 rfl (by kernel_rfl) HK15.out.whole ?_
  refine wnew (some 12) 99 #[.int .i64 0, .int .i64 0, .int .i64 0, .int .i64 0, .int .u64 0, .slice none 0 0] (fun q => .pointer (some ⟨q, 0, none⟩)) (by kernel_rfl) (by kernel_rfl) (by kernel_rfl) ?_
  intro wz26 g25 hg25 hBg25 hbg25
  have hneLg25 : L ≠ g25 := by have := HK15.out.lt; omega
  have hlg25 : w.heap.size ≤ g25 := by rw [← hg25]; exact HF17.out.size
  have HK27 := Lib.hid (HK15.out.carry hbg25)
  clear HK15
  have HK28 := Lib.hid (HK16.out.carry hbg25)
  clear HK16
  have HK29 := Lib.hid (HKg13.out.carry hbg25)
  clear HKg13
  have HF30 := Lib.hid (HF17.out.trans (hbg25.mono HF17.out.size))
  clear HF17
  have HKg25 := Lib.hid hBg25
  clear hBg25 hbg25
  refine wstoreP (by kernel_rfl) (by kernel_rfl) 99 (.tmp 12) (.tmp 28) (by kernel_rfl) g25 0 (by kernel_rfl) #[.int .i64 kd, .int .i64 pe, .int .i64 at_, .int .i64 n, .int .u64 0, .slice none 0 0] (by kernel_rfl) 99 #[.int .i64 0, .int .i64 0, .int .i64 0, .int .i64 0, .int .u64 0, .slice none 0 0] HKg25.out (by kernel_rfl) (Nat.le_of_eq (by kernel_rfl)) (all_one (by kernel_rfl)) #[.int .i64 kd, .int .i64 pe, .int .i64 at_, .int .i64 n, .int .u64 0, .slice none 0 0] (splice_all _ _ (by kernel_rfl)) ?_
  intro wz31 hBwz31 hwwz31
  have HK32 := Lib.hid (HK27.out.wr hwwz31 hneLg25)
  clear HK27
  have HK33 := Lib.hid (HK28.out.wr hwwz31 (Blk.neq HK28.out HKg25.out (by decide)))
  clear HK28
  have HK34 := Lib.hid (HK29.out.wr hwwz31 (Blk.neq HK29.out HKg25.out (by decide)))
  clear HK29
  have HF35 := Lib.hid (hwwz31.trans_below HF30.out hlg25)
  clear HF30
  have HK36 := Lib.hid hBwz31
  clear HKg25
  refine wnil (hKC24 _ _ (?_))
  clear hKC24
  refine wp_regionW ?_
  refine wval (some 29) (.slice none 0 0) wz31 (by kernel_rfl) (by kernel_rfl) (by kernel_rfl) ?_
  refine wval (some 30) (.pointer (some ⟨g13, 0, none⟩)) wz31 (by kernel_rfl) (by kernel_rfl) (by kernel_rfl) ?_
  refine wloadR (some 31) (by kernel_rfl) (by kernel_rfl) 99 (.tmp 12) (by kernel_rfl) g25 0 (by kernel_rfl) #[.int .i64 kd, .int .i64 pe, .int .i64 at_, .int .i64 n, .int .u64 0, .slice none 0 0] _ Tryz.underlying99 rfl (by kernel_rfl) HK36.out.whole ?_
  refine wcall (some 32) 76 #[.pointer (some ⟨g13, 0, none⟩), .agg #[.int .i64 kd, .int .i64 pe, .int .i64 at_, .int .i64 n, .int .u64 0, .slice none 0 0]] (by kernel_rfl) (by kernel_rfl) (by kernel_rfl) ?_
  refine (HACT.out (gBeg s) g13 _ (gBeg_ok s s0 s1) HK34.out).mono ?_
  rintro e wz37 ⟨rfl, hbc⟩
  refine ⟨_, rfl, ?_⟩
  have HK38 := Lib.hid (HK32.out.carry hbc)
  clear HK32
  have HK39 := Lib.hid (HK33.out.carry hbc)
  clear HK33
  have HK40 := Lib.hid (HK34.out.carry hbc)
  clear HK34
  have HK41 := Lib.hid (HK36.out.carry hbc)
  clear HK36
  have HF42 := Lib.hid (HF35.out.trans (hbc.mono HF35.out.size))
  clear HF35
  clear hbc
  refine wnew (some 33) 49 #[.int .i64 E] (fun q => .slice (some ⟨q, 0, none⟩) 1 1) (by kernel_rfl) (by kernel_rfl) (by kernel_rfl) ?_
  intro wz44 g43 hg43 hBg43 hbg43
  have HK45 := Lib.hid (HK38.out.carry hbg43)
  clear HK38
  have HK46 := Lib.hid (HK39.out.carry hbg43)
  clear HK39
  have HK47 := Lib.hid (HK40.out.carry hbg43)
  clear HK40
  have HK48 := Lib.hid (HK41.out.carry hbg43)
  clear HK41
  have HF49 := Lib.hid (HF42.out.trans (hbg43.mono HF42.out.size))
  clear HF42
  have HKg43 := Lib.hid hBg43
  clear hBg43 hbg43
  refine wapp (some 34) icells 1 icells_one (.tmp 29) (.tmp 33) _ (by kernel_rfl) (by kernel_rfl) (by kernel_rfl) w.heap.size 49 _ 8 Tryz.underlying101 errInfo (by kernel_rfl) (by decide) (by decide) none 0 0 [] (by kernel_rfl) rfl (OwnX.nil _ _ _) (some ⟨g43, 0, none⟩) 1 1 [E] (by kernel_rfl) rfl HKg43.out.rdI [E] rfl 1 rfl (by decide) HF49.out.size ?_
  intro A9 c9 wz50 hO9 hc9 hm9 hb9 hg9 hl9
  have HK51 := Lib.hid (HK45.out.grown hg9 (by simp))
  have HK52 := Lib.hid (HK46.out.grown hg9 (by simp))
  have HK53 := Lib.hid (HK47.out.grown hg9 (by simp))
  have HK54 := Lib.hid (HK48.out.grown hg9 (by simp))
  have HF55 := Lib.hid (HF49.out.trans hb9)
  have HO := Lib.hid hO9
  clear hO9 hb9 hg9 hl9
  refine wval (some 10) (.slice A9 1 c9) wz50 (by kernel_rfl) (by kernel_rfl) (by kernel_rfl) ?_
  refine wnil (hKC23 _ _ (?_))
  clear hKC23
  refine wp_regionW ?_
  refine wval (some 35) (.int .i64 1) wz50 (by kernel_rfl) (by kernel_rfl) (by kernel_rfl) ?_
  refine wval (some 25) (.int .i64 1) wz50 (by kernel_rfl) (by kernel_rfl) (by kernel_rfl) ?_
  refine wnil (then_normal (?_))
  refine rounds_step ?_
  refine wp_seq_k ?_
  intro KC56 hKC56
  refine wp_regionW ?_
  refine wval (some 26) (.bool false) wz50 (by kernel_rfl) (by kernel_rfl) (by kernel_rfl) ?_
  refine wnil (hKC56 _ _ (?_))
  clear hKC56
  refine wp_seq_k ?_
  intro KC57 hKC57
  refine wp_cond_false (by kernel_rfl) ?_
  refine wp_exit ?_
  refine then_exit ?_
  refine then_exit ?_
  refine inBlock_exit ?_
  refine hKC19 _ _ (?_)
  clear hKC19
  refine wp_seq_k ?_
  intro KC58 hKC58
  refine wp_flow (fun k => decide (k < 6)) (fun k => false) 41 [0, 1, 2, 3, 4, 5] (fun w' => Below wz50.heap.size wz50 w') (fun k a v w' => True) (by kernel_rfl) ?hflB ?hpuB ?hksB (fun _ _ _ _ _ h => h) (by kernel_rfl) ?hst ?hC ?_
  case hflB => kernel_rfl
  case hpuB => kernel_rfl
  case hksB => kernel_rfl
  case hst => exact ⟨fun w0 w1 h1 hb => h1.trans (hb.mono h1.size), fun k a v w0 w1 hW hb => hW, fun k a b v w0 _ h => h⟩
  case hC => exact (Below.refl _ _).drew
  refine fq 36 (.slice A9 1 c9) (by kernel_rfl) (by kernel_rfl) (by kernel_rfl) (by kernel_rfl) (fun w => (by kernel_rfl)) ?_
  refine fq 37 (.pointer (some ⟨g13, 0, none⟩)) (by kernel_rfl) (by kernel_rfl) (by kernel_rfl) (by kernel_rfl) (fun w => (by kernel_rfl)) ?_
  refine fq 38 (.pointer (some ⟨g13, 0, none⟩)) (by kernel_rfl) (by kernel_rfl) (by kernel_rfl) (by kernel_rfl) (fun w => (by kernel_rfl)) ?_
  refine fq 39 (.pointer (some ⟨g13, 0, none⟩)) (by kernel_rfl) (by kernel_rfl) (by kernel_rfl) (by kernel_rfl) (fun w => (by kernel_rfl)) ?_
  refine fqR 40 (wld (gBeg s) none 0 0) 105 (.tmp 39) g13 0 _ (by kernel_rfl) (by kernel_rfl) (by kernel_rfl) (by kernel_rfl) (by kernel_rfl) (by kernel_rfl) Tryz.underlying105 rfl (by kernel_rfl) (fun w hw => (HK53.out.carry hw.1).whole) ?_
  refine fq 6 (.slice A9 1 c9) (by kernel_rfl) (by kernel_rfl) (by kernel_rfl) (by kernel_rfl) (fun w => (by kernel_rfl)) ?_
  refine fend [6, 7] (by kernel_rfl) (by kernel_rfl) ?_
  intro wf59 hwwf59 hF
  clear hF
  have HK60 := Lib.hid (HK51.out.carry hwwf59)
  clear HK51
  have HK61 := Lib.hid (HK52.out.carry hwwf59)
  clear HK52
  have HK62 := Lib.hid (HK53.out.carry hwwf59)
  clear HK53
  have HK63 := Lib.hid (HK54.out.carry hwwf59)
  clear HK54
  have HF64 := Lib.hid (HF55.out.trans (hwwf59.mono HF55.out.size))
  clear HF55
  have HF65 := Lib.hid (HO.out.carry hwwf59)
  refine tstoreP (by kernel_rfl) (by kernel_rfl) 105 (.tmp 7) (.tmp 40) (by kernel_rfl) g2 0 (by kernel_rfl) (wld (gBeg s) none 0 0) (by kernel_rfl) 105 #[.int .u64 0, .int .i64 0, .int .i64 0, .slice none 0 0, .bool false, .int .i64 0, .int .i64 0, .bool false, .int .i64 0, .int .i64 0, .bool false, .int .i64 0, .int .i64 0, .bool false, .int .i64 0, .int .i64 0, .bool false, .int .i64 0, .slice none 0 0, .slice none 0 0, .int .i64 0] HK61.out (by kernel_rfl) (Nat.le_of_eq (by kernel_rfl)) (all_one (by kernel_rfl)) (wld (gBeg s) none 0 0) (splice_all _ _ (by kernel_rfl)) ?_
  intro wz66 hBwz66 hwwz66
  have HK67 := Lib.hid (HK60.out.wr hwwz66 (Blk.neq HK60.out HK61.out (by decide)))
  clear HK60
  have HK68 := Lib.hid (HK62.out.wr hwwz66 (Blk.neq HK62.out HK61.out (by decide)))
  clear HK62
  have HK69 := Lib.hid (HK63.out.wr hwwz66 (Blk.neq HK63.out HK61.out (by decide)))
  clear HK63
  have HF70 := Lib.hid (hwwz66.trans_below HF64.out hlg2)
  clear HF64
  have HF71 := Lib.hid (HF65.out.wr hwwz66 (own_neq HF65.out HK61.out (by decide)))
  clear HF65
  have HK72 := Lib.hid hBwz66
  clear HK61
  refine tval (some 8) (.int .i64 0) wz66 (by kernel_rfl) (by kernel_rfl) (by kernel_rfl) ?_
  refine tend (hKC58 _ _ (?_))
  clear hKC58
  refine wp_ret ?_
  refine bodyPost_ret (results_tct _ _ g2 _ (wld (gBeg s) none 0 0) _ Tryz.results42 (by kernel_rfl) HK72.out Tryz.underlying105 rfl (by kernel_rfl) (by kernel_rfl) (by kernel_rfl)) rfl ⟨A9, c9, rfl, hc9, hm9, HF71.out, HF70.out⟩
end Go.Proofs.YtbcagdjfegobnaaGreat
