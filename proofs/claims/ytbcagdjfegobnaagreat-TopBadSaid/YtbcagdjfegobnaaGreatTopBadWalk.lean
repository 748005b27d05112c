/- The walk of the law TopBad. -/
import Derived.Test.YtbcagdjfegobnaaGreatTopRun
namespace Go.Proofs.YtbcagdjfegobnaaGreat
open Go.ChangeShapes Go.WideShapes Go.ChangeAt Go.RowKit
set_option linter.unusedVariables false

theorem wrap_rangeT (n : Int) : 0 ≤ IntKind.u64.wrap n ∧ IntKind.u64.wrap n < 18446744073709551616 := by
  rw [IntKind.wrap_u64]; omega
set_option maxRecDepth 100000 in
set_option maxHeartbeats 4000000 in
theorem bad_0 (secret which k : Int) (hwr : 0 ≤ IntKind.u64.wrap secret ∧ IntKind.u64.wrap secret < 18446744073709551616) (v0 : -9223372036854775808 ≤ which) (v1 : which ≤ 9223372036854775807) (k0 : -9223372036854775808 ≤ k) (k1 : k ≤ 9223372036854775807) (j : Nat) (hj : j < 9) (HW : Hid (which % 8 = 0)) (HK : Hid (k % 9 = (j : Nat))) (w : World) :
    Calls Tryz.prog 14 #[.int .i64 secret, .int .i64 which, .int .i64 k] w fun e w' => e = .returned (.bool true) ∧ Below w.heap.size w w' := by
  have HB0 := Lib.hid (Below.refl w.heap.size w)
  have hs11 : IntKind.i64.wrap ((11 : Int) + (j : Nat)) = (11 : Int) + (j : Nat) := by rw [IntKind.wrap_i64]; omega
  go_enter Tryz.func14, Tryz.ntmps14
  refine wp_seq_k ?_
  intro KC1 hKC1
  refine wp_regionW ?_
  refine wval (some 6) (.bool false) w (by kernel_rfl) (by kernel_rfl) (by kernel_rfl) ?_
  refine wnil (hKC1 _ _ (?_))
  clear hKC1
  refine wp_seq_k ?_
  intro KC2 hKC2
  refine wp_regionW ?_
  refine wval (some 16) (.int .i64 which) w (by kernel_rfl) (by kernel_rfl) (by kernel_rfl) ?_
  refine wcall (some 17) 40 #[.int .i64 which, .int .i64 8] (by kernel_rfl) (by kernel_rfl) (by kernel_rfl) ?_
  refine (pickedK_at _ 8 _ v0 v1 (by decide) (by decide) HW _).mono ?_
  rintro e wz3 ⟨rfl, rfl⟩
  refine ⟨_, rfl, ?_⟩
  refine wval (some 7) (.int .i64 0) w (by kernel_rfl) (by kernel_rfl) (by kernel_rfl) ?_
  refine wnil (hKC2 _ _ (?_))
  clear hKC2
  refine wp_seq_k ?_
  intro KC4 hKC4
  refine wp_regionW ?_
  refine wval (some 18) (.agg #[.int .i64 0, .int .i64 0, .int .i64 0, .int .i64 0, .int .u64 0, .slice none 0 0]) w (by kernel_rfl) (by kernel_rfl) (by kernel_rfl) ?_
  refine wval (some 19) (.int .i64 k) w (by kernel_rfl) (by kernel_rfl) (by kernel_rfl) ?_
  refine wcall (some 20) 40 #[.int .i64 k, .int .i64 9] (by kernel_rfl) (by kernel_rfl) (by kernel_rfl) ?_
  refine (pickedK_at _ 9 _ k0 k1 (by decide) (by decide) HK _).mono ?_
  rintro e wz5 ⟨rfl, rfl⟩
  refine ⟨_, rfl, ?_⟩
  refine wvalE (some 21) (.int .i64 (IntKind.i64.wrap (11 + (j : Nat)))) (.int .i64 (11 + (j : Nat))) w (by rw [hs11]) (by kernel_rfl) (by kernel_rfl) (by kernel_rfl) ?_
  refine wval (some 22) (.agg #[.int .i64 (11 + (j : Nat)), .int .i64 0, .int .i64 0, .int .i64 0, .int .u64 0, .slice none 0 0]) w (by kernel_rfl) (by kernel_rfl) (by kernel_rfl) ?_
  refine wval (some 23) (.int .i64 k) w (by kernel_rfl) (by kernel_rfl) (by kernel_rfl) ?_
  refine wcall (some 24) 40 #[.int .i64 k, .int .i64 9] (by kernel_rfl) (by kernel_rfl) (by kernel_rfl) ?_
  refine (pickedK_at _ 9 _ k0 k1 (by decide) (by decide) HK _).mono ?_
  rintro e wz6 ⟨rfl, rfl⟩
  refine ⟨_, rfl, ?_⟩
  refine wval (some 25) (.agg #[.int .i64 2, .int .i64 0, .int .i64 (j : Nat), .int .i64 0, .int .u64 0, .slice none 0 0]) w (by kernel_rfl) (by kernel_rfl) (by kernel_rfl) ?_
  refine wval (some 26) (.int .i64 k) w (by kernel_rfl) (by kernel_rfl) (by kernel_rfl) ?_
  refine wcall (some 27) 40 #[.int .i64 k, .int .i64 9] (by kernel_rfl) (by kernel_rfl) (by kernel_rfl) ?_
  refine (pickedK_at _ 9 _ k0 k1 (by decide) (by decide) HK _).mono ?_
  rintro e wz7 ⟨rfl, rfl⟩
  refine ⟨_, rfl, ?_⟩
  refine wval (some 28) (.agg #[.int .i64 4, .int .i64 0, .int .i64 (j : Nat), .int .i64 0, .int .u64 0, .slice none 0 0]) w (by kernel_rfl) (by kernel_rfl) (by kernel_rfl) ?_
  refine wval (some 29) (.agg #[.int .i64 8, .int .i64 4, .int .i64 0, .int .i64 0, .int .u64 0, .slice none 0 0]) w (by kernel_rfl) (by kernel_rfl) (by kernel_rfl) ?_
  refine wval (some 30) (.agg #[.int .i64 9, .int .i64 0, .int .i64 0, .int .i64 0, .int .u64 0, .slice none 0 0]) w (by kernel_rfl) (by kernel_rfl) (by kernel_rfl) ?_
  refine wval (some 31) (.agg #[.int .i64 1, .int .i64 (-1), .int .i64 0, .int .i64 0, .int .u64 0, .slice none 0 0]) w (by kernel_rfl) (by kernel_rfl) (by kernel_rfl) ?_
  refine wval (some 32) (.agg #[.int .i64 10, .int .i64 0, .int .i64 0, .int .i64 0, .int .u64 0, .slice none 0 0]) w (by kernel_rfl) (by kernel_rfl) (by kernel_rfl) ?_
  refine wnew (some 33) 99 #[.int .i64 0, .int .i64 0, .int .i64 0, .int .i64 0, .int .u64 0, .slice none 0 0, .int .i64 (11 + (j : Nat)), .int .i64 0, .int .i64 0, .int .i64 0, .int .u64 0, .slice none 0 0, .int .i64 2, .int .i64 0, .int .i64 (j : Nat), .int .i64 0, .int .u64 0, .slice none 0 0, .int .i64 4, .int .i64 0, .int .i64 (j : Nat), .int .i64 0, .int .u64 0, .slice none 0 0, .int .i64 8, .int .i64 4, .int .i64 0, .int .i64 0, .int .u64 0, .slice none 0 0, .int .i64 9, .int .i64 0, .int .i64 0, .int .i64 0, .int .u64 0, .slice none 0 0, .int .i64 1, .int .i64 (-1), .int .i64 0, .int .i64 0, .int .u64 0, .slice none 0 0, .int .i64 10, .int .i64 0, .int .i64 0, .int .i64 0, .int .u64 0, .slice none 0 0] (fun q => .slice (some ⟨q, 0, none⟩) 8 8) (by kernel_rfl) (by kernel_rfl) (by kernel_rfl) ?_
  intro wz9 g8 hg8 hBg8 hbg8
  have HF10 := Lib.hid (HB0.out.trans (hbg8.mono HB0.out.size))
  have HKg8 := Lib.hid hBg8
  clear hBg8 hbg8
  refine wval (some 34) (.int .i64 0) wz9 (by kernel_rfl) (by kernel_rfl) (by kernel_rfl) ?_
  refine widx (some 35) 95 (.tmp 33) (.tmp 34) g8 0 8 8 .i64 0 6 0 (by kernel_rfl) (by kernel_rfl) (by kernel_rfl) (by kernel_rfl) (by kernel_rfl) Tryz.underlying95 (by kernel_rfl) (by decide) (by decide) (by decide) ?_
  refine wloadR (some 36) (by kernel_rfl) (by kernel_rfl) 99 (.tmp 35) (by kernel_rfl) g8 0 (by kernel_rfl) #[.int .i64 0, .int .i64 0, .int .i64 0, .int .i64 0, .int .u64 0, .slice none 0 0] _ Tryz.underlying99 rfl (by kernel_rfl) (HKg8.out.part 0 _ (part_ex (by kernel_rfl))) ?_
  refine wnew (some 8) 99 #[.int .i64 0, .int .i64 0, .int .i64 0, .int .i64 0, .int .u64 0, .slice none 0 0] (fun q => .pointer (some ⟨q, 0, none⟩)) (by kernel_rfl) (by kernel_rfl) (by kernel_rfl) ?_
  intro wz12 g11 hg11 hBg11 hbg11
  have hneg8g11 : g8 ≠ g11 := by have := HKg8.out.lt; omega
  have hlg11 : w.heap.size ≤ g11 := by rw [← hg11]; exact HF10.out.size
  have HK13 := Lib.hid (HKg8.out.carry hbg11)
  clear HKg8
  have HF14 := Lib.hid (HF10.out.trans (hbg11.mono HF10.out.size))
  clear HF10
  have HKg11 := Lib.hid hBg11
  clear hBg11 hbg11
  refine wstoreP (by kernel_rfl) (by kernel_rfl) 99 (.tmp 8) (.tmp 36) (by kernel_rfl) g11 0 (by kernel_rfl) #[.int .i64 0, .int .i64 0, .int .i64 0, .int .i64 0, .int .u64 0, .slice none 0 0] (by kernel_rfl) 99 #[.int .i64 0, .int .i64 0, .int .i64 0, .int .i64 0, .int .u64 0, .slice none 0 0] HKg11.out (by kernel_rfl) (Nat.le_of_eq (by kernel_rfl)) (all_one (by kernel_rfl)) #[.int .i64 0, .int .i64 0, .int .i64 0, .int .i64 0, .int .u64 0, .slice none 0 0] (splice_all _ _ (by kernel_rfl)) ?_
  intro wz15 hBwz15 hwwz15
  have HK16 := Lib.hid (HK13.out.wr hwwz15 hneg8g11)
  clear HK13
  have HF17 := Lib.hid (hwwz15.trans_below HF14.out hlg11)
  clear HF14
  have HK18 := Lib.hid hBwz15
  clear HKg11
  refine wnil (hKC4 _ _ (?_))
  clear hKC4
  refine wp_seq_k ?_
  intro KC19 hKC19
  refine wp_regionW ?_
  refine wnew (some 37) 49 #[.int .i64 2, .int .i64 2, .int .i64 5, .int .i64 5, .int .i64 6, .int .i64 6, .int .i64 6, .int .i64 5] (fun q => .slice (some ⟨q, 0, none⟩) 8 8) (by kernel_rfl) (by kernel_rfl) (by kernel_rfl) ?_
  intro wz21 g20 hg20 hBg20 hbg20
  have HK22 := Lib.hid (HK16.out.carry hbg20)
  clear HK16
  have HK23 := Lib.hid (HK18.out.carry hbg20)
  clear HK18
  have HF24 := Lib.hid (HF17.out.trans (hbg20.mono HF17.out.size))
  clear HF17
  have HKg20 := Lib.hid hBg20
  clear hBg20 hbg20
  refine wval (some 38) (.int .i64 0) wz21 (by kernel_rfl) (by kernel_rfl) (by kernel_rfl) ?_
  refine widx (some 39) 101 (.tmp 37) (.tmp 38) g20 0 8 8 .i64 0 1 0 (by kernel_rfl) (by kernel_rfl) (by kernel_rfl) (by kernel_rfl) (by kernel_rfl) Tryz.underlying101 (by kernel_rfl) (by decide) (by decide) (by decide) ?_
  refine wload (some 40) (.int .i64 2) 49 (.tmp 39) g20 0 _ (by kernel_rfl) (by kernel_rfl) (by kernel_rfl) (by kernel_rfl) Tryz.underlying49 rfl (by rw [HKg20.out.cell]; kernel_rfl) ?_
  refine wval (some 9) (.int .i64 2) wz21 (by kernel_rfl) (by kernel_rfl) (by kernel_rfl) ?_
  refine wnil (hKC19 _ _ (?_))
  clear hKC19
  refine wp_seq_k ?_
  intro KC25 hKC25
  refine wp_regionW ?_
  refine wval (some 42) (.int .i64 secret) wz21 (by kernel_rfl) (by kernel_rfl) (by kernel_rfl) ?_
  refine wval (some 43) (.int .u64 (IntKind.u64.wrap secret)) wz21 (by kernel_rfl) (by kernel_rfl) (by kernel_rfl) ?_
  refine wloadR (some 44) (by kernel_rfl) (by kernel_rfl) 99 (.tmp 8) (by kernel_rfl) g11 0 (by kernel_rfl) #[.int .i64 0, .int .i64 0, .int .i64 0, .int .i64 0, .int .u64 0, .slice none 0 0] _ Tryz.underlying99 rfl (by kernel_rfl) HK23.out.whole ?_
  refine wnew (some 45) 99 #[.int .i64 0, .int .i64 0, .int .i64 0, .int .i64 0, .int .u64 0, .slice none 0 0] (fun q => .slice (some ⟨q, 0, none⟩) 1 1) (by kernel_rfl) (by kernel_rfl) (by kernel_rfl) ?_
  intro wz27 g26 hg26 hBg26 hbg26
  have hneg8g26 : g8 ≠ g26 := by have := HK22.out.lt; omega
  have hneg11g26 : g11 ≠ g26 := by have := HK23.out.lt; omega
  have HK28 := Lib.hid (HK22.out.carry hbg26)
  clear HK22
  have HK29 := Lib.hid (HK23.out.carry hbg26)
  clear HK23
  have HK30 := Lib.hid (HKg20.out.carry hbg26)
  clear HKg20
  have HF31 := Lib.hid (HF24.out.trans (hbg26.mono HF24.out.size))
  clear HF24
  have HKg26 := Lib.hid hBg26
  clear hBg26 hbg26
  refine wcall (some 46) 42 #[.int .u64 (IntKind.u64.wrap secret), .bool false, .slice (some ⟨g26, 0, none⟩) 1 1] (by kernel_rfl) (by kernel_rfl) (by kernel_rfl) ?_
  refine (run_one (IntKind.u64.wrap secret) hwr.1 hwr.2 0 0 0 0 2 g26 _ HKg26.out (fun _ _ _ hG hP => act_zero _ _ _ hP)).mono ?_
  rintro e wz32 ⟨A9, c9, rfl, h1c, hcm, hO9, hbc⟩
  refine ⟨_, rfl, ?_⟩
  have HK33 := Lib.hid (HK28.out.carry hbc)
  clear HK28
  have HK34 := Lib.hid (HK29.out.carry hbc)
  clear HK29
  have HK35 := Lib.hid (HK30.out.carry hbc)
  clear HK30
  have HK36 := Lib.hid (HKg26.out.carry hbc)
  clear HKg26
  have HF37 := Lib.hid (HF31.out.trans (hbc.mono HF31.out.size))
  clear HF31
  clear hbc
  have HO := Lib.hid hO9
  clear hO9
  refine wval (some 41) (.tuple #[.slice A9 1 c9, .agg (wld (gBeg (IntKind.u64.wrap secret)) none 0 0), .int .i64 0]) wz32 (by kernel_rfl) (by kernel_rfl) (by kernel_rfl) ?_
  refine wval (some 47) (.slice A9 1 c9) wz32 (by kernel_rfl) (by kernel_rfl) (by kernel_rfl) ?_
  refine wval (some 48) (.agg (wld (gBeg (IntKind.u64.wrap secret)) none 0 0)) wz32 (by kernel_rfl) (by kernel_rfl) (by kernel_rfl) ?_
  refine wval (some 49) (.int .i64 0) wz32 (by kernel_rfl) (by kernel_rfl) (by kernel_rfl) ?_
  refine wnew (some 11) 105 #[.int .u64 0, .int .i64 0, .int .i64 0, .slice none 0 0, .bool false, .int .i64 0, .int .i64 0, .bool false, .int .i64 0, .int .i64 0, .bool false, .int .i64 0, .int .i64 0, .bool false, .int .i64 0, .int .i64 0, .bool false, .int .i64 0, .slice none 0 0, .slice none 0 0, .int .i64 0] (fun q => .pointer (some ⟨q, 0, none⟩)) (by kernel_rfl) (by kernel_rfl) (by kernel_rfl) ?_
  intro wz39 g38 hg38 hBg38 hbg38
  have hlg38 : w.heap.size ≤ g38 := by rw [← hg38]; exact HF37.out.size
  have HK40 := Lib.hid (HK33.out.carry hbg38)
  clear HK33
  have HK41 := Lib.hid (HK34.out.carry hbg38)
  clear HK34
  have HK42 := Lib.hid (HK35.out.carry hbg38)
  clear HK35
  have HK43 := Lib.hid (HK36.out.carry hbg38)
  clear HK36
  have HF44 := Lib.hid (HF37.out.trans (hbg38.mono HF37.out.size))
  clear HF37
  have HF45 := Lib.hid (HO.out.carry hbg38)
  have HKg38 := Lib.hid hBg38
  clear hBg38 hbg38
  refine wval (some 10) (.slice A9 1 c9) wz39 (by kernel_rfl) (by kernel_rfl) (by kernel_rfl) ?_
  refine wstoreP (by kernel_rfl) (by kernel_rfl) 105 (.tmp 11) (.tmp 48) (by kernel_rfl) g38 0 (by kernel_rfl) (wld (gBeg (IntKind.u64.wrap secret)) none 0 0) (by kernel_rfl) 105 #[.int .u64 0, .int .i64 0, .int .i64 0, .slice none 0 0, .bool false, .int .i64 0, .int .i64 0, .bool false, .int .i64 0, .int .i64 0, .bool false, .int .i64 0, .int .i64 0, .bool false, .int .i64 0, .int .i64 0, .bool false, .int .i64 0, .slice none 0 0, .slice none 0 0, .int .i64 0] HKg38.out (by kernel_rfl) (Nat.le_of_eq (by kernel_rfl)) (all_one (by kernel_rfl)) (wld (gBeg (IntKind.u64.wrap secret)) none 0 0) (splice_all _ _ (by kernel_rfl)) ?_
  intro wz46 hBwz46 hwwz46
  have HK47 := Lib.hid (HK40.out.wr hwwz46 (Blk.neq HK40.out HKg38.out (by decide)))
  clear HK40
  have HK48 := Lib.hid (HK41.out.wr hwwz46 (Blk.neq HK41.out HKg38.out (by decide)))
  clear HK41
  have HK49 := Lib.hid (HK42.out.wr hwwz46 (Blk.neq HK42.out HKg38.out (by decide)))
  clear HK42
  have HK50 := Lib.hid (HK43.out.wr hwwz46 (Blk.neq HK43.out HKg38.out (by decide)))
  clear HK43
  have HF51 := Lib.hid (hwwz46.trans_below HF44.out hlg38)
  clear HF44
  have HF52 := Lib.hid (HF45.out.wr hwwz46 (own_neq HF45.out HKg38.out (by decide)))
  clear HF45
  have HK53 := Lib.hid hBwz46
  clear HKg38
  refine wval (some 12) (.int .i64 0) wz46 (by kernel_rfl) (by kernel_rfl) (by kernel_rfl) ?_
  refine wnil (hKC25 _ _ (?_))
  clear hKC25
  refine wp_seq_k ?_
  intro KC54 hKC54
  refine wp_regionW ?_
  refine wval (some 51) (.int .i64 secret) wz46 (by kernel_rfl) (by kernel_rfl) (by kernel_rfl) ?_
  refine wval (some 52) (.int .u64 (IntKind.u64.wrap secret)) wz46 (by kernel_rfl) (by kernel_rfl) (by kernel_rfl) ?_
  refine wnew (some 53) 99 ((Array.range 726).map (fun i => (#[.int .i64 0, .int .i64 0, .int .i64 0, .int .i64 0, .int .u64 0, .slice none 0 0] : Array Value)[i % 6]!)) (fun q => .slice (some ⟨q, 0, none⟩) 121 121) (by kernel_rfl) (by kernel_rfl) (by kernel_rfl) ?_
  intro wz56 g55 hg55 hBg55 hbg55
  have HK57 := Lib.hid (HK47.out.carry hbg55)
  clear HK47
  have HK58 := Lib.hid (HK48.out.carry hbg55)
  clear HK48
  have HK59 := Lib.hid (HK49.out.carry hbg55)
  clear HK49
  have HK60 := Lib.hid (HK50.out.carry hbg55)
  clear HK50
  have HK61 := Lib.hid (HK53.out.carry hbg55)
  clear HK53
  have HF62 := Lib.hid (HF51.out.trans (hbg55.mono HF51.out.size))
  clear HF51
  have HF63 := Lib.hid (HF52.out.carry hbg55)
  clear HF52
  clear hBg55 hbg55
  refine wcall (some 54) 42 #[.int .u64 (IntKind.u64.wrap secret), .bool false, .slice (some ⟨g55, 0, none⟩) 121 121] (by kernel_rfl) (by kernel_rfl) (by kernel_rfl) ?_
  refine (run_long (IntKind.u64.wrap secret) _ _ _).mono ?_
  rintro e wz64 ⟨rfl, hbc⟩
  refine ⟨_, rfl, ?_⟩
  have HK65 := Lib.hid (HK57.out.carry hbc)
  clear HK57
  have HK66 := Lib.hid (HK58.out.carry hbc)
  clear HK58
  have HK67 := Lib.hid (HK59.out.carry hbc)
  clear HK59
  have HK68 := Lib.hid (HK60.out.carry hbc)
  clear HK60
  have HK69 := Lib.hid (HK61.out.carry hbc)
  clear HK61
  have HF70 := Lib.hid (HF62.out.trans (hbc.mono HF62.out.size))
  clear HF62
  have HF71 := Lib.hid (HF63.out.carry hbc)
  clear HF63
  clear hbc
  refine wval (some 50) (.tuple #[.slice none 0 0, .agg #[.int .u64 0, .int .i64 0, .int .i64 0, .slice none 0 0, .bool false, .int .i64 0, .int .i64 0, .bool false, .int .i64 0, .int .i64 0, .bool false, .int .i64 0, .int .i64 0, .bool false, .int .i64 0, .int .i64 0, .bool false, .int .i64 0, .slice none 0 0, .slice none 0 0, .int .i64 0], .int .i64 1]) wz64 (by kernel_rfl) (by kernel_rfl) (by kernel_rfl) ?_
  refine wval (some 55) (.slice none 0 0) wz64 (by kernel_rfl) (by kernel_rfl) (by kernel_rfl) ?_
  refine wval (some 56) (.agg #[.int .u64 0, .int .i64 0, .int .i64 0, .slice none 0 0, .bool false, .int .i64 0, .int .i64 0, .bool false, .int .i64 0, .int .i64 0, .bool false, .int .i64 0, .int .i64 0, .bool false, .int .i64 0, .int .i64 0, .bool false, .int .i64 0, .slice none 0 0, .slice none 0 0, .int .i64 0]) wz64 (by kernel_rfl) (by kernel_rfl) (by kernel_rfl) ?_
  refine wval (some 57) (.int .i64 1) wz64 (by kernel_rfl) (by kernel_rfl) (by kernel_rfl) ?_
  refine wnew (some 14) 105 #[.int .u64 0, .int .i64 0, .int .i64 0, .slice none 0 0, .bool false, .int .i64 0, .int .i64 0, .bool false, .int .i64 0, .int .i64 0, .bool false, .int .i64 0, .int .i64 0, .bool false, .int .i64 0, .int .i64 0, .bool false, .int .i64 0, .slice none 0 0, .slice none 0 0, .int .i64 0] (fun q => .pointer (some ⟨q, 0, none⟩)) (by kernel_rfl) (by kernel_rfl) (by kernel_rfl) ?_
  intro wz73 g72 hg72 hBg72 hbg72
  have hneg38g72 : g38 ≠ g72 := by have := HK69.out.lt; omega
  have hlg72 : w.heap.size ≤ g72 := by rw [← hg72]; exact HF70.out.size
  have HK74 := Lib.hid (HK65.out.carry hbg72)
  clear HK65
  have HK75 := Lib.hid (HK66.out.carry hbg72)
  clear HK66
  have HK76 := Lib.hid (HK67.out.carry hbg72)
  clear HK67
  have HK77 := Lib.hid (HK68.out.carry hbg72)
  clear HK68
  have HK78 := Lib.hid (HK69.out.carry hbg72)
  clear HK69
  have HF79 := Lib.hid (HF70.out.trans (hbg72.mono HF70.out.size))
  clear HF70
  have HF80 := Lib.hid (HF71.out.carry hbg72)
  clear HF71
  have HKg72 := Lib.hid hBg72
  clear hBg72 hbg72
  refine wval (some 13) (.slice none 0 0) wz73 (by kernel_rfl) (by kernel_rfl) (by kernel_rfl) ?_
  refine wstoreP (by kernel_rfl) (by kernel_rfl) 105 (.tmp 14) (.tmp 56) (by kernel_rfl) g72 0 (by kernel_rfl) #[.int .u64 0, .int .i64 0, .int .i64 0, .slice none 0 0, .bool false, .int .i64 0, .int .i64 0, .bool false, .int .i64 0, .int .i64 0, .bool false, .int .i64 0, .int .i64 0, .bool false, .int .i64 0, .int .i64 0, .bool false, .int .i64 0, .slice none 0 0, .slice none 0 0, .int .i64 0] (by kernel_rfl) 105 #[.int .u64 0, .int .i64 0, .int .i64 0, .slice none 0 0, .bool false, .int .i64 0, .int .i64 0, .bool false, .int .i64 0, .int .i64 0, .bool false, .int .i64 0, .int .i64 0, .bool false, .int .i64 0, .int .i64 0, .bool false, .int .i64 0, .slice none 0 0, .slice none 0 0, .int .i64 0] HKg72.out (by kernel_rfl) (Nat.le_of_eq (by kernel_rfl)) (all_one (by kernel_rfl)) #[.int .u64 0, .int .i64 0, .int .i64 0, .slice none 0 0, .bool false, .int .i64 0, .int .i64 0, .bool false, .int .i64 0, .int .i64 0, .bool false, .int .i64 0, .int .i64 0, .bool false, .int .i64 0, .int .i64 0, .bool false, .int .i64 0, .slice none 0 0, .slice none 0 0, .int .i64 0] (splice_all _ _ (by kernel_rfl)) ?_
  intro wz81 hBwz81 hwwz81
  have HK82 := Lib.hid (HK74.out.wr hwwz81 (Blk.neq HK74.out HKg72.out (by decide)))
  clear HK74
  have HK83 := Lib.hid (HK75.out.wr hwwz81 (Blk.neq HK75.out HKg72.out (by decide)))
  clear HK75
  have HK84 := Lib.hid (HK76.out.wr hwwz81 (Blk.neq HK76.out HKg72.out (by decide)))
  clear HK76
  have HK85 := Lib.hid (HK77.out.wr hwwz81 (Blk.neq HK77.out HKg72.out (by decide)))
  clear HK77
  have HK86 := Lib.hid (HK78.out.wr hwwz81 hneg38g72)
  clear HK78
  have HF87 := Lib.hid (hwwz81.trans_below HF79.out hlg72)
  clear HF79
  have HF88 := Lib.hid (HF80.out.wr hwwz81 (own_neq HF80.out HKg72.out (by decide)))
  clear HF80
  have HK89 := Lib.hid hBwz81
  clear HKg72
  refine wval (some 15) (.int .i64 1) wz81 (by kernel_rfl) (by kernel_rfl) (by kernel_rfl) ?_
  refine wnil (hKC54 _ _ (?_))
  clear hKC54
  refine wp_seq_k ?_
  intro KC90 hKC90
  obtain ⟨bO, oO, rfl, hcO⟩ := HF88.out.rd.int (by decide)
  have hcO := hcO 0 (by decide)
  refine wp_regionW ?_
  refine wval (some 58) (.int .i64 0) wz81 (by kernel_rfl) (by kernel_rfl) (by kernel_rfl) ?_
  refine wval (some 59) (.bool true) wz81 (by kernel_rfl) (by kernel_rfl) (by kernel_rfl) ?_
  refine wval (some 60) (.bool true) wz81 (by kernel_rfl) (by kernel_rfl) (by kernel_rfl) ?_
  refine wval (some 61) (.slice (some ⟨bO, oO, none⟩) 1 c9) wz81 (by kernel_rfl) (by kernel_rfl) (by kernel_rfl) ?_
  refine wval (some 62) (.int .i64 1) wz81 (by kernel_rfl) (by kernel_rfl) (by kernel_rfl) ?_
  refine wval (some 63) (.bool true) wz81 (by kernel_rfl) (by kernel_rfl) (by kernel_rfl) ?_
  refine wval (some 64) (.bool true) wz81 (by kernel_rfl) (by kernel_rfl) (by kernel_rfl) ?_
  refine wval (some 65) (.bool true) wz81 (by kernel_rfl) (by kernel_rfl) (by kernel_rfl) ?_
  refine wval (some 66) (.slice (some ⟨bO, oO, none⟩) 1 c9) wz81 (by kernel_rfl) (by kernel_rfl) (by kernel_rfl) ?_
  refine widxG (some 67) 101 (.tmp 66) (.const (.int .i64 0)) bO oO 1 c9 .i64 0 1 oO (by kernel_rfl) (by kernel_rfl) (by kernel_rfl) (by kernel_rfl) (by kernel_rfl) Tryz.underlying101 (by kernel_rfl) (by decide) (by decide) (by simp) ?_
  refine wload (some 68) (.int .i64 2) 49 (.tmp 67) bO (oO) _ (by kernel_rfl) (by kernel_rfl) (by kernel_rfl) (by kernel_rfl) Tryz.underlying49 rfl hcO ?_
  refine wval (some 69) (.int .i64 2) wz81 (by kernel_rfl) (by kernel_rfl) (by kernel_rfl) ?_
  refine wval (some 70) (.bool true) wz81 (by kernel_rfl) (by kernel_rfl) (by kernel_rfl) ?_
  refine wval (some 71) (.bool true) wz81 (by kernel_rfl) (by kernel_rfl) (by kernel_rfl) ?_
  refine wval (some 72) (.bool true) wz81 (by kernel_rfl) (by kernel_rfl) (by kernel_rfl) ?_
  refine wval (some 73) (.int .i64 1) wz81 (by kernel_rfl) (by kernel_rfl) (by kernel_rfl) ?_
  refine wval (some 74) (.bool true) wz81 (by kernel_rfl) (by kernel_rfl) (by kernel_rfl) ?_
  refine wval (some 75) (.bool true) wz81 (by kernel_rfl) (by kernel_rfl) (by kernel_rfl) ?_
  refine wval (some 6) (.bool true) wz81 (by kernel_rfl) (by kernel_rfl) (by kernel_rfl) ?_
  refine wnil (hKC90 _ _ (?_))
  clear hKC90
  refine wp_ret ?_
  refine bodyPost_ret (v := .bool true) (by kernel_rfl) rfl ⟨rfl, HF87.out⟩
set_option maxRecDepth 100000 in
set_option maxHeartbeats 4000000 in
theorem bad_1 (secret which k : Int) (hwr : 0 ≤ IntKind.u64.wrap secret ∧ IntKind.u64.wrap secret < 18446744073709551616) (v0 : -9223372036854775808 ≤ which) (v1 : which ≤ 9223372036854775807) (k0 : -9223372036854775808 ≤ k) (k1 : k ≤ 9223372036854775807) (j : Nat) (hj : j < 9) (HW : Hid (which % 8 = 1)) (HK : Hid (k % 9 = (j : Nat))) (w : World) :
    Calls Tryz.prog 14 #[.int .i64 secret, .int .i64 which, .int .i64 k] w fun e w' => e = .returned (.bool true) ∧ Below w.heap.size w w' := by
  have HB0 := Lib.hid (Below.refl w.heap.size w)
  have hs11 : IntKind.i64.wrap ((11 : Int) + (j : Nat)) = (11 : Int) + (j : Nat) := by rw [IntKind.wrap_i64]; omega
  go_enter Tryz.func14, Tryz.ntmps14
  refine wp_seq_k ?_
  intro KC1 hKC1
  refine wp_regionW ?_
  refine wval (some 6) (.bool false) w (by kernel_rfl) (by kernel_rfl) (by kernel_rfl) ?_
  refine wnil (hKC1 _ _ (?_))
  clear hKC1
  refine wp_seq_k ?_
  intro KC2 hKC2
  refine wp_regionW ?_
  refine wval (some 16) (.int .i64 which) w (by kernel_rfl) (by kernel_rfl) (by kernel_rfl) ?_
  refine wcall (some 17) 40 #[.int .i64 which, .int .i64 8] (by kernel_rfl) (by kernel_rfl) (by kernel_rfl) ?_
  refine (pickedK_at _ 8 _ v0 v1 (by decide) (by decide) HW _).mono ?_
  rintro e wz3 ⟨rfl, rfl⟩
  refine ⟨_, rfl, ?_⟩
  refine wval (some 7) (.int .i64 1) w (by kernel_rfl) (by kernel_rfl) (by kernel_rfl) ?_
  refine wnil (hKC2 _ _ (?_))
  clear hKC2
  refine wp_seq_k ?_
  intro KC4 hKC4
  refine wp_regionW ?_
  refine wval (some 18) (.agg #[.int .i64 0, .int .i64 0, .int .i64 0, .int .i64 0, .int .u64 0, .slice none 0 0]) w (by kernel_rfl) (by kernel_rfl) (by kernel_rfl) ?_
  refine wval (some 19) (.int .i64 k) w (by kernel_rfl) (by kernel_rfl) (by kernel_rfl) ?_
  refine wcall (some 20) 40 #[.int .i64 k, .int .i64 9] (by kernel_rfl) (by kernel_rfl) (by kernel_rfl) ?_
  refine (pickedK_at _ 9 _ k0 k1 (by decide) (by decide) HK _).mono ?_
  rintro e wz5 ⟨rfl, rfl⟩
  refine ⟨_, rfl, ?_⟩
  refine wvalE (some 21) (.int .i64 (IntKind.i64.wrap (11 + (j : Nat)))) (.int .i64 (11 + (j : Nat))) w (by rw [hs11]) (by kernel_rfl) (by kernel_rfl) (by kernel_rfl) ?_
  refine wval (some 22) (.agg #[.int .i64 (11 + (j : Nat)), .int .i64 0, .int .i64 0, .int .i64 0, .int .u64 0, .slice none 0 0]) w (by kernel_rfl) (by kernel_rfl) (by kernel_rfl) ?_
  refine wval (some 23) (.int .i64 k) w (by kernel_rfl) (by kernel_rfl) (by kernel_rfl) ?_
  refine wcall (some 24) 40 #[.int .i64 k, .int .i64 9] (by kernel_rfl) (by kernel_rfl) (by kernel_rfl) ?_
  refine (pickedK_at _ 9 _ k0 k1 (by decide) (by decide) HK _).mono ?_
  rintro e wz6 ⟨rfl, rfl⟩
  refine ⟨_, rfl, ?_⟩
  refine wval (some 25) (.agg #[.int .i64 2, .int .i64 0, .int .i64 (j : Nat), .int .i64 0, .int .u64 0, .slice none 0 0]) w (by kernel_rfl) (by kernel_rfl) (by kernel_rfl) ?_
  refine wval (some 26) (.int .i64 k) w (by kernel_rfl) (by kernel_rfl) (by kernel_rfl) ?_
  refine wcall (some 27) 40 #[.int .i64 k, .int .i64 9] (by kernel_rfl) (by kernel_rfl) (by kernel_rfl) ?_
  refine (pickedK_at _ 9 _ k0 k1 (by decide) (by decide) HK _).mono ?_
  rintro e wz7 ⟨rfl, rfl⟩
  refine ⟨_, rfl, ?_⟩
  refine wval (some 28) (.agg #[.int .i64 4, .int .i64 0, .int .i64 (j : Nat), .int .i64 0, .int .u64 0, .slice none 0 0]) w (by kernel_rfl) (by kernel_rfl) (by kernel_rfl) ?_
  refine wval (some 29) (.agg #[.int .i64 8, .int .i64 4, .int .i64 0, .int .i64 0, .int .u64 0, .slice none 0 0]) w (by kernel_rfl) (by kernel_rfl) (by kernel_rfl) ?_
  refine wval (some 30) (.agg #[.int .i64 9, .int .i64 0, .int .i64 0, .int .i64 0, .int .u64 0, .slice none 0 0]) w (by kernel_rfl) (by kernel_rfl) (by kernel_rfl) ?_
  refine wval (some 31) (.agg #[.int .i64 1, .int .i64 (-1), .int .i64 0, .int .i64 0, .int .u64 0, .slice none 0 0]) w (by kernel_rfl) (by kernel_rfl) (by kernel_rfl) ?_
  refine wval (some 32) (.agg #[.int .i64 10, .int .i64 0, .int .i64 0, .int .i64 0, .int .u64 0, .slice none 0 0]) w (by kernel_rfl) (by kernel_rfl) (by kernel_rfl) ?_
  refine wnew (some 33) 99 #[.int .i64 0, .int .i64 0, .int .i64 0, .int .i64 0, .int .u64 0, .slice none 0 0, .int .i64 (11 + (j : Nat)), .int .i64 0, .int .i64 0, .int .i64 0, .int .u64 0, .slice none 0 0, .int .i64 2, .int .i64 0, .int .i64 (j : Nat), .int .i64 0, .int .u64 0, .slice none 0 0, .int .i64 4, .int .i64 0, .int .i64 (j : Nat), .int .i64 0, .int .u64 0, .slice none 0 0, .int .i64 8, .int .i64 4, .int .i64 0, .int .i64 0, .int .u64 0, .slice none 0 0, .int .i64 9, .int .i64 0, .int .i64 0, .int .i64 0, .int .u64 0, .slice none 0 0, .int .i64 1, .int .i64 (-1), .int .i64 0, .int .i64 0, .int .u64 0, .slice none 0 0, .int .i64 10, .int .i64 0, .int .i64 0, .int .i64 0, .int .u64 0, .slice none 0 0] (fun q => .slice (some ⟨q, 0, none⟩) 8 8) (by kernel_rfl) (by kernel_rfl) (by kernel_rfl) ?_
  intro wz9 g8 hg8 hBg8 hbg8
  have HF10 := Lib.hid (HB0.out.trans (hbg8.mono HB0.out.size))
  have HKg8 := Lib.hid hBg8
  clear hBg8 hbg8
  refine wval (some 34) (.int .i64 1) wz9 (by kernel_rfl) (by kernel_rfl) (by kernel_rfl) ?_
  refine widx (some 35) 95 (.tmp 33) (.tmp 34) g8 0 8 8 .i64 1 6 6 (by kernel_rfl) (by kernel_rfl) (by kernel_rfl) (by kernel_rfl) (by kernel_rfl) Tryz.underlying95 (by kernel_rfl) (by decide) (by decide) (by decide) ?_
  refine wloadR (some 36) (by kernel_rfl) (by kernel_rfl) 99 (.tmp 35) (by kernel_rfl) g8 6 (by kernel_rfl) #[.int .i64 (11 + (j : Nat)), .int .i64 0, .int .i64 0, .int .i64 0, .int .u64 0, .slice none 0 0] _ Tryz.underlying99 rfl (by kernel_rfl) (HKg8.out.part 6 _ (part_ex (by kernel_rfl))) ?_
  refine wnew (some 8) 99 #[.int .i64 0, .int .i64 0, .int .i64 0, .int .i64 0, .int .u64 0, .slice none 0 0] (fun q => .pointer (some ⟨q, 0, none⟩)) (by kernel_rfl) (by kernel_rfl) (by kernel_rfl) ?_
  intro wz12 g11 hg11 hBg11 hbg11
  have hneg8g11 : g8 ≠ g11 := by have := HKg8.out.lt; omega
  have hlg11 : w.heap.size ≤ g11 := by rw [← hg11]; exact HF10.out.size
  have HK13 := Lib.hid (HKg8.out.carry hbg11)
  clear HKg8
  have HF14 := Lib.hid (HF10.out.trans (hbg11.mono HF10.out.size))
  clear HF10
  have HKg11 := Lib.hid hBg11
  clear hBg11 hbg11
  refine wstoreP (by kernel_rfl) (by kernel_rfl) 99 (.tmp 8) (.tmp 36) (by kernel_rfl) g11 0 (by kernel_rfl) #[.int .i64 (11 + (j : Nat)), .int .i64 0, .int .i64 0, .int .i64 0, .int .u64 0, .slice none 0 0] (by kernel_rfl) 99 #[.int .i64 0, .int .i64 0, .int .i64 0, .int .i64 0, .int .u64 0, .slice none 0 0] HKg11.out (by kernel_rfl) (Nat.le_of_eq (by kernel_rfl)) (all_one (by kernel_rfl)) #[.int .i64 (11 + (j : Nat)), .int .i64 0, .int .i64 0, .int .i64 0, .int .u64 0, .slice none 0 0] (splice_all _ _ (by kernel_rfl)) ?_
  intro wz15 hBwz15 hwwz15
  have HK16 := Lib.hid (HK13.out.wr hwwz15 hneg8g11)
  clear HK13
  have HF17 := Lib.hid (hwwz15.trans_below HF14.out hlg11)
  clear HF14
  have HK18 := Lib.hid hBwz15
  clear HKg11
  refine wnil (hKC4 _ _ (?_))
  clear hKC4
  refine wp_seq_k ?_
  intro KC19 hKC19
  refine wp_regionW ?_
  refine wnew (some 37) 49 #[.int .i64 2, .int .i64 2, .int .i64 5, .int .i64 5, .int .i64 6, .int .i64 6, .int .i64 6, .int .i64 5] (fun q => .slice (some ⟨q, 0, none⟩) 8 8) (by kernel_rfl) (by kernel_rfl) (by kernel_rfl) ?_
  intro wz21 g20 hg20 hBg20 hbg20
  have HK22 := Lib.hid (HK16.out.carry hbg20)
  clear HK16
  have HK23 := Lib.hid (HK18.out.carry hbg20)
  clear HK18
  have HF24 := Lib.hid (HF17.out.trans (hbg20.mono HF17.out.size))
  clear HF17
  have HKg20 := Lib.hid hBg20
  clear hBg20 hbg20
  refine wval (some 38) (.int .i64 1) wz21 (by kernel_rfl) (by kernel_rfl) (by kernel_rfl) ?_
  refine widx (some 39) 101 (.tmp 37) (.tmp 38) g20 0 8 8 .i64 1 1 1 (by kernel_rfl) (by kernel_rfl) (by kernel_rfl) (by kernel_rfl) (by kernel_rfl) Tryz.underlying101 (by kernel_rfl) (by decide) (by decide) (by decide) ?_
  refine wload (some 40) (.int .i64 2) 49 (.tmp 39) g20 1 _ (by kernel_rfl) (by kernel_rfl) (by kernel_rfl) (by kernel_rfl) Tryz.underlying49 rfl (by rw [HKg20.out.cell]; kernel_rfl) ?_
  refine wval (some 9) (.int .i64 2) wz21 (by kernel_rfl) (by kernel_rfl) (by kernel_rfl) ?_
  refine wnil (hKC19 _ _ (?_))
  clear hKC19
  refine wp_seq_k ?_
  intro KC25 hKC25
  refine wp_regionW ?_
  refine wval (some 42) (.int .i64 secret) wz21 (by kernel_rfl) (by kernel_rfl) (by kernel_rfl) ?_
  refine wval (some 43) (.int .u64 (IntKind.u64.wrap secret)) wz21 (by kernel_rfl) (by kernel_rfl) (by kernel_rfl) ?_
  refine wloadR (some 44) (by kernel_rfl) (by kernel_rfl) 99 (.tmp 8) (by kernel_rfl) g11 0 (by kernel_rfl) #[.int .i64 (11 + (j : Nat)), .int .i64 0, .int .i64 0, .int .i64 0, .int .u64 0, .slice none 0 0] _ Tryz.underlying99 rfl (by kernel_rfl) HK23.out.whole ?_
  refine wnew (some 45) 99 #[.int .i64 (11 + (j : Nat)), .int .i64 0, .int .i64 0, .int .i64 0, .int .u64 0, .slice none 0 0] (fun q => .slice (some ⟨q, 0, none⟩) 1 1) (by kernel_rfl) (by kernel_rfl) (by kernel_rfl) ?_
  intro wz27 g26 hg26 hBg26 hbg26
  have hneg8g26 : g8 ≠ g26 := by have := HK22.out.lt; omega
  have hneg11g26 : g11 ≠ g26 := by have := HK23.out.lt; omega
  have HK28 := Lib.hid (HK22.out.carry hbg26)
  clear HK22
  have HK29 := Lib.hid (HK23.out.carry hbg26)
  clear HK23
  have HK30 := Lib.hid (HKg20.out.carry hbg26)
  clear HKg20
  have HF31 := Lib.hid (HF24.out.trans (hbg26.mono HF24.out.size))
  clear HF24
  have HKg26 := Lib.hid hBg26
  clear hBg26 hbg26
  refine wcall (some 46) 42 #[.int .u64 (IntKind.u64.wrap secret), .bool false, .slice (some ⟨g26, 0, none⟩) 1 1] (by kernel_rfl) (by kernel_rfl) (by kernel_rfl) ?_
  refine (run_one (IntKind.u64.wrap secret) hwr.1 hwr.2 (11 + (j : Nat)) 0 0 0 2 g26 _ HKg26.out (fun _ _ _ hG hP => act_high _ (11 + (j : Nat)) (by omega) _ _ hP)).mono ?_
  rintro e wz32 ⟨A9, c9, rfl, h1c, hcm, hO9, hbc⟩
  refine ⟨_, rfl, ?_⟩
  have HK33 := Lib.hid (HK28.out.carry hbc)
  clear HK28
  have HK34 := Lib.hid (HK29.out.carry hbc)
  clear HK29
  have HK35 := Lib.hid (HK30.out.carry hbc)
  clear HK30
  have HK36 := Lib.hid (HKg26.out.carry hbc)
  clear HKg26
  have HF37 := Lib.hid (HF31.out.trans (hbc.mono HF31.out.size))
  clear HF31
  clear hbc
  have HO := Lib.hid hO9
  clear hO9
  refine wval (some 41) (.tuple #[.slice A9 1 c9, .agg (wld (gBeg (IntKind.u64.wrap secret)) none 0 0), .int .i64 0]) wz32 (by kernel_rfl) (by kernel_rfl) (by kernel_rfl) ?_
  refine wval (some 47) (.slice A9 1 c9) wz32 (by kernel_rfl) (by kernel_rfl) (by kernel_rfl) ?_
  refine wval (some 48) (.agg (wld (gBeg (IntKind.u64.wrap secret)) none 0 0)) wz32 (by kernel_rfl) (by kernel_rfl) (by kernel_rfl) ?_
  refine wval (some 49) (.int .i64 0) wz32 (by kernel_rfl) (by kernel_rfl) (by kernel_rfl) ?_
  refine wnew (some 11) 105 #[.int .u64 0, .int .i64 0, .int .i64 0, .slice none 0 0, .bool false, .int .i64 0, .int .i64 0, .bool false, .int .i64 0, .int .i64 0, .bool false, .int .i64 0, .int .i64 0, .bool false, .int .i64 0, .int .i64 0, .bool false, .int .i64 0, .slice none 0 0, .slice none 0 0, .int .i64 0] (fun q => .pointer (some ⟨q, 0, none⟩)) (by kernel_rfl) (by kernel_rfl) (by kernel_rfl) ?_
  intro wz39 g38 hg38 hBg38 hbg38
  have hlg38 : w.heap.size ≤ g38 := by rw [← hg38]; exact HF37.out.size
  have HK40 := Lib.hid (HK33.out.carry hbg38)
  clear HK33
  have HK41 := Lib.hid (HK34.out.carry hbg38)
  clear HK34
  have HK42 := Lib.hid (HK35.out.carry hbg38)
  clear HK35
  have HK43 := Lib.hid (HK36.out.carry hbg38)
  clear HK36
  have HF44 := Lib.hid (HF37.out.trans (hbg38.mono HF37.out.size))
  clear HF37
  have HF45 := Lib.hid (HO.out.carry hbg38)
  have HKg38 := Lib.hid hBg38
  clear hBg38 hbg38
  refine wval (some 10) (.slice A9 1 c9) wz39 (by kernel_rfl) (by kernel_rfl) (by kernel_rfl) ?_
  refine wstoreP (by kernel_rfl) (by kernel_rfl) 105 (.tmp 11) (.tmp 48) (by kernel_rfl) g38 0 (by kernel_rfl) (wld (gBeg (IntKind.u64.wrap secret)) none 0 0) (by kernel_rfl) 105 #[.int .u64 0, .int .i64 0, .int .i64 0, .slice none 0 0, .bool false, .int .i64 0, .int .i64 0, .bool false, .int .i64 0, .int .i64 0, .bool false, .int .i64 0, .int .i64 0, .bool false, .int .i64 0, .int .i64 0, .bool false, .int .i64 0, .slice none 0 0, .slice none 0 0, .int .i64 0] HKg38.out (by kernel_rfl) (Nat.le_of_eq (by kernel_rfl)) (all_one (by kernel_rfl)) (wld (gBeg (IntKind.u64.wrap secret)) none 0 0) (splice_all _ _ (by kernel_rfl)) ?_
  intro wz46 hBwz46 hwwz46
  have HK47 := Lib.hid (HK40.out.wr hwwz46 (Blk.neq HK40.out HKg38.out (by decide)))
  clear HK40
  have HK48 := Lib.hid (HK41.out.wr hwwz46 (Blk.neq HK41.out HKg38.out (by decide)))
  clear HK41
  have HK49 := Lib.hid (HK42.out.wr hwwz46 (Blk.neq HK42.out HKg38.out (by decide)))
  clear HK42
  have HK50 := Lib.hid (HK43.out.wr hwwz46 (Blk.neq HK43.out HKg38.out (by decide)))
  clear HK43
  have HF51 := Lib.hid (hwwz46.trans_below HF44.out hlg38)
  clear HF44
  have HF52 := Lib.hid (HF45.out.wr hwwz46 (own_neq HF45.out HKg38.out (by decide)))
  clear HF45
  have HK53 := Lib.hid hBwz46
  clear HKg38
  refine wval (some 12) (.int .i64 0) wz46 (by kernel_rfl) (by kernel_rfl) (by kernel_rfl) ?_
  refine wnil (hKC25 _ _ (?_))
  clear hKC25
  refine wp_seq_k ?_
  intro KC54 hKC54
  refine wp_regionW ?_
  refine wval (some 51) (.int .i64 secret) wz46 (by kernel_rfl) (by kernel_rfl) (by kernel_rfl) ?_
  refine wval (some 52) (.int .u64 (IntKind.u64.wrap secret)) wz46 (by kernel_rfl) (by kernel_rfl) (by kernel_rfl) ?_
  refine wnew (some 53) 99 ((Array.range 726).map (fun i => (#[.int .i64 0, .int .i64 0, .int .i64 0, .int .i64 0, .int .u64 0, .slice none 0 0] : Array Value)[i % 6]!)) (fun q => .slice (some ⟨q, 0, none⟩) 121 121) (by kernel_rfl) (by kernel_rfl) (by kernel_rfl) ?_
  intro wz56 g55 hg55 hBg55 hbg55
  have HK57 := Lib.hid (HK47.out.carry hbg55)
  clear HK47
  have HK58 := Lib.hid (HK48.out.carry hbg55)
  clear HK48
  have HK59 := Lib.hid (HK49.out.carry hbg55)
  clear HK49
  have HK60 := Lib.hid (HK50.out.carry hbg55)
  clear HK50
  have HK61 := Lib.hid (HK53.out.carry hbg55)
  clear HK53
  have HF62 := Lib.hid (HF51.out.trans (hbg55.mono HF51.out.size))
  clear HF51
  have HF63 := Lib.hid (HF52.out.carry hbg55)
  clear HF52
  clear hBg55 hbg55
  refine wcall (some 54) 42 #[.int .u64 (IntKind.u64.wrap secret), .bool false, .slice (some ⟨g55, 0, none⟩) 121 121] (by kernel_rfl) (by kernel_rfl) (by kernel_rfl) ?_
  refine (run_long (IntKind.u64.wrap secret) _ _ _).mono ?_
  rintro e wz64 ⟨rfl, hbc⟩
  refine ⟨_, rfl, ?_⟩
  have HK65 := Lib.hid (HK57.out.carry hbc)
  clear HK57
  have HK66 := Lib.hid (HK58.out.carry hbc)
  clear HK58
  have HK67 := Lib.hid (HK59.out.carry hbc)
  clear HK59
  have HK68 := Lib.hid (HK60.out.carry hbc)
  clear HK60
  have HK69 := Lib.hid (HK61.out.carry hbc)
  clear HK61
  have HF70 := Lib.hid (HF62.out.trans (hbc.mono HF62.out.size))
  clear HF62
  have HF71 := Lib.hid (HF63.out.carry hbc)
  clear HF63
  clear hbc
  refine wval (some 50) (.tuple #[.slice none 0 0, .agg #[.int .u64 0, .int .i64 0, .int .i64 0, .slice none 0 0, .bool false, .int .i64 0, .int .i64 0, .bool false, .int .i64 0, .int .i64 0, .bool false, .int .i64 0, .int .i64 0, .bool false, .int .i64 0, .int .i64 0, .bool false, .int .i64 0, .slice none 0 0, .slice none 0 0, .int .i64 0], .int .i64 1]) wz64 (by kernel_rfl) (by kernel_rfl) (by kernel_rfl) ?_
  refine wval (some 55) (.slice none 0 0) wz64 (by kernel_rfl) (by kernel_rfl) (by kernel_rfl) ?_
  refine wval (some 56) (.agg #[.int .u64 0, .int .i64 0, .int .i64 0, .slice none 0 0, .bool false, .int .i64 0, .int .i64 0, .bool false, .int .i64 0, .int .i64 0, .bool false, .int .i64 0, .int .i64 0, .bool false, .int .i64 0, .int .i64 0, .bool false, .int .i64 0, .slice none 0 0, .slice none 0 0, .int .i64 0]) wz64 (by kernel_rfl) (by kernel_rfl) (by kernel_rfl) ?_
  refine wval (some 57) (.int .i64 1) wz64 (by kernel_rfl) (by kernel_rfl) (by kernel_rfl) ?_
  refine wnew (some 14) 105 #[.int .u64 0, .int .i64 0, .int .i64 0, .slice none 0 0, .bool false, .int .i64 0, .int .i64 0, .bool false, .int .i64 0, .int .i64 0, .bool false, .int .i64 0, .int .i64 0, .bool false, .int .i64 0, .int .i64 0, .bool false, .int .i64 0, .slice none 0 0, .slice none 0 0, .int .i64 0] (fun q => .pointer (some ⟨q, 0, none⟩)) (by kernel_rfl) (by kernel_rfl) (by kernel_rfl) ?_
  intro wz73 g72 hg72 hBg72 hbg72
  have hneg38g72 : g38 ≠ g72 := by have := HK69.out.lt; omega
  have hlg72 : w.heap.size ≤ g72 := by rw [← hg72]; exact HF70.out.size
  have HK74 := Lib.hid (HK65.out.carry hbg72)
  clear HK65
  have HK75 := Lib.hid (HK66.out.carry hbg72)
  clear HK66
  have HK76 := Lib.hid (HK67.out.carry hbg72)
  clear HK67
  have HK77 := Lib.hid (HK68.out.carry hbg72)
  clear HK68
  have HK78 := Lib.hid (HK69.out.carry hbg72)
  clear HK69
  have HF79 := Lib.hid (HF70.out.trans (hbg72.mono HF70.out.size))
  clear HF70
  have HF80 := Lib.hid (HF71.out.carry hbg72)
  clear HF71
  have HKg72 := Lib.hid hBg72
  clear hBg72 hbg72
  refine wval (some 13) (.slice none 0 0) wz73 (by kernel_rfl) (by kernel_rfl) (by kernel_rfl) ?_
  refine wstoreP (by kernel_rfl) (by kernel_rfl) 105 (.tmp 14) (.tmp 56) (by kernel_rfl) g72 0 (by kernel_rfl) #[.int .u64 0, .int .i64 0, .int .i64 0, .slice none 0 0, .bool false, .int .i64 0, .int .i64 0, .bool false, .int .i64 0, .int .i64 0, .bool false, .int .i64 0, .int .i64 0, .bool false, .int .i64 0, .int .i64 0, .bool false, .int .i64 0, .slice none 0 0, .slice none 0 0, .int .i64 0] (by kernel_rfl) 105 #[.int .u64 0, .int .i64 0, .int .i64 0, .slice none 0 0, .bool false, .int .i64 0, .int .i64 0, .bool false, .int .i64 0, .int .i64 0, .bool false, .int .i64 0, .int .i64 0, .bool false, .int .i64 0, .int .i64 0, .bool false, .int .i64 0, .slice none 0 0, .slice none 0 0, .int .i64 0] HKg72.out (by kernel_rfl) (Nat.le_of_eq (by kernel_rfl)) (all_one (by kernel_rfl)) #[.int .u64 0, .int .i64 0, .int .i64 0, .slice none 0 0, .bool false, .int .i64 0, .int .i64 0, .bool false, .int .i64 0, .int .i64 0, .bool false, .int .i64 0, .int .i64 0, .bool false, .int .i64 0, .int .i64 0, .bool false, .int .i64 0, .slice none 0 0, .slice none 0 0, .int .i64 0] (splice_all _ _ (by kernel_rfl)) ?_
  intro wz81 hBwz81 hwwz81
  have HK82 := Lib.hid (HK74.out.wr hwwz81 (Blk.neq HK74.out HKg72.out (by decide)))
  clear HK74
  have HK83 := Lib.hid (HK75.out.wr hwwz81 (Blk.neq HK75.out HKg72.out (by decide)))
  clear HK75
  have HK84 := Lib.hid (HK76.out.wr hwwz81 (Blk.neq HK76.out HKg72.out (by decide)))
  clear HK76
  have HK85 := Lib.hid (HK77.out.wr hwwz81 (Blk.neq HK77.out HKg72.out (by decide)))
  clear HK77
  have HK86 := Lib.hid (HK78.out.wr hwwz81 hneg38g72)
  clear HK78
  have HF87 := Lib.hid (hwwz81.trans_below HF79.out hlg72)
  clear HF79
  have HF88 := Lib.hid (HF80.out.wr hwwz81 (own_neq HF80.out HKg72.out (by decide)))
  clear HF80
  have HK89 := Lib.hid hBwz81
  clear HKg72
  refine wval (some 15) (.int .i64 1) wz81 (by kernel_rfl) (by kernel_rfl) (by kernel_rfl) ?_
  refine wnil (hKC54 _ _ (?_))
  clear hKC54
  refine wp_seq_k ?_
  intro KC90 hKC90
  obtain ⟨bO, oO, rfl, hcO⟩ := HF88.out.rd.int (by decide)
  have hcO := hcO 0 (by decide)
  refine wp_regionW ?_
  refine wval (some 58) (.int .i64 0) wz81 (by kernel_rfl) (by kernel_rfl) (by kernel_rfl) ?_
  refine wval (some 59) (.bool true) wz81 (by kernel_rfl) (by kernel_rfl) (by kernel_rfl) ?_
  refine wval (some 60) (.bool true) wz81 (by kernel_rfl) (by kernel_rfl) (by kernel_rfl) ?_
  refine wval (some 61) (.slice (some ⟨bO, oO, none⟩) 1 c9) wz81 (by kernel_rfl) (by kernel_rfl) (by kernel_rfl) ?_
  refine wval (some 62) (.int .i64 1) wz81 (by kernel_rfl) (by kernel_rfl) (by kernel_rfl) ?_
  refine wval (some 63) (.bool true) wz81 (by kernel_rfl) (by kernel_rfl) (by kernel_rfl) ?_
  refine wval (some 64) (.bool true) wz81 (by kernel_rfl) (by kernel_rfl) (by kernel_rfl) ?_
  refine wval (some 65) (.bool true) wz81 (by kernel_rfl) (by kernel_rfl) (by kernel_rfl) ?_
  refine wval (some 66) (.slice (some ⟨bO, oO, none⟩) 1 c9) wz81 (by kernel_rfl) (by kernel_rfl) (by kernel_rfl) ?_
  refine widxG (some 67) 101 (.tmp 66) (.const (.int .i64 0)) bO oO 1 c9 .i64 0 1 oO (by kernel_rfl) (by kernel_rfl) (by kernel_rfl) (by kernel_rfl) (by kernel_rfl) Tryz.underlying101 (by kernel_rfl) (by decide) (by decide) (by simp) ?_
  refine wload (some 68) (.int .i64 2) 49 (.tmp 67) bO (oO) _ (by kernel_rfl) (by kernel_rfl) (by kernel_rfl) (by kernel_rfl) Tryz.underlying49 rfl hcO ?_
  refine wval (some 69) (.int .i64 2) wz81 (by kernel_rfl) (by kernel_rfl) (by kernel_rfl) ?_
  refine wval (some 70) (.bool true) wz81 (by kernel_rfl) (by kernel_rfl) (by kernel_rfl) ?_
  refine wval (some 71) (.bool true) wz81 (by kernel_rfl) (by kernel_rfl) (by kernel_rfl) ?_
  refine wval (some 72) (.bool true) wz81 (by kernel_rfl) (by kernel_rfl) (by kernel_rfl) ?_
  refine wval (some 73) (.int .i64 1) wz81 (by kernel_rfl) (by kernel_rfl) (by kernel_rfl) ?_
  refine wval (some 74) (.bool true) wz81 (by kernel_rfl) (by kernel_rfl) (by kernel_rfl) ?_
  refine wval (some 75) (.bool true) wz81 (by kernel_rfl) (by kernel_rfl) (by kernel_rfl) ?_
  refine wval (some 6) (.bool true) wz81 (by kernel_rfl) (by kernel_rfl) (by kernel_rfl) ?_
  refine wnil (hKC90 _ _ (?_))
  clear hKC90
  refine wp_ret ?_
  refine bodyPost_ret (v := .bool true) (by kernel_rfl) rfl ⟨rfl, HF87.out⟩
set_option maxRecDepth 100000 in
set_option maxHeartbeats 4000000 in
theorem bad_2 (secret which k : Int) (hwr : 0 ≤ IntKind.u64.wrap secret ∧ IntKind.u64.wrap secret < 18446744073709551616) (v0 : -9223372036854775808 ≤ which) (v1 : which ≤ 9223372036854775807) (k0 : -9223372036854775808 ≤ k) (k1 : k ≤ 9223372036854775807) (j : Nat) (hj : j < 9) (HW : Hid (which % 8 = 2)) (HK : Hid (k % 9 = (j : Nat))) (w : World) :
    Calls Tryz.prog 14 #[.int .i64 secret, .int .i64 which, .int .i64 k] w fun e w' => e = .returned (.bool true) ∧ Below w.heap.size w w' := by
  have HB0 := Lib.hid (Below.refl w.heap.size w)
  have hs11 : IntKind.i64.wrap ((11 : Int) + (j : Nat)) = (11 : Int) + (j : Nat) := by rw [IntKind.wrap_i64]; omega
  go_enter Tryz.func14, Tryz.ntmps14
  refine wp_seq_k ?_
  intro KC1 hKC1
  refine wp_regionW ?_
  refine wval (some 6) (.bool false) w (by kernel_rfl) (by kernel_rfl) (by kernel_rfl) ?_
  refine wnil (hKC1 _ _ (?_))
  clear hKC1
  refine wp_seq_k ?_
  intro KC2 hKC2
  refine wp_regionW ?_
  refine wval (some 16) (.int .i64 which) w (by kernel_rfl) (by kernel_rfl) (by kernel_rfl) ?_
  refine wcall (some 17) 40 #[.int .i64 which, .int .i64 8] (by kernel_rfl) (by kernel_rfl) (by kernel_rfl) ?_
  refine (pickedK_at _ 8 _ v0 v1 (by decide) (by decide) HW _).mono ?_
  rintro e wz3 ⟨rfl, rfl⟩
  refine ⟨_, rfl, ?_⟩
  refine wval (some 7) (.int .i64 2) w (by kernel_rfl) (by kernel_rfl) (by kernel_rfl) ?_
  refine wnil (hKC2 _ _ (?_))
  clear hKC2
  refine wp_seq_k ?_
  intro KC4 hKC4
  refine wp_regionW ?_
  refine wval (some 18) (.agg #[.int .i64 0, .int .i64 0, .int .i64 0, .int .i64 0, .int .u64 0, .slice none 0 0]) w (by kernel_rfl) (by kernel_rfl) (by kernel_rfl) ?_
  refine wval (some 19) (.int .i64 k) w (by kernel_rfl) (by kernel_rfl) (by kernel_rfl) ?_
  refine wcall (some 20) 40 #[.int .i64 k, .int .i64 9] (by kernel_rfl) (by kernel_rfl) (by kernel_rfl) ?_
  refine (pickedK_at _ 9 _ k0 k1 (by decide) (by decide) HK _).mono ?_
  rintro e wz5 ⟨rfl, rfl⟩
  refine ⟨_, rfl, ?_⟩
  refine wvalE (some 21) (.int .i64 (IntKind.i64.wrap (11 + (j : Nat)))) (.int .i64 (11 + (j : Nat))) w (by rw [hs11]) (by kernel_rfl) (by kernel_rfl) (by kernel_rfl) ?_
  refine wval (some 22) (.agg #[.int .i64 (11 + (j : Nat)), .int .i64 0, .int .i64 0, .int .i64 0, .int .u64 0, .slice none 0 0]) w (by kernel_rfl) (by kernel_rfl) (by kernel_rfl) ?_
  refine wval (some 23) (.int .i64 k) w (by kernel_rfl) (by kernel_rfl) (by kernel_rfl) ?_
  refine wcall (some 24) 40 #[.int .i64 k, .int .i64 9] (by kernel_rfl) (by kernel_rfl) (by kernel_rfl) ?_
  refine (pickedK_at _ 9 _ k0 k1 (by decide) (by decide) HK _).mono ?_
  rintro e wz6 ⟨rfl, rfl⟩
  refine ⟨_, rfl, ?_⟩
  refine wval (some 25) (.agg #[.int .i64 2, .int .i64 0, .int .i64 (j : Nat), .int .i64 0, .int .u64 0, .slice none 0 0]) w (by kernel_rfl) (by kernel_rfl) (by kernel_rfl) ?_
  refine wval (some 26) (.int .i64 k) w (by kernel_rfl) (by kernel_rfl) (by kernel_rfl) ?_
  refine wcall (some 27) 40 #[.int .i64 k, .int .i64 9] (by kernel_rfl) (by kernel_rfl) (by kernel_rfl) ?_
  refine (pickedK_at _ 9 _ k0 k1 (by decide) (by decide) HK _).mono ?_
  rintro e wz7 ⟨rfl, rfl⟩
  refine ⟨_, rfl, ?_⟩
  refine wval (some 28) (.agg #[.int .i64 4, .int .i64 0, .int .i64 (j : Nat), .int .i64 0, .int .u64 0, .slice none 0 0]) w (by kernel_rfl) (by kernel_rfl) (by kernel_rfl) ?_
  refine wval (some 29) (.agg #[.int .i64 8, .int .i64 4, .int .i64 0, .int .i64 0, .int .u64 0, .slice none 0 0]) w (by kernel_rfl) (by kernel_rfl) (by kernel_rfl) ?_
  refine wval (some 30) (.agg #[.int .i64 9, .int .i64 0, .int .i64 0, .int .i64 0, .int .u64 0, .slice none 0 0]) w (by kernel_rfl) (by kernel_rfl) (by kernel_rfl) ?_
  refine wval (some 31) (.agg #[.int .i64 1, .int .i64 (-1), .int .i64 0, .int .i64 0, .int .u64 0, .slice none 0 0]) w (by kernel_rfl) (by kernel_rfl) (by kernel_rfl) ?_
  refine wval (some 32) (.agg #[.int .i64 10, .int .i64 0, .int .i64 0, .int .i64 0, .int .u64 0, .slice none 0 0]) w (by kernel_rfl) (by kernel_rfl) (by kernel_rfl) ?_
  refine wnew (some 33) 99 #[.int .i64 0, .int .i64 0, .int .i64 0, .int .i64 0, .int .u64 0, .slice none 0 0, .int .i64 (11 + (j : Nat)), .int .i64 0, .int .i64 0, .int .i64 0, .int .u64 0, .slice none 0 0, .int .i64 2, .int .i64 0, .int .i64 (j : Nat), .int .i64 0, .int .u64 0, .slice none 0 0, .int .i64 4, .int .i64 0, .int .i64 (j : Nat), .int .i64 0, .int .u64 0, .slice none 0 0, .int .i64 8, .int .i64 4, .int .i64 0, .int .i64 0, .int .u64 0, .slice none 0 0, .int .i64 9, .int .i64 0, .int .i64 0, .int .i64 0, .int .u64 0, .slice none 0 0, .int .i64 1, .int .i64 (-1), .int .i64 0, .int .i64 0, .int .u64 0, .slice none 0 0, .int .i64 10, .int .i64 0, .int .i64 0, .int .i64 0, .int .u64 0, .slice none 0 0] (fun q => .slice (some ⟨q, 0, none⟩) 8 8) (by kernel_rfl) (by kernel_rfl) (by kernel_rfl) ?_
  intro wz9 g8 hg8 hBg8 hbg8
  have HF10 := Lib.hid (HB0.out.trans (hbg8.mono HB0.out.size))
  have HKg8 := Lib.hid hBg8
  clear hBg8 hbg8
  refine wval (some 34) (.int .i64 2) wz9 (by kernel_rfl) (by kernel_rfl) (by kernel_rfl) ?_
  refine widx (some 35) 95 (.tmp 33) (.tmp 34) g8 0 8 8 .i64 2 6 12 (by kernel_rfl) (by kernel_rfl) (by kernel_rfl) (by kernel_rfl) (by kernel_rfl) Tryz.underlying95 (by kernel_rfl) (by decide) (by decide) (by decide) ?_
  refine wloadR (some 36) (by kernel_rfl) (by kernel_rfl) 99 (.tmp 35) (by kernel_rfl) g8 12 (by kernel_rfl) #[.int .i64 2, .int .i64 0, .int .i64 (j : Nat), .int .i64 0, .int .u64 0, .slice none 0 0] _ Tryz.underlying99 rfl (by kernel_rfl) (HKg8.out.part 12 _ (part_ex (by kernel_rfl))) ?_
  refine wnew (some 8) 99 #[.int .i64 0, .int .i64 0, .int .i64 0, .int .i64 0, .int .u64 0, .slice none 0 0] (fun q => .pointer (some ⟨q, 0, none⟩)) (by kernel_rfl) (by kernel_rfl) (by kernel_rfl) ?_
  intro wz12 g11 hg11 hBg11 hbg11
  have hneg8g11 : g8 ≠ g11 := by have := HKg8.out.lt; omega
  have hlg11 : w.heap.size ≤ g11 := by rw [← hg11]; exact HF10.out.size
  have HK13 := Lib.hid (HKg8.out.carry hbg11)
  clear HKg8
  have HF14 := Lib.hid (HF10.out.trans (hbg11.mono HF10.out.size))
  clear HF10
  have HKg11 := Lib.hid hBg11
  clear hBg11 hbg11
  refine wstoreP (by kernel_rfl) (by kernel_rfl) 99 (.tmp 8) (.tmp 36) (by kernel_rfl) g11 0 (by kernel_rfl) #[.int .i64 2, .int .i64 0, .int .i64 (j : Nat), .int .i64 0, .int .u64 0, .slice none 0 0] (by kernel_rfl) 99 #[.int .i64 0, .int .i64 0, .int .i64 0, .int .i64 0, .int .u64 0, .slice none 0 0] HKg11.out (by kernel_rfl) (Nat.le_of_eq (by kernel_rfl)) (all_one (by kernel_rfl)) #[.int .i64 2, .int .i64 0, .int .i64 (j : Nat), .int .i64 0, .int .u64 0, .slice none 0 0] (splice_all _ _ (by kernel_rfl)) ?_
  intro wz15 hBwz15 hwwz15
  have HK16 := Lib.hid (HK13.out.wr hwwz15 hneg8g11)
  clear HK13
  have HF17 := Lib.hid (hwwz15.trans_below HF14.out hlg11)
  clear HF14
  have HK18 := Lib.hid hBwz15
  clear HKg11
  refine wnil (hKC4 _ _ (?_))
  clear hKC4
  refine wp_seq_k ?_
  intro KC19 hKC19
  refine wp_regionW ?_
  refine wnew (some 37) 49 #[.int .i64 2, .int .i64 2, .int .i64 5, .int .i64 5, .int .i64 6, .int .i64 6, .int .i64 6, .int .i64 5] (fun q => .slice (some ⟨q, 0, none⟩) 8 8) (by kernel_rfl) (by kernel_rfl) (by kernel_rfl) ?_
  intro wz21 g20 hg20 hBg20 hbg20
  have HK22 := Lib.hid (HK16.out.carry hbg20)
  clear HK16
  have HK23 := Lib.hid (HK18.out.carry hbg20)
  clear HK18
  have HF24 := Lib.hid (HF17.out.trans (hbg20.mono HF17.out.size))
  clear HF17
  have HKg20 := Lib.hid hBg20
  clear hBg20 hbg20
  refine wval (some 38) (.int .i64 2) wz21 (by kernel_rfl) (by kernel_rfl) (by kernel_rfl) ?_
  refine widx (some 39) 101 (.tmp 37) (.tmp 38) g20 0 8 8 .i64 2 1 2 (by kernel_rfl) (by kernel_rfl) (by kernel_rfl) (by kernel_rfl) (by kernel_rfl) Tryz.underlying101 (by kernel_rfl) (by decide) (by decide) (by decide) ?_
  refine wload (some 40) (.int .i64 5) 49 (.tmp 39) g20 2 _ (by kernel_rfl) (by kernel_rfl) (by kernel_rfl) (by kernel_rfl) Tryz.underlying49 rfl (by rw [HKg20.out.cell]; kernel_rfl) ?_
  refine wval (some 9) (.int .i64 5) wz21 (by kernel_rfl) (by kernel_rfl) (by kernel_rfl) ?_
  refine wnil (hKC19 _ _ (?_))
  clear hKC19
  refine wp_seq_k ?_
  intro KC25 hKC25
  refine wp_regionW ?_
  refine wval (some 42) (.int .i64 secret) wz21 (by kernel_rfl) (by kernel_rfl) (by kernel_rfl) ?_
  refine wval (some 43) (.int .u64 (IntKind.u64.wrap secret)) wz21 (by kernel_rfl) (by kernel_rfl) (by kernel_rfl) ?_
  refine wloadR (some 44) (by kernel_rfl) (by kernel_rfl) 99 (.tmp 8) (by kernel_rfl) g11 0 (by kernel_rfl) #[.int .i64 2, .int .i64 0, .int .i64 (j : Nat), .int .i64 0, .int .u64 0, .slice none 0 0] _ Tryz.underlying99 rfl (by kernel_rfl) HK23.out.whole ?_
  refine wnew (some 45) 99 #[.int .i64 2, .int .i64 0, .int .i64 (j : Nat), .int .i64 0, .int .u64 0, .slice none 0 0] (fun q => .slice (some ⟨q, 0, none⟩) 1 1) (by kernel_rfl) (by kernel_rfl) (by kernel_rfl) ?_
  intro wz27 g26 hg26 hBg26 hbg26
  have hneg8g26 : g8 ≠ g26 := by have := HK22.out.lt; omega
  have hneg11g26 : g11 ≠ g26 := by have := HK23.out.lt; omega
  have HK28 := Lib.hid (HK22.out.carry hbg26)
  clear HK22
  have HK29 := Lib.hid (HK23.out.carry hbg26)
  clear HK23
  have HK30 := Lib.hid (HKg20.out.carry hbg26)
  clear HKg20
  have HF31 := Lib.hid (HF24.out.trans (hbg26.mono HF24.out.size))
  clear HF24
  have HKg26 := Lib.hid hBg26
  clear hBg26 hbg26
  refine wcall (some 46) 42 #[.int .u64 (IntKind.u64.wrap secret), .bool false, .slice (some ⟨g26, 0, none⟩) 1 1] (by kernel_rfl) (by kernel_rfl) (by kernel_rfl) ?_
  refine (run_one (IntKind.u64.wrap secret) hwr.1 hwr.2 2 0 (j : Nat) 0 5 g26 _ HKg26.out (fun _ _ _ hG hP => act_ask _ j _ _ hP)).mono ?_
  rintro e wz32 ⟨A9, c9, rfl, h1c, hcm, hO9, hbc⟩
  refine ⟨_, rfl, ?_⟩
  have HK33 := Lib.hid (HK28.out.carry hbc)
  clear HK28
  have HK34 := Lib.hid (HK29.out.carry hbc)
  clear HK29
  have HK35 := Lib.hid (HK30.out.carry hbc)
  clear HK30
  have HK36 := Lib.hid (HKg26.out.carry hbc)
  clear HKg26
  have HF37 := Lib.hid (HF31.out.trans (hbc.mono HF31.out.size))
  clear HF31
  clear hbc
  have HO := Lib.hid hO9
  clear hO9
  refine wval (some 41) (.tuple #[.slice A9 1 c9, .agg (wld (gBeg (IntKind.u64.wrap secret)) none 0 0), .int .i64 0]) wz32 (by kernel_rfl) (by kernel_rfl) (by kernel_rfl) ?_
  refine wval (some 47) (.slice A9 1 c9) wz32 (by kernel_rfl) (by kernel_rfl) (by kernel_rfl) ?_
  refine wval (some 48) (.agg (wld (gBeg (IntKind.u64.wrap secret)) none 0 0)) wz32 (by kernel_rfl) (by kernel_rfl) (by kernel_rfl) ?_
  refine wval (some 49) (.int .i64 0) wz32 (by kernel_rfl) (by kernel_rfl) (by kernel_rfl) ?_
  refine wnew (some 11) 105 #[.int .u64 0, .int .i64 0, .int .i64 0, .slice none 0 0, .bool false, .int .i64 0, .int .i64 0, .bool false, .int .i64 0, .int .i64 0, .bool false, .int .i64 0, .int .i64 0, .bool false, .int .i64 0, .int .i64 0, .bool false, .int .i64 0, .slice none 0 0, .slice none 0 0, .int .i64 0] (fun q => .pointer (some ⟨q, 0, none⟩)) (by kernel_rfl) (by kernel_rfl) (by kernel_rfl) ?_
  intro wz39 g38 hg38 hBg38 hbg38
  have hlg38 : w.heap.size ≤ g38 := by rw [← hg38]; exact HF37.out.size
  have HK40 := Lib.hid (HK33.out.carry hbg38)
  clear HK33
  have HK41 := Lib.hid (HK34.out.carry hbg38)
  clear HK34
  have HK42 := Lib.hid (HK35.out.carry hbg38)
  clear HK35
  have HK43 := Lib.hid (HK36.out.carry hbg38)
  clear HK36
  have HF44 := Lib.hid (HF37.out.trans (hbg38.mono HF37.out.size))
  clear HF37
  have HF45 := Lib.hid (HO.out.carry hbg38)
  have HKg38 := Lib.hid hBg38
  clear hBg38 hbg38
  refine wval (some 10) (.slice A9 1 c9) wz39 (by kernel_rfl) (by kernel_rfl) (by kernel_rfl) ?_
  refine wstoreP (by kernel_rfl) (by kernel_rfl) 105 (.tmp 11) (.tmp 48) (by kernel_rfl) g38 0 (by kernel_rfl) (wld (gBeg (IntKind.u64.wrap secret)) none 0 0) (by kernel_rfl) 105 #[.int .u64 0, .int .i64 0, .int .i64 0, .slice none 0 0, .bool false, .int .i64 0, .int .i64 0, .bool false, .int .i64 0, .int .i64 0, .bool false, .int .i64 0, .int .i64 0, .bool false, .int .i64 0, .int .i64 0, .bool false, .int .i64 0, .slice none 0 0, .slice none 0 0, .int .i64 0] HKg38.out (by kernel_rfl) (Nat.le_of_eq (by kernel_rfl)) (all_one (by kernel_rfl)) (wld (gBeg (IntKind.u64.wrap secret)) none 0 0) (splice_all _ _ (by kernel_rfl)) ?_
  intro wz46 hBwz46 hwwz46
  have HK47 := Lib.hid (HK40.out.wr hwwz46 (Blk.neq HK40.out HKg38.out (by decide)))
  clear HK40
  have HK48 := Lib.hid (HK41.out.wr hwwz46 (Blk.neq HK41.out HKg38.out (by decide)))
  clear HK41
  have HK49 := Lib.hid (HK42.out.wr hwwz46 (Blk.neq HK42.out HKg38.out (by decide)))
  clear HK42
  have HK50 := Lib.hid (HK43.out.wr hwwz46 (Blk.neq HK43.out HKg38.out (by decide)))
  clear HK43
  have HF51 := Lib.hid (hwwz46.trans_below HF44.out hlg38)
  clear HF44
  have HF52 := Lib.hid (HF45.out.wr hwwz46 (own_neq HF45.out HKg38.out (by decide)))
  clear HF45
  have HK53 := Lib.hid hBwz46
  clear HKg38
  refine wval (some 12) (.int .i64 0) wz46 (by kernel_rfl) (by kernel_rfl) (by kernel_rfl) ?_
  refine wnil (hKC25 _ _ (?_))
  clear hKC25
  refine wp_seq_k ?_
  intro KC54 hKC54
  refine wp_regionW ?_
  refine wval (some 51) (.int .i64 secret) wz46 (by kernel_rfl) (by kernel_rfl) (by kernel_rfl) ?_
  refine wval (some 52) (.int .u64 (IntKind.u64.wrap secret)) wz46 (by kernel_rfl) (by kernel_rfl) (by kernel_rfl) ?_
  refine wnew (some 53) 99 ((Array.range 726).map (fun i => (#[.int .i64 0, .int .i64 0, .int .i64 0, .int .i64 0, .int .u64 0, .slice none 0 0] : Array Value)[i % 6]!)) (fun q => .slice (some ⟨q, 0, none⟩) 121 121) (by kernel_rfl) (by kernel_rfl) (by kernel_rfl) ?_
  intro wz56 g55 hg55 hBg55 hbg55
  have HK57 := Lib.hid (HK47.out.carry hbg55)
  clear HK47
  have HK58 := Lib.hid (HK48.out.carry hbg55)
  clear HK48
  have HK59 := Lib.hid (HK49.out.carry hbg55)
  clear HK49
  have HK60 := Lib.hid (HK50.out.carry hbg55)
  clear HK50
  have HK61 := Lib.hid (HK53.out.carry hbg55)
  clear HK53
  have HF62 := Lib.hid (HF51.out.trans (hbg55.mono HF51.out.size))
  clear HF51
  have HF63 := Lib.hid (HF52.out.carry hbg55)
  clear HF52
  clear hBg55 hbg55
  refine wcall (some 54) 42 #[.int .u64 (IntKind.u64.wrap secret), .bool false, .slice (some ⟨g55, 0, none⟩) 121 121] (by kernel_rfl) (by kernel_rfl) (by kernel_rfl) ?_
  refine (run_long (IntKind.u64.wrap secret) _ _ _).mono ?_
  rintro e wz64 ⟨rfl, hbc⟩
  refine ⟨_, rfl, ?_⟩
  have HK65 := Lib.hid (HK57.out.carry hbc)
  clear HK57
  have HK66 := Lib.hid (HK58.out.carry hbc)
  clear HK58
  have HK67 := Lib.hid (HK59.out.carry hbc)
  clear HK59
  have HK68 := Lib.hid (HK60.out.carry hbc)
  clear HK60
  have HK69 := Lib.hid (HK61.out.carry hbc)
  clear HK61
  have HF70 := Lib.hid (HF62.out.trans (hbc.mono HF62.out.size))
  clear HF62
  have HF71 := Lib.hid (HF63.out.carry hbc)
  clear HF63
  clear hbc
  refine wval (some 50) (.tuple #[.slice none 0 0, .agg #[.int .u64 0, .int .i64 0, .int .i64 0, .slice none 0 0, .bool false, .int .i64 0, .int .i64 0, .bool false, .int .i64 0, .int .i64 0, .bool false, .int .i64 0, .int .i64 0, .bool false, .int .i64 0, .int .i64 0, .bool false, .int .i64 0, .slice none 0 0, .slice none 0 0, .int .i64 0], .int .i64 1]) wz64 (by kernel_rfl) (by kernel_rfl) (by kernel_rfl) ?_
  refine wval (some 55) (.slice none 0 0) wz64 (by kernel_rfl) (by kernel_rfl) (by kernel_rfl) ?_
  refine wval (some 56) (.agg #[.int .u64 0, .int .i64 0, .int .i64 0, .slice none 0 0, .bool false, .int .i64 0, .int .i64 0, .bool false, .int .i64 0, .int .i64 0, .bool false, .int .i64 0, .int .i64 0, .bool false, .int .i64 0, .int .i64 0, .bool false, .int .i64 0, .slice none 0 0, .slice none 0 0, .int .i64 0]) wz64 (by kernel_rfl) (by kernel_rfl) (by kernel_rfl) ?_
  refine wval (some 57) (.int .i64 1) wz64 (by kernel_rfl) (by kernel_rfl) (by kernel_rfl) ?_
  refine wnew (some 14) 105 #[.int .u64 0, .int .i64 0, .int .i64 0, .slice none 0 0, .bool false, .int .i64 0, .int .i64 0, .bool false, .int .i64 0, .int .i64 0, .bool false, .int .i64 0, .int .i64 0, .bool false, .int .i64 0, .int .i64 0, .bool false, .int .i64 0, .slice none 0 0, .slice none 0 0, .int .i64 0] (fun q => .pointer (some ⟨q, 0, none⟩)) (by kernel_rfl) (by kernel_rfl) (by kernel_rfl) ?_
  intro wz73 g72 hg72 hBg72 hbg72
  have hneg38g72 : g38 ≠ g72 := by have := HK69.out.lt; omega
  have hlg72 : w.heap.size ≤ g72 := by rw [← hg72]; exact HF70.out.size
  have HK74 := Lib.hid (HK65.out.carry hbg72)
  clear HK65
  have HK75 := Lib.hid (HK66.out.carry hbg72)
  clear HK66
  have HK76 := Lib.hid (HK67.out.carry hbg72)
  clear HK67
  have HK77 := Lib.hid (HK68.out.carry hbg72)
  clear HK68
  have HK78 := Lib.hid (HK69.out.carry hbg72)
  clear HK69
  have HF79 := Lib.hid (HF70.out.trans (hbg72.mono HF70.out.size))
  clear HF70
  have HF80 := Lib.hid (HF71.out.carry hbg72)
  clear HF71
  have HKg72 := Lib.hid hBg72
  clear hBg72 hbg72
  refine wval (some 13) (.slice none 0 0) wz73 (by kernel_rfl) (by kernel_rfl) (by kernel_rfl) ?_
  refine wstoreP (by kernel_rfl) (by kernel_rfl) 105 (.tmp 14) (.tmp 56) (by kernel_rfl) g72 0 (by kernel_rfl) #[.int .u64 0, .int .i64 0, .int .i64 0, .slice none 0 0, .bool false, .int .i64 0, .int .i64 0, .bool false, .int .i64 0, .int .i64 0, .bool false, .int .i64 0, .int .i64 0, .bool false, .int .i64 0, .int .i64 0, .bool false, .int .i64 0, .slice none 0 0, .slice none 0 0, .int .i64 0] (by kernel_rfl) 105 #[.int .u64 0, .int .i64 0, .int .i64 0, .slice none 0 0, .bool false, .int .i64 0, .int .i64 0, .bool false, .int .i64 0, .int .i64 0, .bool false, .int .i64 0, .int .i64 0, .bool false, .int .i64 0, .int .i64 0, .bool false, .int .i64 0, .slice none 0 0, .slice none 0 0, .int .i64 0] HKg72.out (by kernel_rfl) (Nat.le_of_eq (by kernel_rfl)) (all_one (by kernel_rfl)) #[.int .u64 0, .int .i64 0, .int .i64 0, .slice none 0 0, .bool false, .int .i64 0, .int .i64 0, .bool false, .int .i64 0, .int .i64 0, .bool false, .int .i64 0, .int .i64 0, .bool false, .int .i64 0, .int .i64 0, .bool false, .int .i64 0, .slice none 0 0, .slice none 0 0, .int .i64 0] (splice_all _ _ (by kernel_rfl)) ?_
  intro wz81 hBwz81 hwwz81
  have HK82 := Lib.hid (HK74.out.wr hwwz81 (Blk.neq HK74.out HKg72.out (by decide)))
  clear HK74
  have HK83 := Lib.hid (HK75.out.wr hwwz81 (Blk.neq HK75.out HKg72.out (by decide)))
  clear HK75
  have HK84 := Lib.hid (HK76.out.wr hwwz81 (Blk.neq HK76.out HKg72.out (by decide)))
  clear HK76
  have HK85 := Lib.hid (HK77.out.wr hwwz81 (Blk.neq HK77.out HKg72.out (by decide)))
  clear HK77
  have HK86 := Lib.hid (HK78.out.wr hwwz81 hneg38g72)
  clear HK78
  have HF87 := Lib.hid (hwwz81.trans_below HF79.out hlg72)
  clear HF79
  have HF88 := Lib.hid (HF80.out.wr hwwz81 (own_neq HF80.out HKg72.out (by decide)))
  clear HF80
  have HK89 := Lib.hid hBwz81
  clear HKg72
  refine wval (some 15) (.int .i64 1) wz81 (by kernel_rfl) (by kernel_rfl) (by kernel_rfl) ?_
  refine wnil (hKC54 _ _ (?_))
  clear hKC54
  refine wp_seq_k ?_
  intro KC90 hKC90
  obtain ⟨bO, oO, rfl, hcO⟩ := HF88.out.rd.int (by decide)
  have hcO := hcO 0 (by decide)
  refine wp_regionW ?_
  refine wval (some 58) (.int .i64 0) wz81 (by kernel_rfl) (by kernel_rfl) (by kernel_rfl) ?_
  refine wval (some 59) (.bool true) wz81 (by kernel_rfl) (by kernel_rfl) (by kernel_rfl) ?_
  refine wval (some 60) (.bool true) wz81 (by kernel_rfl) (by kernel_rfl) (by kernel_rfl) ?_
  refine wval (some 61) (.slice (some ⟨bO, oO, none⟩) 1 c9) wz81 (by kernel_rfl) (by kernel_rfl) (by kernel_rfl) ?_
  refine wval (some 62) (.int .i64 1) wz81 (by kernel_rfl) (by kernel_rfl) (by kernel_rfl) ?_
  refine wval (some 63) (.bool true) wz81 (by kernel_rfl) (by kernel_rfl) (by kernel_rfl) ?_
  refine wval (some 64) (.bool true) wz81 (by kernel_rfl) (by kernel_rfl) (by kernel_rfl) ?_
  refine wval (some 65) (.bool true) wz81 (by kernel_rfl) (by kernel_rfl) (by kernel_rfl) ?_
  refine wval (some 66) (.slice (some ⟨bO, oO, none⟩) 1 c9) wz81 (by kernel_rfl) (by kernel_rfl) (by kernel_rfl) ?_
  refine widxG (some 67) 101 (.tmp 66) (.const (.int .i64 0)) bO oO 1 c9 .i64 0 1 oO (by kernel_rfl) (by kernel_rfl) (by kernel_rfl) (by kernel_rfl) (by kernel_rfl) Tryz.underlying101 (by kernel_rfl) (by decide) (by decide) (by simp) ?_
  refine wload (some 68) (.int .i64 5) 49 (.tmp 67) bO (oO) _ (by kernel_rfl) (by kernel_rfl) (by kernel_rfl) (by kernel_rfl) Tryz.underlying49 rfl hcO ?_
  refine wval (some 69) (.int .i64 5) wz81 (by kernel_rfl) (by kernel_rfl) (by kernel_rfl) ?_
  refine wval (some 70) (.bool true) wz81 (by kernel_rfl) (by kernel_rfl) (by kernel_rfl) ?_
  refine wval (some 71) (.bool true) wz81 (by kernel_rfl) (by kernel_rfl) (by kernel_rfl) ?_
  refine wval (some 72) (.bool true) wz81 (by kernel_rfl) (by kernel_rfl) (by kernel_rfl) ?_
  refine wval (some 73) (.int .i64 1) wz81 (by kernel_rfl) (by kernel_rfl) (by kernel_rfl) ?_
  refine wval (some 74) (.bool true) wz81 (by kernel_rfl) (by kernel_rfl) (by kernel_rfl) ?_
  refine wval (some 75) (.bool true) wz81 (by kernel_rfl) (by kernel_rfl) (by kernel_rfl) ?_
  refine wval (some 6) (.bool true) wz81 (by kernel_rfl) (by kernel_rfl) (by kernel_rfl) ?_
  refine wnil (hKC90 _ _ (?_))
  clear hKC90
  refine wp_ret ?_
  refine bodyPost_ret (v := .bool true) (by kernel_rfl) rfl ⟨rfl, HF87.out⟩
set_option maxRecDepth 100000 in
set_option maxHeartbeats 4000000 in
theorem bad_3 (secret which k : Int) (hwr : 0 ≤ IntKind.u64.wrap secret ∧ IntKind.u64.wrap secret < 18446744073709551616) (v0 : -9223372036854775808 ≤ which) (v1 : which ≤ 9223372036854775807) (k0 : -9223372036854775808 ≤ k) (k1 : k ≤ 9223372036854775807) (j : Nat) (hj : j < 9) (HW : Hid (which % 8 = 3)) (HK : Hid (k % 9 = (j : Nat))) (w : World) :
    Calls Tryz.prog 14 #[.int .i64 secret, .int .i64 which, .int .i64 k] w fun e w' => e = .returned (.bool true) ∧ Below w.heap.size w w' := by
  have HB0 := Lib.hid (Below.refl w.heap.size w)
  have hs11 : IntKind.i64.wrap ((11 : Int) + (j : Nat)) = (11 : Int) + (j : Nat) := by rw [IntKind.wrap_i64]; omega
  go_enter Tryz.func14, Tryz.ntmps14
  refine wp_seq_k ?_
  intro KC1 hKC1
  refine wp_regionW ?_
  refine wval (some 6) (.bool false) w (by kernel_rfl) (by kernel_rfl) (by kernel_rfl) ?_
  refine wnil (hKC1 _ _ (?_))
  clear hKC1
  refine wp_seq_k ?_
  intro KC2 hKC2
  refine wp_regionW ?_
  refine wval (some 16) (.int .i64 which) w (by kernel_rfl) (by kernel_rfl) (by kernel_rfl) ?_
  refine wcall (some 17) 40 #[.int .i64 which, .int .i64 8] (by kernel_rfl) (by kernel_rfl) (by kernel_rfl) ?_
  refine (pickedK_at _ 8 _ v0 v1 (by decide) (by decide) HW _).mono ?_
  rintro e wz3 ⟨rfl, rfl⟩
  refine ⟨_, rfl, ?_⟩
  refine wval (some 7) (.int .i64 3) w (by kernel_rfl) (by kernel_rfl) (by kernel_rfl) ?_
  refine wnil (hKC2 _ _ (?_))
  clear hKC2
  refine wp_seq_k ?_
  intro KC4 hKC4
  refine wp_regionW ?_
  refine wval (some 18) (.agg #[.int .i64 0, .int .i64 0, .int .i64 0, .int .i64 0, .int .u64 0, .slice none 0 0]) w (by kernel_rfl) (by kernel_rfl) (by kernel_rfl) ?_
  refine wval (some 19) (.int .i64 k) w (by kernel_rfl) (by kernel_rfl) (by kernel_rfl) ?_
  refine wcall (some 20) 40 #[.int .i64 k, .int .i64 9] (by kernel_rfl) (by kernel_rfl) (by kernel_rfl) ?_
  refine (pickedK_at _ 9 _ k0 k1 (by decide) (by decide) HK _).mono ?_
  rintro e wz5 ⟨rfl, rfl⟩
  refine ⟨_, rfl, ?_⟩
  refine wvalE (some 21) (.int .i64 (IntKind.i64.wrap (11 + (j : Nat)))) (.int .i64 (11 + (j : Nat))) w (by rw [hs11]) (by kernel_rfl) (by kernel_rfl) (by kernel_rfl) ?_
  refine wval (some 22) (.agg #[.int .i64 (11 + (j : Nat)), .int .i64 0, .int .i64 0, .int .i64 0, .int .u64 0, .slice none 0 0]) w (by kernel_rfl) (by kernel_rfl) (by kernel_rfl) ?_
  refine wval (some 23) (.int .i64 k) w (by kernel_rfl) (by kernel_rfl) (by kernel_rfl) ?_
  refine wcall (some 24) 40 #[.int .i64 k, .int .i64 9] (by kernel_rfl) (by kernel_rfl) (by kernel_rfl) ?_
  refine (pickedK_at _ 9 _ k0 k1 (by decide) (by decide) HK _).mono ?_
  rintro e wz6 ⟨rfl, rfl⟩
  refine ⟨_, rfl, ?_⟩
  refine wval (some 25) (.agg #[.int .i64 2, .int .i64 0, .int .i64 (j : Nat), .int .i64 0, .int .u64 0, .slice none 0 0]) w (by kernel_rfl) (by kernel_rfl) (by kernel_rfl) ?_
  refine wval (some 26) (.int .i64 k) w (by kernel_rfl) (by kernel_rfl) (by kernel_rfl) ?_
  refine wcall (some 27) 40 #[.int .i64 k, .int .i64 9] (by kernel_rfl) (by kernel_rfl) (by kernel_rfl) ?_
  refine (pickedK_at _ 9 _ k0 k1 (by decide) (by decide) HK _).mono ?_
  rintro e wz7 ⟨rfl, rfl⟩
  refine ⟨_, rfl, ?_⟩
  refine wval (some 28) (.agg #[.int .i64 4, .int .i64 0, .int .i64 (j : Nat), .int .i64 0, .int .u64 0, .slice none 0 0]) w (by kernel_rfl) (by kernel_rfl) (by kernel_rfl) ?_
  refine wval (some 29) (.agg #[.int .i64 8, .int .i64 4, .int .i64 0, .int .i64 0, .int .u64 0, .slice none 0 0]) w (by kernel_rfl) (by kernel_rfl) (by kernel_rfl) ?_
  refine wval (some 30) (.agg #[.int .i64 9, .int .i64 0, .int .i64 0, .int .i64 0, .int .u64 0, .slice none 0 0]) w (by kernel_rfl) (by kernel_rfl) (by kernel_rfl) ?_
  refine wval (some 31) (.agg #[.int .i64 1, .int .i64 (-1), .int .i64 0, .int .i64 0, .int .u64 0, .slice none 0 0]) w (by kernel_rfl) (by kernel_rfl) (by kernel_rfl) ?_
  refine wval (some 32) (.agg #[.int .i64 10, .int .i64 0, .int .i64 0, .int .i64 0, .int .u64 0, .slice none 0 0]) w (by kernel_rfl) (by kernel_rfl) (by kernel_rfl) ?_
  refine wnew (some 33) 99 #[.int .i64 0, .int .i64 0, .int .i64 0, .int .i64 0, .int .u64 0, .slice none 0 0, .int .i64 (11 + (j : Nat)), .int .i64 0, .int .i64 0, .int .i64 0, .int .u64 0, .slice none 0 0, .int .i64 2, .int .i64 0, .int .i64 (j : Nat), .int .i64 0, .int .u64 0, .slice none 0 0, .int .i64 4, .int .i64 0, .int .i64 (j : Nat), .int .i64 0, .int .u64 0, .slice none 0 0, .int .i64 8, .int .i64 4, .int .i64 0, .int .i64 0, .int .u64 0, .slice none 0 0, .int .i64 9, .int .i64 0, .int .i64 0, .int .i64 0, .int .u64 0, .slice none 0 0, .int .i64 1, .int .i64 (-1), .int .i64 0, .int .i64 0, .int .u64 0, .slice none 0 0, .int .i64 10, .int .i64 0, .int .i64 0, .int .i64 0, .int .u64 0, .slice none 0 0] (fun q => .slice (some ⟨q, 0, none⟩) 8 8) (by kernel_rfl) (by kernel_rfl) (by kernel_rfl) ?_
  intro wz9 g8 hg8 hBg8 hbg8
  have HF10 := Lib.hid (HB0.out.trans (hbg8.mono HB0.out.size))
  have HKg8 := Lib.hid hBg8
  clear hBg8 hbg8
  refine wval (some 34) (.int .i64 3) wz9 (by kernel_rfl) (by kernel_rfl) (by kernel_rfl) ?_
  refine widx (some 35) 95 (.tmp 33) (.tmp 34) g8 0 8 8 .i64 3 6 18 (by kernel_rfl) (by kernel_rfl) (by kernel_rfl) (by kernel_rfl) (by kernel_rfl) Tryz.underlying95 (by kernel_rfl) (by decide) (by decide) (by decide) ?_
  refine wloadR (some 36) (by kernel_rfl) (by kernel_rfl) 99 (.tmp 35) (by kernel_rfl) g8 18 (by kernel_rfl) #[.int .i64 4, .int .i64 0, .int .i64 (j : Nat), .int .i64 0, .int .u64 0, .slice none 0 0] _ Tryz.underlying99 rfl (by kernel_rfl) (HKg8.out.part 18 _ (part_ex (by kernel_rfl))) ?_
  refine wnew (some 8) 99 #[.int .i64 0, .int .i64 0, .int .i64 0, .int .i64 0, .int .u64 0, .slice none 0 0] (fun q => .pointer (some ⟨q, 0, none⟩)) (by kernel_rfl) (by kernel_rfl) (by kernel_rfl) ?_
  intro wz12 g11 hg11 hBg11 hbg11
  have hneg8g11 : g8 ≠ g11 := by have := HKg8.out.lt; omega
  have hlg11 : w.heap.size ≤ g11 := by rw [← hg11]; exact HF10.out.size
  have HK13 := Lib.hid (HKg8.out.carry hbg11)
  clear HKg8
  have HF14 := Lib.hid (HF10.out.trans (hbg11.mono HF10.out.size))
  clear HF10
  have HKg11 := Lib.hid hBg11
  clear hBg11 hbg11
  refine wstoreP (by kernel_rfl) (by kernel_rfl) 99 (.tmp 8) (.tmp 36) (by kernel_rfl) g11 0 (by kernel_rfl) #[.int .i64 4, .int .i64 0, .int .i64 (j : Nat), .int .i64 0, .int .u64 0, .slice none 0 0] (by kernel_rfl) 99 #[.int .i64 0, .int .i64 0, .int .i64 0, .int .i64 0, .int .u64 0, .slice none 0 0] HKg11.out (by kernel_rfl) (Nat.le_of_eq (by kernel_rfl)) (all_one (by kernel_rfl)) #[.int .i64 4, .int .i64 0, .int .i64 (j : Nat), .int .i64 0, .int .u64 0, .slice none 0 0] (splice_all _ _ (by kernel_rfl)) ?_
  intro wz15 hBwz15 hwwz15
  have HK16 := Lib.hid (HK13.out.wr hwwz15 hneg8g11)
  clear HK13
  have HF17 := Lib.hid (hwwz15.trans_below HF14.out hlg11)
  clear HF14
  have HK18 := Lib.hid hBwz15
  clear HKg11
  refine wnil (hKC4 _ _ (?_))
  clear hKC4
  refine wp_seq_k ?_
  intro KC19 hKC19
  refine wp_regionW ?_
  refine wnew (some 37) 49 #[.int .i64 2, .int .i64 2, .int .i64 5, .int .i64 5, .int .i64 6, .int .i64 6, .int .i64 6, .int .i64 5] (fun q => .slice (some ⟨q, 0, none⟩) 8 8) (by kernel_rfl) (by kernel_rfl) (by kernel_rfl) ?_
  intro wz21 g20 hg20 hBg20 hbg20
  have HK22 := Lib.hid (HK16.out.carry hbg20)
  clear HK16
  have HK23 := Lib.hid (HK18.out.carry hbg20)
  clear HK18
  have HF24 := Lib.hid (HF17.out.trans (hbg20.mono HF17.out.size))
  clear HF17
  have HKg20 := Lib.hid hBg20
  clear hBg20 hbg20
  refine wval (some 38) (.int .i64 3) wz21 (by kernel_rfl) (by kernel_rfl) (by kernel_rfl) ?_
  refine widx (some 39) 101 (.tmp 37) (.tmp 38) g20 0 8 8 .i64 3 1 3 (by kernel_rfl) (by kernel_rfl) (by kernel_rfl) (by kernel_rfl) (by kernel_rfl) Tryz.underlying101 (by kernel_rfl) (by decide) (by decide) (by decide) ?_
  refine wload (some 40) (.int .i64 5) 49 (.tmp 39) g20 3 _ (by kernel_rfl) (by kernel_rfl) (by kernel_rfl) (by kernel_rfl) Tryz.underlying49 rfl (by rw [HKg20.out.cell]; kernel_rfl) ?_
  refine wval (some 9) (.int .i64 5) wz21 (by kernel_rfl) (by kernel_rfl) (by kernel_rfl) ?_
  refine wnil (hKC19 _ _ (?_))
  clear hKC19
  refine wp_seq_k ?_
  intro KC25 hKC25
  refine wp_regionW ?_
  refine wval (some 42) (.int .i64 secret) wz21 (by kernel_rfl) (by kernel_rfl) (by kernel_rfl) ?_
  refine wval (some 43) (.int .u64 (IntKind.u64.wrap secret)) wz21 (by kernel_rfl) (by kernel_rfl) (by kernel_rfl) ?_
  refine wloadR (some 44) (by kernel_rfl) (by kernel_rfl) 99 (.tmp 8) (by kernel_rfl) g11 0 (by kernel_rfl) #[.int .i64 4, .int .i64 0, .int .i64 (j : Nat), .int .i64 0, .int .u64 0, .slice none 0 0] _ Tryz.underlying99 rfl (by kernel_rfl) HK23.out.whole ?_
  refine wnew (some 45) 99 #[.int .i64 4, .int .i64 0, .int .i64 (j : Nat), .int .i64 0, .int .u64 0, .slice none 0 0] (fun q => .slice (some ⟨q, 0, none⟩) 1 1) (by kernel_rfl) (by kernel_rfl) (by kernel_rfl) ?_
  intro wz27 g26 hg26 hBg26 hbg26
  have hneg8g26 : g8 ≠ g26 := by have := HK22.out.lt; omega
  have hneg11g26 : g11 ≠ g26 := by have := HK23.out.lt; omega
  have HK28 := Lib.hid (HK22.out.carry hbg26)
  clear HK22
  have HK29 := Lib.hid (HK23.out.carry hbg26)
  clear HK23
  have HK30 := Lib.hid (HKg20.out.carry hbg26)
  clear HKg20
  have HF31 := Lib.hid (HF24.out.trans (hbg26.mono HF24.out.size))
  clear HF24
  have HKg26 := Lib.hid hBg26
  clear hBg26 hbg26
  refine wcall (some 46) 42 #[.int .u64 (IntKind.u64.wrap secret), .bool false, .slice (some ⟨g26, 0, none⟩) 1 1] (by kernel_rfl) (by kernel_rfl) (by kernel_rfl) ?_
  refine (run_one (IntKind.u64.wrap secret) hwr.1 hwr.2 4 0 (j : Nat) 0 5 g26 _ HKg26.out (fun _ _ _ hG hP => act_deliver _ j _ _ hP)).mono ?_
  rintro e wz32 ⟨A9, c9, rfl, h1c, hcm, hO9, hbc⟩
  refine ⟨_, rfl, ?_⟩
  have HK33 := Lib.hid (HK28.out.carry hbc)
  clear HK28
  have HK34 := Lib.hid (HK29.out.carry hbc)
  clear HK29
  have HK35 := Lib.hid (HK30.out.carry hbc)
  clear HK30
  have HK36 := Lib.hid (HKg26.out.carry hbc)
  clear HKg26
  have HF37 := Lib.hid (HF31.out.trans (hbc.mono HF31.out.size))
  clear HF31
  clear hbc
  have HO := Lib.hid hO9
  clear hO9
  refine wval (some 41) (.tuple #[.slice A9 1 c9, .agg (wld (gBeg (IntKind.u64.wrap secret)) none 0 0), .int .i64 0]) wz32 (by kernel_rfl) (by kernel_rfl) (by kernel_rfl) ?_
  refine wval (some 47) (.slice A9 1 c9) wz32 (by kernel_rfl) (by kernel_rfl) (by kernel_rfl) ?_
  refine wval (some 48) (.agg (wld (gBeg (IntKind.u64.wrap secret)) none 0 0)) wz32 (by kernel_rfl) (by kernel_rfl) (by kernel_rfl) ?_
  refine wval (some 49) (.int .i64 0) wz32 (by kernel_rfl) (by kernel_rfl) (by kernel_rfl) ?_
  refine wnew (some 11) 105 #[.int .u64 0, .int .i64 0, .int .i64 0, .slice none 0 0, .bool false, .int .i64 0, .int .i64 0, .bool false, .int .i64 0, .int .i64 0, .bool false, .int .i64 0, .int .i64 0, .bool false, .int .i64 0, .int .i64 0, .bool false, .int .i64 0, .slice none 0 0, .slice none 0 0, .int .i64 0] (fun q => .pointer (some ⟨q, 0, none⟩)) (by kernel_rfl) (by kernel_rfl) (by kernel_rfl) ?_
  intro wz39 g38 hg38 hBg38 hbg38
  have hlg38 : w.heap.size ≤ g38 := by rw [← hg38]; exact HF37.out.size
  have HK40 := Lib.hid (HK33.out.carry hbg38)
  clear HK33
  have HK41 := Lib.hid (HK34.out.carry hbg38)
  clear HK34
  have HK42 := Lib.hid (HK35.out.carry hbg38)
  clear HK35
  have HK43 := Lib.hid (HK36.out.carry hbg38)
  clear HK36
  have HF44 := Lib.hid (HF37.out.trans (hbg38.mono HF37.out.size))
  clear HF37
  have HF45 := Lib.hid (HO.out.carry hbg38)
  have HKg38 := Lib.hid hBg38
  clear hBg38 hbg38
  refine wval (some 10) (.slice A9 1 c9) wz39 (by kernel_rfl) (by kernel_rfl) (by kernel_rfl) ?_
  refine wstoreP (by kernel_rfl) (by kernel_rfl) 105 (.tmp 11) (.tmp 48) (by kernel_rfl) g38 0 (by kernel_rfl) (wld (gBeg (IntKind.u64.wrap secret)) none 0 0) (by kernel_rfl) 105 #[.int .u64 0, .int .i64 0, .int .i64 0, .slice none 0 0, .bool false, .int .i64 0, .int .i64 0, .bool false, .int .i64 0, .int .i64 0, .bool false, .int .i64 0, .int .i64 0, .bool false, .int .i64 0, .int .i64 0, .bool false, .int .i64 0, .slice none 0 0, .slice none 0 0, .int .i64 0] HKg38.out (by kernel_rfl) (Nat.le_of_eq (by kernel_rfl)) (all_one (by kernel_rfl)) (wld (gBeg (IntKind.u64.wrap secret)) none 0 0) (splice_all _ _ (by kernel_rfl)) ?_
  intro wz46 hBwz46 hwwz46
  have HK47 := Lib.hid (HK40.out.wr hwwz46 (Blk.neq HK40.out HKg38.out (by decide)))
  clear HK40
  have HK48 := Lib.hid (HK41.out.wr hwwz46 (Blk.neq HK41.out HKg38.out (by decide)))
  clear HK41
  have HK49 := Lib.hid (HK42.out.wr hwwz46 (Blk.neq HK42.out HKg38.out (by decide)))
  clear HK42
  have HK50 := Lib.hid (HK43.out.wr hwwz46 (Blk.neq HK43.out HKg38.out (by decide)))
  clear HK43
  have HF51 := Lib.hid (hwwz46.trans_below HF44.out hlg38)
  clear HF44
  have HF52 := Lib.hid (HF45.out.wr hwwz46 (own_neq HF45.out HKg38.out (by decide)))
  clear HF45
  have HK53 := Lib.hid hBwz46
  clear HKg38
  refine wval (some 12) (.int .i64 0) wz46 (by kernel_rfl) (by kernel_rfl) (by kernel_rfl) ?_
  refine wnil (hKC25 _ _ (?_))
  clear hKC25
  refine wp_seq_k ?_
  intro KC54 hKC54
  refine wp_regionW ?_
  refine wval (some 51) (.int .i64 secret) wz46 (by kernel_rfl) (by kernel_rfl) (by kernel_rfl) ?_
  refine wval (some 52) (.int .u64 (IntKind.u64.wrap secret)) wz46 (by kernel_rfl) (by kernel_rfl) (by kernel_rfl) ?_
  refine wnew (some 53) 99 ((Array.range 726).map (fun i => (#[.int .i64 0, .int .i64 0, .int .i64 0, .int .i64 0, .int .u64 0, .slice none 0 0] : Array Value)[i % 6]!)) (fun q => .slice (some ⟨q, 0, none⟩) 121 121) (by kernel_rfl) (by kernel_rfl) (by kernel_rfl) ?_
  intro wz56 g55 hg55 hBg55 hbg55
  have HK57 := Lib.hid (HK47.out.carry hbg55)
  clear HK47
  have HK58 := Lib.hid (HK48.out.carry hbg55)
  clear HK48
  have HK59 := Lib.hid (HK49.out.carry hbg55)
  clear HK49
  have HK60 := Lib.hid (HK50.out.carry hbg55)
  clear HK50
  have HK61 := Lib.hid (HK53.out.carry hbg55)
  clear HK53
  have HF62 := Lib.hid (HF51.out.trans (hbg55.mono HF51.out.size))
  clear HF51
  have HF63 := Lib.hid (HF52.out.carry hbg55)
  clear HF52
  clear hBg55 hbg55
  refine wcall (some 54) 42 #[.int .u64 (IntKind.u64.wrap secret), .bool false, .slice (some ⟨g55, 0, none⟩) 121 121] (by kernel_rfl) (by kernel_rfl) (by kernel_rfl) ?_
  refine (run_long (IntKind.u64.wrap secret) _ _ _).mono ?_
  rintro e wz64 ⟨rfl, hbc⟩
  refine ⟨_, rfl, ?_⟩
  have HK65 := Lib.hid (HK57.out.carry hbc)
  clear HK57
  have HK66 := Lib.hid (HK58.out.carry hbc)
  clear HK58
  have HK67 := Lib.hid (HK59.out.carry hbc)
  clear HK59
  have HK68 := Lib.hid (HK60.out.carry hbc)
  clear HK60
  have HK69 := Lib.hid (HK61.out.carry hbc)
  clear HK61
  have HF70 := Lib.hid (HF62.out.trans (hbc.mono HF62.out.size))
  clear HF62
  have HF71 := Lib.hid (HF63.out.carry hbc)
  clear HF63
  clear hbc
  refine wval (some 50) (.tuple #[.slice none 0 0, .agg #[.int .u64 0, .int .i64 0, .int .i64 0, .slice none 0 0, .bool false, .int .i64 0, .int .i64 0, .bool false, .int .i64 0, .int .i64 0, .bool false, .int .i64 0, .int .i64 0, .bool false, .int .i64 0, .int .i64 0, .bool false, .int .i64 0, .slice none 0 0, .slice none 0 0, .int .i64 0], .int .i64 1]) wz64 (by kernel_rfl) (by kernel_rfl) (by kernel_rfl) ?_
  refine wval (some 55) (.slice none 0 0) wz64 (by kernel_rfl) (by kernel_rfl) (by kernel_rfl) ?_
  refine wval (some 56) (.agg #[.int .u64 0, .int .i64 0, .int .i64 0, .slice none 0 0, .bool false, .int .i64 0, .int .i64 0, .bool false, .int .i64 0, .int .i64 0, .bool false, .int .i64 0, .int .i64 0, .bool false, .int .i64 0, .int .i64 0, .bool false, .int .i64 0, .slice none 0 0, .slice none 0 0, .int .i64 0]) wz64 (by kernel_rfl) (by kernel_rfl) (by kernel_rfl) ?_
  refine wval (some 57) (.int .i64 1) wz64 (by kernel_rfl) (by kernel_rfl) (by kernel_rfl) ?_
  refine wnew (some 14) 105 #[.int .u64 0, .int .i64 0, .int .i64 0, .slice none 0 0, .bool false, .int .i64 0, .int .i64 0, .bool false, .int .i64 0, .int .i64 0, .bool false, .int .i64 0, .int .i64 0, .bool false, .int .i64 0, .int .i64 0, .bool false, .int .i64 0, .slice none 0 0, .slice none 0 0, .int .i64 0] (fun q => .pointer (some ⟨q, 0, none⟩)) (by kernel_rfl) (by kernel_rfl) (by kernel_rfl) ?_
  intro wz73 g72 hg72 hBg72 hbg72
  have hneg38g72 : g38 ≠ g72 := by have := HK69.out.lt; omega
  have hlg72 : w.heap.size ≤ g72 := by rw [← hg72]; exact HF70.out.size
  have HK74 := Lib.hid (HK65.out.carry hbg72)
  clear HK65
  have HK75 := Lib.hid (HK66.out.carry hbg72)
  clear HK66
  have HK76 := Lib.hid (HK67.out.carry hbg72)
  clear HK67
  have HK77 := Lib.hid (HK68.out.carry hbg72)
  clear HK68
  have HK78 := Lib.hid (HK69.out.carry hbg72)
  clear HK69
  have HF79 := Lib.hid (HF70.out.trans (hbg72.mono HF70.out.size))
  clear HF70
  have HF80 := Lib.hid (HF71.out.carry hbg72)
  clear HF71
  have HKg72 := Lib.hid hBg72
  clear hBg72 hbg72
  refine wval (some 13) (.slice none 0 0) wz73 (by kernel_rfl) (by kernel_rfl) (by kernel_rfl) ?_
  refine wstoreP (by kernel_rfl) (by kernel_rfl) 105 (.tmp 14) (.tmp 56) (by kernel_rfl) g72 0 (by kernel_rfl) #[.int .u64 0, .int .i64 0, .int .i64 0, .slice none 0 0, .bool false, .int .i64 0, .int .i64 0, .bool false, .int .i64 0, .int .i64 0, .bool false, .int .i64 0, .int .i64 0, .bool false, .int .i64 0, .int .i64 0, .bool false, .int .i64 0, .slice none 0 0, .slice none 0 0, .int .i64 0] (by kernel_rfl) 105 #[.int .u64 0, .int .i64 0, .int .i64 0, .slice none 0 0, .bool false, .int .i64 0, .int .i64 0, .bool false, .int .i64 0, .int .i64 0, .bool false, .int .i64 0, .int .i64 0, .bool false, .int .i64 0, .int .i64 0, .bool false, .int .i64 0, .slice none 0 0, .slice none 0 0, .int .i64 0] HKg72.out (by kernel_rfl) (Nat.le_of_eq (by kernel_rfl)) (all_one (by kernel_rfl)) #[.int .u64 0, .int .i64 0, .int .i64 0, .slice none 0 0, .bool false, .int .i64 0, .int .i64 0, .bool false, .int .i64 0, .int .i64 0, .bool false, .int .i64 0, .int .i64 0, .bool false, .int .i64 0, .int .i64 0, .bool false, .int .i64 0, .slice none 0 0, .slice none 0 0, .int .i64 0] (splice_all _ _ (by kernel_rfl)) ?_
  intro wz81 hBwz81 hwwz81
  have HK82 := Lib.hid (HK74.out.wr hwwz81 (Blk.neq HK74.out HKg72.out (by decide)))
  clear HK74
  have HK83 := Lib.hid (HK75.out.wr hwwz81 (Blk.neq HK75.out HKg72.out (by decide)))
  clear HK75
  have HK84 := Lib.hid (HK76.out.wr hwwz81 (Blk.neq HK76.out HKg72.out (by decide)))
  clear HK76
  have HK85 := Lib.hid (HK77.out.wr hwwz81 (Blk.neq HK77.out HKg72.out (by decide)))
  clear HK77
  have HK86 := Lib.hid (HK78.out.wr hwwz81 hneg38g72)
  clear HK78
  have HF87 := Lib.hid (hwwz81.trans_below HF79.out hlg72)
  clear HF79
  have HF88 := Lib.hid (HF80.out.wr hwwz81 (own_neq HF80.out HKg72.out (by decide)))
  clear HF80
  have HK89 := Lib.hid hBwz81
  clear HKg72
  refine wval (some 15) (.int .i64 1) wz81 (by kernel_rfl) (by kernel_rfl) (by kernel_rfl) ?_
  refine wnil (hKC54 _ _ (?_))
  clear hKC54
  refine wp_seq_k ?_
  intro KC90 hKC90
  obtain ⟨bO, oO, rfl, hcO⟩ := HF88.out.rd.int (by decide)
  have hcO := hcO 0 (by decide)
  refine wp_regionW ?_
  refine wval (some 58) (.int .i64 0) wz81 (by kernel_rfl) (by kernel_rfl) (by kernel_rfl) ?_
  refine wval (some 59) (.bool true) wz81 (by kernel_rfl) (by kernel_rfl) (by kernel_rfl) ?_
  refine wval (some 60) (.bool true) wz81 (by kernel_rfl) (by kernel_rfl) (by kernel_rfl) ?_
  refine wval (some 61) (.slice (some ⟨bO, oO, none⟩) 1 c9) wz81 (by kernel_rfl) (by kernel_rfl) (by kernel_rfl) ?_
  refine wval (some 62) (.int .i64 1) wz81 (by kernel_rfl) (by kernel_rfl) (by kernel_rfl) ?_
  refine wval (some 63) (.bool true) wz81 (by kernel_rfl) (by kernel_rfl) (by kernel_rfl) ?_
  refine wval (some 64) (.bool true) wz81 (by kernel_rfl) (by kernel_rfl) (by kernel_rfl) ?_
  refine wval (some 65) (.bool true) wz81 (by kernel_rfl) (by kernel_rfl) (by kernel_rfl) ?_
  refine wval (some 66) (.slice (some ⟨bO, oO, none⟩) 1 c9) wz81 (by kernel_rfl) (by kernel_rfl) (by kernel_rfl) ?_
  refine widxG (some 67) 101 (.tmp 66) (.const (.int .i64 0)) bO oO 1 c9 .i64 0 1 oO (by kernel_rfl) (by kernel_rfl) (by kernel_rfl) (by kernel_rfl) (by kernel_rfl) Tryz.underlying101 (by kernel_rfl) (by decide) (by decide) (by simp) ?_
  refine wload (some 68) (.int .i64 5) 49 (.tmp 67) bO (oO) _ (by kernel_rfl) (by kernel_rfl) (by kernel_rfl) (by kernel_rfl) Tryz.underlying49 rfl hcO ?_
  refine wval (some 69) (.int .i64 5) wz81 (by kernel_rfl) (by kernel_rfl) (by kernel_rfl) ?_
  refine wval (some 70) (.bool true) wz81 (by kernel_rfl) (by kernel_rfl) (by kernel_rfl) ?_
  refine wval (some 71) (.bool true) wz81 (by kernel_rfl) (by kernel_rfl) (by kernel_rfl) ?_
  refine wval (some 72) (.bool true) wz81 (by kernel_rfl) (by kernel_rfl) (by kernel_rfl) ?_
  refine wval (some 73) (.int .i64 1) wz81 (by kernel_rfl) (by kernel_rfl) (by kernel_rfl) ?_
  refine wval (some 74) (.bool true) wz81 (by kernel_rfl) (by kernel_rfl) (by kernel_rfl) ?_
  refine wval (some 75) (.bool true) wz81 (by kernel_rfl) (by kernel_rfl) (by kernel_rfl) ?_
  refine wval (some 6) (.bool true) wz81 (by kernel_rfl) (by kernel_rfl) (by kernel_rfl) ?_
  refine wnil (hKC90 _ _ (?_))
  clear hKC90
  refine wp_ret ?_
  refine bodyPost_ret (v := .bool true) (by kernel_rfl) rfl ⟨rfl, HF87.out⟩
set_option maxRecDepth 100000 in
set_option maxHeartbeats 4000000 in
theorem bad_4 (secret which k : Int) (hwr : 0 ≤ IntKind.u64.wrap secret ∧ IntKind.u64.wrap secret < 18446744073709551616) (v0 : -9223372036854775808 ≤ which) (v1 : which ≤ 9223372036854775807) (k0 : -9223372036854775808 ≤ k) (k1 : k ≤ 9223372036854775807) (j : Nat) (hj : j < 9) (HW : Hid (which % 8 = 4)) (HK : Hid (k % 9 = (j : Nat))) (w : World) :
    Calls Tryz.prog 14 #[.int .i64 secret, .int .i64 which, .int .i64 k] w fun e w' => e = .returned (.bool true) ∧ Below w.heap.size w w' := by
  have HB0 := Lib.hid (Below.refl w.heap.size w)
  have hs11 : IntKind.i64.wrap ((11 : Int) + (j : Nat)) = (11 : Int) + (j : Nat) := by rw [IntKind.wrap_i64]; omega
  go_enter Tryz.func14, Tryz.ntmps14
  refine wp_seq_k ?_
  intro KC1 hKC1
  refine wp_regionW ?_
  refine wval (some 6) (.bool false) w (by kernel_rfl) (by kernel_rfl) (by kernel_rfl) ?_
  refine wnil (hKC1 _ _ (?_))
  clear hKC1
  refine wp_seq_k ?_
  intro KC2 hKC2
  refine wp_regionW ?_
  refine wval (some 16) (.int .i64 which) w (by kernel_rfl) (by kernel_rfl) (by kernel_rfl) ?_
  refine wcall (some 17) 40 #[.int .i64 which, .int .i64 8] (by kernel_rfl) (by kernel_rfl) (by kernel_rfl) ?_
  refine (pickedK_at _ 8 _ v0 v1 (by decide) (by decide) HW _).mono ?_
  rintro e wz3 ⟨rfl, rfl⟩
  refine ⟨_, rfl, ?_⟩
  refine wval (some 7) (.int .i64 4) w (by kernel_rfl) (by kernel_rfl) (by kernel_rfl) ?_
  refine wnil (hKC2 _ _ (?_))
  clear hKC2
  refine wp_seq_k ?_
  intro KC4 hKC4
  refine wp_regionW ?_
  refine wval (some 18) (.agg #[.int .i64 0, .int .i64 0, .int .i64 0, .int .i64 0, .int .u64 0, .slice none 0 0]) w (by kernel_rfl) (by kernel_rfl) (by kernel_rfl) ?_
  refine wval (some 19) (.int .i64 k) w (by kernel_rfl) (by kernel_rfl) (by kernel_rfl) ?_
  refine wcall (some 20) 40 #[.int .i64 k, .int .i64 9] (by kernel_rfl) (by kernel_rfl) (by kernel_rfl) ?_
  refine (pickedK_at _ 9 _ k0 k1 (by decide) (by decide) HK _).mono ?_
  rintro e wz5 ⟨rfl, rfl⟩
  refine ⟨_, rfl, ?_⟩
  refine wvalE (some 21) (.int .i64 (IntKind.i64.wrap (11 + (j : Nat)))) (.int .i64 (11 + (j : Nat))) w (by rw [hs11]) (by kernel_rfl) (by kernel_rfl) (by kernel_rfl) ?_
  refine wval (some 22) (.agg #[.int .i64 (11 + (j : Nat)), .int .i64 0, .int .i64 0, .int .i64 0, .int .u64 0, .slice none 0 0]) w (by kernel_rfl) (by kernel_rfl) (by kernel_rfl) ?_
  refine wval (some 23) (.int .i64 k) w (by kernel_rfl) (by kernel_rfl) (by kernel_rfl) ?_
  refine wcall (some 24) 40 #[.int .i64 k, .int .i64 9] (by kernel_rfl) (by kernel_rfl) (by kernel_rfl) ?_
  refine (pickedK_at _ 9 _ k0 k1 (by decide) (by decide) HK _).mono ?_
  rintro e wz6 ⟨rfl, rfl⟩
  refine ⟨_, rfl, ?_⟩
  refine wval (some 25) (.agg #[.int .i64 2, .int .i64 0, .int .i64 (j : Nat), .int .i64 0, .int .u64 0, .slice none 0 0]) w (by kernel_rfl) (by kernel_rfl) (by kernel_rfl) ?_
  refine wval (some 26) (.int .i64 k) w (by kernel_rfl) (by kernel_rfl) (by kernel_rfl) ?_
  refine wcall (some 27) 40 #[.int .i64 k, .int .i64 9] (by kernel_rfl) (by kernel_rfl) (by kernel_rfl) ?_
  refine (pickedK_at _ 9 _ k0 k1 (by decide) (by decide) HK _).mono ?_
  rintro e wz7 ⟨rfl, rfl⟩
  refine ⟨_, rfl, ?_⟩
  refine wval (some 28) (.agg #[.int .i64 4, .int .i64 0, .int .i64 (j : Nat), .int .i64 0, .int .u64 0, .slice none 0 0]) w (by kernel_rfl) (by kernel_rfl) (by kernel_rfl) ?_
  refine wval (some 29) (.agg #[.int .i64 8, .int .i64 4, .int .i64 0, .int .i64 0, .int .u64 0, .slice none 0 0]) w (by kernel_rfl) (by kernel_rfl) (by kernel_rfl) ?_
  refine wval (some 30) (.agg #[.int .i64 9, .int .i64 0, .int .i64 0, .int .i64 0, .int .u64 0, .slice none 0 0]) w (by kernel_rfl) (by kernel_rfl) (by kernel_rfl) ?_
  refine wval (some 31) (.agg #[.int .i64 1, .int .i64 (-1), .int .i64 0, .int .i64 0, .int .u64 0, .slice none 0 0]) w (by kernel_rfl) (by kernel_rfl) (by kernel_rfl) ?_
  refine wval (some 32) (.agg #[.int .i64 10, .int .i64 0, .int .i64 0, .int .i64 0, .int .u64 0, .slice none 0 0]) w (by kernel_rfl) (by kernel_rfl) (by kernel_rfl) ?_
  refine wnew (some 33) 99 #[.int .i64 0, .int .i64 0, .int .i64 0, .int .i64 0, .int .u64 0, .slice none 0 0, .int .i64 (11 + (j : Nat)), .int .i64 0, .int .i64 0, .int .i64 0, .int .u64 0, .slice none 0 0, .int .i64 2, .int .i64 0, .int .i64 (j : Nat), .int .i64 0, .int .u64 0, .slice none 0 0, .int .i64 4, .int .i64 0, .int .i64 (j : Nat), .int .i64 0, .int .u64 0, .slice none 0 0, .int .i64 8, .int .i64 4, .int .i64 0, .int .i64 0, .int .u64 0, .slice none 0 0, .int .i64 9, .int .i64 0, .int .i64 0, .int .i64 0, .int .u64 0, .slice none 0 0, .int .i64 1, .int .i64 (-1), .int .i64 0, .int .i64 0, .int .u64 0, .slice none 0 0, .int .i64 10, .int .i64 0, .int .i64 0, .int .i64 0, .int .u64 0, .slice none 0 0] (fun q => .slice (some ⟨q, 0, none⟩) 8 8) (by kernel_rfl) (by kernel_rfl) (by kernel_rfl) ?_
  intro wz9 g8 hg8 hBg8 hbg8
  have HF10 := Lib.hid (HB0.out.trans (hbg8.mono HB0.out.size))
  have HKg8 := Lib.hid hBg8
  clear hBg8 hbg8
  refine wval (some 34) (.int .i64 4) wz9 (by kernel_rfl) (by kernel_rfl) (by kernel_rfl) ?_
  refine widx (some 35) 95 (.tmp 33) (.tmp 34) g8 0 8 8 .i64 4 6 24 (by kernel_rfl) (by kernel_rfl) (by kernel_rfl) (by kernel_rfl) (by kernel_rfl) Tryz.underlying95 (by kernel_rfl) (by decide) (by decide) (by decide) ?_
  refine wloadR (some 36) (by kernel_rfl) (by kernel_rfl) 99 (.tmp 35) (by kernel_rfl) g8 24 (by kernel_rfl) #[.int .i64 8, .int .i64 4, .int .i64 0, .int .i64 0, .int .u64 0, .slice none 0 0] _ Tryz.underlying99 rfl (by kernel_rfl) (HKg8.out.part 24 _ (part_ex (by kernel_rfl))) ?_
  refine wnew (some 8) 99 #[.int .i64 0, .int .i64 0, .int .i64 0, .int .i64 0, .int .u64 0, .slice none 0 0] (fun q => .pointer (some ⟨q, 0, none⟩)) (by kernel_rfl) (by kernel_rfl) (by kernel_rfl) ?_
  intro wz12 g11 hg11 hBg11 hbg11
  have hneg8g11 : g8 ≠ g11 := by have := HKg8.out.lt; omega
  have hlg11 : w.heap.size ≤ g11 := by rw [← hg11]; exact HF10.out.size
  have HK13 := Lib.hid (HKg8.out.carry hbg11)
  clear HKg8
  have HF14 := Lib.hid (HF10.out.trans (hbg11.mono HF10.out.size))
  clear HF10
  have HKg11 := Lib.hid hBg11
  clear hBg11 hbg11
  refine wstoreP (by kernel_rfl) (by kernel_rfl) 99 (.tmp 8) (.tmp 36) (by kernel_rfl) g11 0 (by kernel_rfl) #[.int .i64 8, .int .i64 4, .int .i64 0, .int .i64 0, .int .u64 0, .slice none 0 0] (by kernel_rfl) 99 #[.int .i64 0, .int .i64 0, .int .i64 0, .int .i64 0, .int .u64 0, .slice none 0 0] HKg11.out (by kernel_rfl) (Nat.le_of_eq (by kernel_rfl)) (all_one (by kernel_rfl)) #[.int .i64 8, .int .i64 4, .int .i64 0, .int .i64 0, .int .u64 0, .slice none 0 0] (splice_all _ _ (by kernel_rfl)) ?_
  intro wz15 hBwz15 hwwz15
  have HK16 := Lib.hid (HK13.out.wr hwwz15 hneg8g11)
  clear HK13
  have HF17 := Lib.hid (hwwz15.trans_below HF14.out hlg11)
  clear HF14
  have HK18 := Lib.hid hBwz15
  clear HKg11
  refine wnil (hKC4 _ _ (?_))
  clear hKC4
  refine wp_seq_k ?_
  intro KC19 hKC19
  refine wp_regionW ?_
  refine wnew (some 37) 49 #[.int .i64 2, .int .i64 2, .int .i64 5, .int .i64 5, .int .i64 6, .int .i64 6, .int .i64 6, .int .i64 5] (fun q => .slice (some ⟨q, 0, none⟩) 8 8) (by kernel_rfl) (by kernel_rfl) (by kernel_rfl) ?_
  intro wz21 g20 hg20 hBg20 hbg20
  have HK22 := Lib.hid (HK16.out.carry hbg20)
  clear HK16
  have HK23 := Lib.hid (HK18.out.carry hbg20)
  clear HK18
  have HF24 := Lib.hid (HF17.out.trans (hbg20.mono HF17.out.size))
  clear HF17
  have HKg20 := Lib.hid hBg20
  clear hBg20 hbg20
  refine wval (some 38) (.int .i64 4) wz21 (by kernel_rfl) (by kernel_rfl) (by kernel_rfl) ?_
  refine widx (some 39) 101 (.tmp 37) (.tmp 38) g20 0 8 8 .i64 4 1 4 (by kernel_rfl) (by kernel_rfl) (by kernel_rfl) (by kernel_rfl) (by kernel_rfl) Tryz.underlying101 (by kernel_rfl) (by decide) (by decide) (by decide) ?_
  refine wload (some 40) (.int .i64 6) 49 (.tmp 39) g20 4 _ (by kernel_rfl) (by kernel_rfl) (by kernel_rfl) (by kernel_rfl) Tryz.underlying49 rfl (by rw [HKg20.out.cell]; kernel_rfl) ?_
  refine wval (some 9) (.int .i64 6) wz21 (by kernel_rfl) (by kernel_rfl) (by kernel_rfl) ?_
  refine wnil (hKC19 _ _ (?_))
  clear hKC19
  refine wp_seq_k ?_
  intro KC25 hKC25
  refine wp_regionW ?_
  refine wval (some 42) (.int .i64 secret) wz21 (by kernel_rfl) (by kernel_rfl) (by kernel_rfl) ?_
  refine wval (some 43) (.int .u64 (IntKind.u64.wrap secret)) wz21 (by kernel_rfl) (by kernel_rfl) (by kernel_rfl) ?_
  refine wloadR (some 44) (by kernel_rfl) (by kernel_rfl) 99 (.tmp 8) (by kernel_rfl) g11 0 (by kernel_rfl) #[.int .i64 8, .int .i64 4, .int .i64 0, .int .i64 0, .int .u64 0, .slice none 0 0] _ Tryz.underlying99 rfl (by kernel_rfl) HK23.out.whole ?_
  refine wnew (some 45) 99 #[.int .i64 8, .int .i64 4, .int .i64 0, .int .i64 0, .int .u64 0, .slice none 0 0] (fun q => .slice (some ⟨q, 0, none⟩) 1 1) (by kernel_rfl) (by kernel_rfl) (by kernel_rfl) ?_
  intro wz27 g26 hg26 hBg26 hbg26
  have hneg8g26 : g8 ≠ g26 := by have := HK22.out.lt; omega
  have hneg11g26 : g11 ≠ g26 := by have := HK23.out.lt; omega
  have HK28 := Lib.hid (HK22.out.carry hbg26)
  clear HK22
  have HK29 := Lib.hid (HK23.out.carry hbg26)
  clear HK23
  have HK30 := Lib.hid (HKg20.out.carry hbg26)
  clear HKg20
  have HF31 := Lib.hid (HF24.out.trans (hbg26.mono HF24.out.size))
  clear HF24
  have HKg26 := Lib.hid hBg26
  clear hBg26 hbg26
  refine wcall (some 46) 42 #[.int .u64 (IntKind.u64.wrap secret), .bool false, .slice (some ⟨g26, 0, none⟩) 1 1] (by kernel_rfl) (by kernel_rfl) (by kernel_rfl) ?_
  refine (run_one (IntKind.u64.wrap secret) hwr.1 hwr.2 8 4 0 0 6 g26 _ HKg26.out (fun _ _ _ hG hP => act_inject _ _ _ hP)).mono ?_
  rintro e wz32 ⟨A9, c9, rfl, h1c, hcm, hO9, hbc⟩
  refine ⟨_, rfl, ?_⟩
  have HK33 := Lib.hid (HK28.out.carry hbc)
  clear HK28
  have HK34 := Lib.hid (HK29.out.carry hbc)
  clear HK29
  have HK35 := Lib.hid (HK30.out.carry hbc)
  clear HK30
  have HK36 := Lib.hid (HKg26.out.carry hbc)
  clear HKg26
  have HF37 := Lib.hid (HF31.out.trans (hbc.mono HF31.out.size))
  clear HF31
  clear hbc
  have HO := Lib.hid hO9
  clear hO9
  refine wval (some 41) (.tuple #[.slice A9 1 c9, .agg (wld (gBeg (IntKind.u64.wrap secret)) none 0 0), .int .i64 0]) wz32 (by kernel_rfl) (by kernel_rfl) (by kernel_rfl) ?_
  refine wval (some 47) (.slice A9 1 c9) wz32 (by kernel_rfl) (by kernel_rfl) (by kernel_rfl) ?_
  refine wval (some 48) (.agg (wld (gBeg (IntKind.u64.wrap secret)) none 0 0)) wz32 (by kernel_rfl) (by kernel_rfl) (by kernel_rfl) ?_
  refine wval (some 49) (.int .i64 0) wz32 (by kernel_rfl) (by kernel_rfl) (by kernel_rfl) ?_
  refine wnew (some 11) 105 #[.int .u64 0, .int .i64 0, .int .i64 0, .slice none 0 0, .bool false, .int .i64 0, .int .i64 0, .bool false, .int .i64 0, .int .i64 0, .bool false, .int .i64 0, .int .i64 0, .bool false, .int .i64 0, .int .i64 0, .bool false, .int .i64 0, .slice none 0 0, .slice none 0 0, .int .i64 0] (fun q => .pointer (some ⟨q, 0, none⟩)) (by kernel_rfl) (by kernel_rfl) (by kernel_rfl) ?_
  intro wz39 g38 hg38 hBg38 hbg38
  have hlg38 : w.heap.size ≤ g38 := by rw [← hg38]; exact HF37.out.size
  have HK40 := Lib.hid (HK33.out.carry hbg38)
  clear HK33
  have HK41 := Lib.hid (HK34.out.carry hbg38)
  clear HK34
  have HK42 := Lib.hid (HK35.out.carry hbg38)
  clear HK35
  have HK43 := Lib.hid (HK36.out.carry hbg38)
  clear HK36
  have HF44 := Lib.hid (HF37.out.trans (hbg38.mono HF37.out.size))
  clear HF37
  have HF45 := Lib.hid (HO.out.carry hbg38)
  have HKg38 := Lib.hid hBg38
  clear hBg38 hbg38
  refine wval (some 10) (.slice A9 1 c9) wz39 (by kernel_rfl) (by kernel_rfl) (by kernel_rfl) ?_
  refine wstoreP (by kernel_rfl) (by kernel_rfl) 105 (.tmp 11) (.tmp 48) (by kernel_rfl) g38 0 (by kernel_rfl) (wld (gBeg (IntKind.u64.wrap secret)) none 0 0) (by kernel_rfl) 105 #[.int .u64 0, .int .i64 0, .int .i64 0, .slice none 0 0, .bool false, .int .i64 0, .int .i64 0, .bool false, .int .i64 0, .int .i64 0, .bool false, .int .i64 0, .int .i64 0, .bool false, .int .i64 0, .int .i64 0, .bool false, .int .i64 0, .slice none 0 0, .slice none 0 0, .int .i64 0] HKg38.out (by kernel_rfl) (Nat.le_of_eq (by kernel_rfl)) (all_one (by kernel_rfl)) (wld (gBeg (IntKind.u64.wrap secret)) none 0 0) (splice_all _ _ (by kernel_rfl)) ?_
  intro wz46 hBwz46 hwwz46
  have HK47 := Lib.hid (HK40.out.wr hwwz46 (Blk.neq HK40.out HKg38.out (by decide)))
  clear HK40
  have HK48 := Lib.hid (HK41.out.wr hwwz46 (Blk.neq HK41.out HKg38.out (by decide)))
  clear HK41
  have HK49 := Lib.hid (HK42.out.wr hwwz46 (Blk.neq HK42.out HKg38.out (by decide)))
  clear HK42
  have HK50 := Lib.hid (HK43.out.wr hwwz46 (Blk.neq HK43.out HKg38.out (by decide)))
  clear HK43
  have HF51 := Lib.hid (hwwz46.trans_below HF44.out hlg38)
  clear HF44
  have HF52 := Lib.hid (HF45.out.wr hwwz46 (own_neq HF45.out HKg38.out (by decide)))
  clear HF45
  have HK53 := Lib.hid hBwz46
  clear HKg38
  refine wval (some 12) (.int .i64 0) wz46 (by kernel_rfl) (by kernel_rfl) (by kernel_rfl) ?_
  refine wnil (hKC25 _ _ (?_))
  clear hKC25
  refine wp_seq_k ?_
  intro KC54 hKC54
  refine wp_regionW ?_
  refine wval (some 51) (.int .i64 secret) wz46 (by kernel_rfl) (by kernel_rfl) (by kernel_rfl) ?_
  refine wval (some 52) (.int .u64 (IntKind.u64.wrap secret)) wz46 (by kernel_rfl) (by kernel_rfl) (by kernel_rfl) ?_
  refine wnew (some 53) 99 ((Array.range 726).map (fun i => (#[.int .i64 0, .int .i64 0, .int .i64 0, .int .i64 0, .int .u64 0, .slice none 0 0] : Array Value)[i % 6]!)) (fun q => .slice (some ⟨q, 0, none⟩) 121 121) (by kernel_rfl) (by kernel_rfl) (by kernel_rfl) ?_
  intro wz56 g55 hg55 hBg55 hbg55
  have HK57 := Lib.hid (HK47.out.carry hbg55)
  clear HK47
  have HK58 := Lib.hid (HK48.out.carry hbg55)
  clear HK48
  have HK59 := Lib.hid (HK49.out.carry hbg55)
  clear HK49
  have HK60 := Lib.hid (HK50.out.carry hbg55)
  clear HK50
  have HK61 := Lib.hid (HK53.out.carry hbg55)
  clear HK53
  have HF62 := Lib.hid (HF51.out.trans (hbg55.mono HF51.out.size))
  clear HF51
  have HF63 := Lib.hid (HF52.out.carry hbg55)
  clear HF52
  clear hBg55 hbg55
  refine wcall (some 54) 42 #[.int .u64 (IntKind.u64.wrap secret), .bool false, .slice (some ⟨g55, 0, none⟩) 121 121] (by kernel_rfl) (by kernel_rfl) (by kernel_rfl) ?_
  refine (run_long (IntKind.u64.wrap secret) _ _ _).mono ?_
  rintro e wz64 ⟨rfl, hbc⟩
  refine ⟨_, rfl, ?_⟩
  have HK65 := Lib.hid (HK57.out.carry hbc)
  clear HK57
  have HK66 := Lib.hid (HK58.out.carry hbc)
  clear HK58
  have HK67 := Lib.hid (HK59.out.carry hbc)
  clear HK59
  have HK68 := Lib.hid (HK60.out.carry hbc)
  clear HK60
  have HK69 := Lib.hid (HK61.out.carry hbc)
  clear HK61
  have HF70 := Lib.hid (HF62.out.trans (hbc.mono HF62.out.size))
  clear HF62
  have HF71 := Lib.hid (HF63.out.carry hbc)
  clear HF63
  clear hbc
  refine wval (some 50) (.tuple #[.slice none 0 0, .agg #[.int .u64 0, .int .i64 0, .int .i64 0, .slice none 0 0, .bool false, .int .i64 0, .int .i64 0, .bool false, .int .i64 0, .int .i64 0, .bool false, .int .i64 0, .int .i64 0, .bool false, .int .i64 0, .int .i64 0, .bool false, .int .i64 0, .slice none 0 0, .slice none 0 0, .int .i64 0], .int .i64 1]) wz64 (by kernel_rfl) (by kernel_rfl) (by kernel_rfl) ?_
  refine wval (some 55) (.slice none 0 0) wz64 (by kernel_rfl) (by kernel_rfl) (by kernel_rfl) ?_
  refine wval (some 56) (.agg #[.int .u64 0, .int .i64 0, .int .i64 0, .slice none 0 0, .bool false, .int .i64 0, .int .i64 0, .bool false, .int .i64 0, .int .i64 0, .bool false, .int .i64 0, .int .i64 0, .bool false, .int .i64 0, .int .i64 0, .bool false, .int .i64 0, .slice none 0 0, .slice none 0 0, .int .i64 0]) wz64 (by kernel_rfl) (by kernel_rfl) (by kernel_rfl) ?_
  refine wval (some 57) (.int .i64 1) wz64 (by kernel_rfl) (by kernel_rfl) (by kernel_rfl) ?_
  refine wnew (some 14) 105 #[.int .u64 0, .int .i64 0, .int .i64 0, .slice none 0 0, .bool false, .int .i64 0, .int .i64 0, .bool false, .int .i64 0, .int .i64 0, .bool false, .int .i64 0, .int .i64 0, .bool false, .int .i64 0, .int .i64 0, .bool false, .int .i64 0, .slice none 0 0, .slice none 0 0, .int .i64 0] (fun q => .pointer (some ⟨q, 0, none⟩)) (by kernel_rfl) (by kernel_rfl) (by kernel_rfl) ?_
  intro wz73 g72 hg72 hBg72 hbg72
  have hneg38g72 : g38 ≠ g72 := by have := HK69.out.lt; omega
  have hlg72 : w.heap.size ≤ g72 := by rw [← hg72]; exact HF70.out.size
  have HK74 := Lib.hid (HK65.out.carry hbg72)
  clear HK65
  have HK75 := Lib.hid (HK66.out.carry hbg72)
  clear HK66
  have HK76 := Lib.hid (HK67.out.carry hbg72)
  clear HK67
  have HK77 := Lib.hid (HK68.out.carry hbg72)
  clear HK68
  have HK78 := Lib.hid (HK69.out.carry hbg72)
  clear HK69
  have HF79 := Lib.hid (HF70.out.trans (hbg72.mono HF70.out.size))
  clear HF70
  have HF80 := Lib.hid (HF71.out.carry hbg72)
  clear HF71
  have HKg72 := Lib.hid hBg72
  clear hBg72 hbg72
  refine wval (some 13) (.slice none 0 0) wz73 (by kernel_rfl) (by kernel_rfl) (by kernel_rfl) ?_
  refine wstoreP (by kernel_rfl) (by kernel_rfl) 105 (.tmp 14) (.tmp 56) (by kernel_rfl) g72 0 (by kernel_rfl) #[.int .u64 0, .int .i64 0, .int .i64 0, .slice none 0 0, .bool false, .int .i64 0, .int .i64 0, .bool false, .int .i64 0, .int .i64 0, .bool false, .int .i64 0, .int .i64 0, .bool false, .int .i64 0, .int .i64 0, .bool false, .int .i64 0, .slice none 0 0, .slice none 0 0, .int .i64 0] (by kernel_rfl) 105 #[.int .u64 0, .int .i64 0, .int .i64 0, .slice none 0 0, .bool false, .int .i64 0, .int .i64 0, .bool false, .int .i64 0, .int .i64 0, .bool false, .int .i64 0, .int .i64 0, .bool false, .int .i64 0, .int .i64 0, .bool false, .int .i64 0, .slice none 0 0, .slice none 0 0, .int .i64 0] HKg72.out (by kernel_rfl) (Nat.le_of_eq (by kernel_rfl)) (all_one (by kernel_rfl)) #[.int .u64 0, .int .i64 0, .int .i64 0, .slice none 0 0, .bool false, .int .i64 0, .int .i64 0, .bool false, .int .i64 0, .int .i64 0, .bool false, .int .i64 0, .int .i64 0, .bool false, .int .i64 0, .int .i64 0, .bool false, .int .i64 0, .slice none 0 0, .slice none 0 0, .int .i64 0] (splice_all _ _ (by kernel_rfl)) ?_
  intro wz81 hBwz81 hwwz81
  have HK82 := Lib.hid (HK74.out.wr hwwz81 (Blk.neq HK74.out HKg72.out (by decide)))
  clear HK74
  have HK83 := Lib.hid (HK75.out.wr hwwz81 (Blk.neq HK75.out HKg72.out (by decide)))
  clear HK75
  have HK84 := Lib.hid (HK76.out.wr hwwz81 (Blk.neq HK76.out HKg72.out (by decide)))
  clear HK76
  have HK85 := Lib.hid (HK77.out.wr hwwz81 (Blk.neq HK77.out HKg72.out (by decide)))
  clear HK77
  have HK86 := Lib.hid (HK78.out.wr hwwz81 hneg38g72)
  clear HK78
  have HF87 := Lib.hid (hwwz81.trans_below HF79.out hlg72)
  clear HF79
  have HF88 := Lib.hid (HF80.out.wr hwwz81 (own_neq HF80.out HKg72.out (by decide)))
  clear HF80
  have HK89 := Lib.hid hBwz81
  clear HKg72
  refine wval (some 15) (.int .i64 1) wz81 (by kernel_rfl) (by kernel_rfl) (by kernel_rfl) ?_
  refine wnil (hKC54 _ _ (?_))
  clear hKC54
  refine wp_seq_k ?_
  intro KC90 hKC90
  obtain ⟨bO, oO, rfl, hcO⟩ := HF88.out.rd.int (by decide)
  have hcO := hcO 0 (by decide)
  refine wp_regionW ?_
  refine wval (some 58) (.int .i64 0) wz81 (by kernel_rfl) (by kernel_rfl) (by kernel_rfl) ?_
  refine wval (some 59) (.bool true) wz81 (by kernel_rfl) (by kernel_rfl) (by kernel_rfl) ?_
  refine wval (some 60) (.bool true) wz81 (by kernel_rfl) (by kernel_rfl) (by kernel_rfl) ?_
  refine wval (some 61) (.slice (some ⟨bO, oO, none⟩) 1 c9) wz81 (by kernel_rfl) (by kernel_rfl) (by kernel_rfl) ?_
  refine wval (some 62) (.int .i64 1) wz81 (by kernel_rfl) (by kernel_rfl) (by kernel_rfl) ?_
  refine wval (some 63) (.bool true) wz81 (by kernel_rfl) (by kernel_rfl) (by kernel_rfl) ?_
  refine wval (some 64) (.bool true) wz81 (by kernel_rfl) (by kernel_rfl) (by kernel_rfl) ?_
  refine wval (some 65) (.bool true) wz81 (by kernel_rfl) (by kernel_rfl) (by kernel_rfl) ?_
  refine wval (some 66) (.slice (some ⟨bO, oO, none⟩) 1 c9) wz81 (by kernel_rfl) (by kernel_rfl) (by kernel_rfl) ?_
  refine widxG (some 67) 101 (.tmp 66) (.const (.int .i64 0)) bO oO 1 c9 .i64 0 1 oO (by kernel_rfl) (by kernel_rfl) (by kernel_rfl) (by kernel_rfl) (by kernel_rfl) Tryz.underlying101 (by kernel_rfl) (by decide) (by decide) (by simp) ?_
  refine wload (some 68) (.int .i64 6) 49 (.tmp 67) bO (oO) _ (by kernel_rfl) (by kernel_rfl) (by kernel_rfl) (by kernel_rfl) Tryz.underlying49 rfl hcO ?_
  refine wval (some 69) (.int .i64 6) wz81 (by kernel_rfl) (by kernel_rfl) (by kernel_rfl) ?_
  refine wval (some 70) (.bool true) wz81 (by kernel_rfl) (by kernel_rfl) (by kernel_rfl) ?_
  refine wval (some 71) (.bool true) wz81 (by kernel_rfl) (by kernel_rfl) (by kernel_rfl) ?_
  refine wval (some 72) (.bool true) wz81 (by kernel_rfl) (by kernel_rfl) (by kernel_rfl) ?_
  refine wval (some 73) (.int .i64 1) wz81 (by kernel_rfl) (by kernel_rfl) (by kernel_rfl) ?_
  refine wval (some 74) (.bool true) wz81 (by kernel_rfl) (by kernel_rfl) (by kernel_rfl) ?_
  refine wval (some 75) (.bool true) wz81 (by kernel_rfl) (by kernel_rfl) (by kernel_rfl) ?_
  refine wval (some 6) (.bool true) wz81 (by kernel_rfl) (by kernel_rfl) (by kernel_rfl) ?_
  refine wnil (hKC90 _ _ (?_))
  clear hKC90
  refine wp_ret ?_
  refine bodyPost_ret (v := .bool true) (by kernel_rfl) rfl ⟨rfl, HF87.out⟩
set_option maxRecDepth 100000 in
set_option maxHeartbeats 4000000 in
theorem bad_5 (secret which k : Int) (hwr : 0 ≤ IntKind.u64.wrap secret ∧ IntKind.u64.wrap secret < 18446744073709551616) (v0 : -9223372036854775808 ≤ which) (v1 : which ≤ 9223372036854775807) (k0 : -9223372036854775808 ≤ k) (k1 : k ≤ 9223372036854775807) (j : Nat) (hj : j < 9) (HW : Hid (which % 8 = 5)) (HK : Hid (k % 9 = (j : Nat))) (w : World) :
    Calls Tryz.prog 14 #[.int .i64 secret, .int .i64 which, .int .i64 k] w fun e w' => e = .returned (.bool true) ∧ Below w.heap.size w w' := by
  have HB0 := Lib.hid (Below.refl w.heap.size w)
  have hs11 : IntKind.i64.wrap ((11 : Int) + (j : Nat)) = (11 : Int) + (j : Nat) := by rw [IntKind.wrap_i64]; omega
  go_enter Tryz.func14, Tryz.ntmps14
  refine wp_seq_k ?_
  intro KC1 hKC1
  refine wp_regionW ?_
  refine wval (some 6) (.bool false) w (by kernel_rfl) (by kernel_rfl) (by kernel_rfl) ?_
  refine wnil (hKC1 _ _ (?_))
  clear hKC1
  refine wp_seq_k ?_
  intro KC2 hKC2
  refine wp_regionW ?_
  refine wval (some 16) (.int .i64 which) w (by kernel_rfl) (by kernel_rfl) (by kernel_rfl) ?_
  refine wcall (some 17) 40 #[.int .i64 which, .int .i64 8] (by kernel_rfl) (by kernel_rfl) (by kernel_rfl) ?_
  refine (pickedK_at _ 8 _ v0 v1 (by decide) (by decide) HW _).mono ?_
  rintro e wz3 ⟨rfl, rfl⟩
  refine ⟨_, rfl, ?_⟩
  refine wval (some 7) (.int .i64 5) w (by kernel_rfl) (by kernel_rfl) (by kernel_rfl) ?_
  refine wnil (hKC2 _ _ (?_))
  clear hKC2
  refine wp_seq_k ?_
  intro KC4 hKC4
  refine wp_regionW ?_
  refine wval (some 18) (.agg #[.int .i64 0, .int .i64 0, .int .i64 0, .int .i64 0, .int .u64 0, .slice none 0 0]) w (by kernel_rfl) (by kernel_rfl) (by kernel_rfl) ?_
  refine wval (some 19) (.int .i64 k) w (by kernel_rfl) (by kernel_rfl) (by kernel_rfl) ?_
  refine wcall (some 20) 40 #[.int .i64 k, .int .i64 9] (by kernel_rfl) (by kernel_rfl) (by kernel_rfl) ?_
  refine (pickedK_at _ 9 _ k0 k1 (by decide) (by decide) HK _).mono ?_
  rintro e wz5 ⟨rfl, rfl⟩
  refine ⟨_, rfl, ?_⟩
  refine wvalE (some 21) (.int .i64 (IntKind.i64.wrap (11 + (j : Nat)))) (.int .i64 (11 + (j : Nat))) w (by rw [hs11]) (by kernel_rfl) (by kernel_rfl) (by kernel_rfl) ?_
  refine wval (some 22) (.agg #[.int .i64 (11 + (j : Nat)), .int .i64 0, .int .i64 0, .int .i64 0, .int .u64 0, .slice none 0 0]) w (by kernel_rfl) (by kernel_rfl) (by kernel_rfl) ?_
  refine wval (some 23) (.int .i64 k) w (by kernel_rfl) (by kernel_rfl) (by kernel_rfl) ?_
  refine wcall (some 24) 40 #[.int .i64 k, .int .i64 9] (by kernel_rfl) (by kernel_rfl) (by kernel_rfl) ?_
  refine (pickedK_at _ 9 _ k0 k1 (by decide) (by decide) HK _).mono ?_
  rintro e wz6 ⟨rfl, rfl⟩
  refine ⟨_, rfl, ?_⟩
  refine wval (some 25) (.agg #[.int .i64 2, .int .i64 0, .int .i64 (j : Nat), .int .i64 0, .int .u64 0, .slice none 0 0]) w (by kernel_rfl) (by kernel_rfl) (by kernel_rfl) ?_
  refine wval (some 26) (.int .i64 k) w (by kernel_rfl) (by kernel_rfl) (by kernel_rfl) ?_
  refine wcall (some 27) 40 #[.int .i64 k, .int .i64 9] (by kernel_rfl) (by kernel_rfl) (by kernel_rfl) ?_
  refine (pickedK_at _ 9 _ k0 k1 (by decide) (by decide) HK _).mono ?_
  rintro e wz7 ⟨rfl, rfl⟩
  refine ⟨_, rfl, ?_⟩
  refine wval (some 28) (.agg #[.int .i64 4, .int .i64 0, .int .i64 (j : Nat), .int .i64 0, .int .u64 0, .slice none 0 0]) w (by kernel_rfl) (by kernel_rfl) (by kernel_rfl) ?_
  refine wval (some 29) (.agg #[.int .i64 8, .int .i64 4, .int .i64 0, .int .i64 0, .int .u64 0, .slice none 0 0]) w (by kernel_rfl) (by kernel_rfl) (by kernel_rfl) ?_
  refine wval (some 30) (.agg #[.int .i64 9, .int .i64 0, .int .i64 0, .int .i64 0, .int .u64 0, .slice none 0 0]) w (by kernel_rfl) (by kernel_rfl) (by kernel_rfl) ?_
  refine wval (some 31) (.agg #[.int .i64 1, .int .i64 (-1), .int .i64 0, .int .i64 0, .int .u64 0, .slice none 0 0]) w (by kernel_rfl) (by kernel_rfl) (by kernel_rfl) ?_
  refine wval (some 32) (.agg #[.int .i64 10, .int .i64 0, .int .i64 0, .int .i64 0, .int .u64 0, .slice none 0 0]) w (by kernel_rfl) (by kernel_rfl) (by kernel_rfl) ?_
  refine wnew (some 33) 99 #[.int .i64 0, .int .i64 0, .int .i64 0, .int .i64 0, .int .u64 0, .slice none 0 0, .int .i64 (11 + (j : Nat)), .int .i64 0, .int .i64 0, .int .i64 0, .int .u64 0, .slice none 0 0, .int .i64 2, .int .i64 0, .int .i64 (j : Nat), .int .i64 0, .int .u64 0, .slice none 0 0, .int .i64 4, .int .i64 0, .int .i64 (j : Nat), .int .i64 0, .int .u64 0, .slice none 0 0, .int .i64 8, .int .i64 4, .int .i64 0, .int .i64 0, .int .u64 0, .slice none 0 0, .int .i64 9, .int .i64 0, .int .i64 0, .int .i64 0, .int .u64 0, .slice none 0 0, .int .i64 1, .int .i64 (-1), .int .i64 0, .int .i64 0, .int .u64 0, .slice none 0 0, .int .i64 10, .int .i64 0, .int .i64 0, .int .i64 0, .int .u64 0, .slice none 0 0] (fun q => .slice (some ⟨q, 0, none⟩) 8 8) (by kernel_rfl) (by kernel_rfl) (by kernel_rfl) ?_
  intro wz9 g8 hg8 hBg8 hbg8
  have HF10 := Lib.hid (HB0.out.trans (hbg8.mono HB0.out.size))
  have HKg8 := Lib.hid hBg8
  clear hBg8 hbg8
  refine wval (some 34) (.int .i64 5) wz9 (by kernel_rfl) (by kernel_rfl) (by kernel_rfl) ?_
  refine widx (some 35) 95 (.tmp 33) (.tmp 34) g8 0 8 8 .i64 5 6 30 (by kernel_rfl) (by kernel_rfl) (by kernel_rfl) (by kernel_rfl) (by kernel_rfl) Tryz.underlying95 (by kernel_rfl) (by decide) (by decide) (by decide) ?_
  refine wloadR (some 36) (by kernel_rfl) (by kernel_rfl) 99 (.tmp 35) (by kernel_rfl) g8 30 (by kernel_rfl) #[.int .i64 9, .int .i64 0, .int .i64 0, .int .i64 0, .int .u64 0, .slice none 0 0] _ Tryz.underlying99 rfl (by kernel_rfl) (HKg8.out.part 30 _ (part_ex (by kernel_rfl))) ?_
  refine wnew (some 8) 99 #[.int .i64 0, .int .i64 0, .int .i64 0, .int .i64 0, .int .u64 0, .slice none 0 0] (fun q => .pointer (some ⟨q, 0, none⟩)) (by kernel_rfl) (by kernel_rfl) (by kernel_rfl) ?_
  intro wz12 g11 hg11 hBg11 hbg11
  have hneg8g11 : g8 ≠ g11 := by have := HKg8.out.lt; omega
  have hlg11 : w.heap.size ≤ g11 := by rw [← hg11]; exact HF10.out.size
  have HK13 := Lib.hid (HKg8.out.carry hbg11)
  clear HKg8
  have HF14 := Lib.hid (HF10.out.trans (hbg11.mono HF10.out.size))
  clear HF10
  have HKg11 := Lib.hid hBg11
  clear hBg11 hbg11
  refine wstoreP (by kernel_rfl) (by kernel_rfl) 99 (.tmp 8) (.tmp 36) (by kernel_rfl) g11 0 (by kernel_rfl) #[.int .i64 9, .int .i64 0, .int .i64 0, .int .i64 0, .int .u64 0, .slice none 0 0] (by kernel_rfl) 99 #[.int .i64 0, .int .i64 0, .int .i64 0, .int .i64 0, .int .u64 0, .slice none 0 0] HKg11.out (by kernel_rfl) (Nat.le_of_eq (by kernel_rfl)) (all_one (by kernel_rfl)) #[.int .i64 9, .int .i64 0, .int .i64 0, .int .i64 0, .int .u64 0, .slice none 0 0] (splice_all _ _ (by kernel_rfl)) ?_
  intro wz15 hBwz15 hwwz15
  have HK16 := Lib.hid (HK13.out.wr hwwz15 hneg8g11)
  clear HK13
  have HF17 := Lib.hid (hwwz15.trans_below HF14.out hlg11)
  clear HF14
  have HK18 := Lib.hid hBwz15
  clear HKg11
  refine wnil (hKC4 _ _ (?_))
  clear hKC4
  refine wp_seq_k ?_
  intro KC19 hKC19
  refine wp_regionW ?_
  refine wnew (some 37) 49 #[.int .i64 2, .int .i64 2, .int .i64 5, .int .i64 5, .int .i64 6, .int .i64 6, .int .i64 6, .int .i64 5] (fun q => .slice (some ⟨q, 0, none⟩) 8 8) (by kernel_rfl) (by kernel_rfl) (by kernel_rfl) ?_
  intro wz21 g20 hg20 hBg20 hbg20
  have HK22 := Lib.hid (HK16.out.carry hbg20)
  clear HK16
  have HK23 := Lib.hid (HK18.out.carry hbg20)
  clear HK18
  have HF24 := Lib.hid (HF17.out.trans (hbg20.mono HF17.out.size))
  clear HF17
  have HKg20 := Lib.hid hBg20
  clear hBg20 hbg20
  refine wval (some 38) (.int .i64 5) wz21 (by kernel_rfl) (by kernel_rfl) (by kernel_rfl) ?_
  refine widx (some 39) 101 (.tmp 37) (.tmp 38) g20 0 8 8 .i64 5 1 5 (by kernel_rfl) (by kernel_rfl) (by kernel_rfl) (by kernel_rfl) (by kernel_rfl) Tryz.underlying101 (by kernel_rfl) (by decide) (by decide) (by decide) ?_
  refine wload (some 40) (.int .i64 6) 49 (.tmp 39) g20 5 _ (by kernel_rfl) (by kernel_rfl) (by kernel_rfl) (by kernel_rfl) Tryz.underlying49 rfl (by rw [HKg20.out.cell]; kernel_rfl) ?_
  refine wval (some 9) (.int .i64 6) wz21 (by kernel_rfl) (by kernel_rfl) (by kernel_rfl) ?_
  refine wnil (hKC19 _ _ (?_))
  clear hKC19
  refine wp_seq_k ?_
  intro KC25 hKC25
  refine wp_regionW ?_
  refine wval (some 42) (.int .i64 secret) wz21 (by kernel_rfl) (by kernel_rfl) (by kernel_rfl) ?_
  refine wval (some 43) (.int .u64 (IntKind.u64.wrap secret)) wz21 (by kernel_rfl) (by kernel_rfl) (by kernel_rfl) ?_
  refine wloadR (some 44) (by kernel_rfl) (by kernel_rfl) 99 (.tmp 8) (by kernel_rfl) g11 0 (by kernel_rfl) #[.int .i64 9, .int .i64 0, .int .i64 0, .int .i64 0, .int .u64 0, .slice none 0 0] _ Tryz.underlying99 rfl (by kernel_rfl) HK23.out.whole ?_
  refine wnew (some 45) 99 #[.int .i64 9, .int .i64 0, .int .i64 0, .int .i64 0, .int .u64 0, .slice none 0 0] (fun q => .slice (some ⟨q, 0, none⟩) 1 1) (by kernel_rfl) (by kernel_rfl) (by kernel_rfl) ?_
  intro wz27 g26 hg26 hBg26 hbg26
  have hneg8g26 : g8 ≠ g26 := by have := HK22.out.lt; omega
  have hneg11g26 : g11 ≠ g26 := by have := HK23.out.lt; omega
  have HK28 := Lib.hid (HK22.out.carry hbg26)
  clear HK22
  have HK29 := Lib.hid (HK23.out.carry hbg26)
  clear HK23
  have HK30 := Lib.hid (HKg20.out.carry hbg26)
  clear HKg20
  have HF31 := Lib.hid (HF24.out.trans (hbg26.mono HF24.out.size))
  clear HF24
  have HKg26 := Lib.hid hBg26
  clear hBg26 hbg26
  refine wcall (some 46) 42 #[.int .u64 (IntKind.u64.wrap secret), .bool false, .slice (some ⟨g26, 0, none⟩) 1 1] (by kernel_rfl) (by kernel_rfl) (by kernel_rfl) ?_
  refine (run_one (IntKind.u64.wrap secret) hwr.1 hwr.2 9 0 0 0 6 g26 _ HKg26.out (fun _ _ _ hG hP => act_pass _ hG _ _ hP)).mono ?_
  rintro e wz32 ⟨A9, c9, rfl, h1c, hcm, hO9, hbc⟩
  refine ⟨_, rfl, ?_⟩
  have HK33 := Lib.hid (HK28.out.carry hbc)
  clear HK28
  have HK34 := Lib.hid (HK29.out.carry hbc)
  clear HK29
  have HK35 := Lib.hid (HK30.out.carry hbc)
  clear HK30
  have HK36 := Lib.hid (HKg26.out.carry hbc)
  clear HKg26
  have HF37 := Lib.hid (HF31.out.trans (hbc.mono HF31.out.size))
  clear HF31
  clear hbc
  have HO := Lib.hid hO9
  clear hO9
  refine wval (some 41) (.tuple #[.slice A9 1 c9, .agg (wld (gBeg (IntKind.u64.wrap secret)) none 0 0), .int .i64 0]) wz32 (by kernel_rfl) (by kernel_rfl) (by kernel_rfl) ?_
  refine wval (some 47) (.slice A9 1 c9) wz32 (by kernel_rfl) (by kernel_rfl) (by kernel_rfl) ?_
  refine wval (some 48) (.agg (wld (gBeg (IntKind.u64.wrap secret)) none 0 0)) wz32 (by kernel_rfl) (by kernel_rfl) (by kernel_rfl) ?_
  refine wval (some 49) (.int .i64 0) wz32 (by kernel_rfl) (by kernel_rfl) (by kernel_rfl) ?_
  refine wnew (some 11) 105 #[.int .u64 0, .int .i64 0, .int .i64 0, .slice none 0 0, .bool false, .int .i64 0, .int .i64 0, .bool false, .int .i64 0, .int .i64 0, .bool false, .int .i64 0, .int .i64 0, .bool false, .int .i64 0, .int .i64 0, .bool false, .int .i64 0, .slice none 0 0, .slice none 0 0, .int .i64 0] (fun q => .pointer (some ⟨q, 0, none⟩)) (by kernel_rfl) (by kernel_rfl) (by kernel_rfl) ?_
  intro wz39 g38 hg38 hBg38 hbg38
  have hlg38 : w.heap.size ≤ g38 := by rw [← hg38]; exact HF37.out.size
  have HK40 := Lib.hid (HK33.out.carry hbg38)
  clear HK33
  have HK41 := Lib.hid (HK34.out.carry hbg38)
  clear HK34
  have HK42 := Lib.hid (HK35.out.carry hbg38)
  clear HK35
  have HK43 := Lib.hid (HK36.out.carry hbg38)
  clear HK36
  have HF44 := Lib.hid (HF37.out.trans (hbg38.mono HF37.out.size))
  clear HF37
  have HF45 := Lib.hid (HO.out.carry hbg38)
  have HKg38 := Lib.hid hBg38
  clear hBg38 hbg38
  refine wval (some 10) (.slice A9 1 c9) wz39 (by kernel_rfl) (by kernel_rfl) (by kernel_rfl) ?_
  refine wstoreP (by kernel_rfl) (by kernel_rfl) 105 (.tmp 11) (.tmp 48) (by kernel_rfl) g38 0 (by kernel_rfl) (wld (gBeg (IntKind.u64.wrap secret)) none 0 0) (by kernel_rfl) 105 #[.int .u64 0, .int .i64 0, .int .i64 0, .slice none 0 0, .bool false, .int .i64 0, .int .i64 0, .bool false, .int .i64 0, .int .i64 0, .bool false, .int .i64 0, .int .i64 0, .bool false, .int .i64 0, .int .i64 0, .bool false, .int .i64 0, .slice none 0 0, .slice none 0 0, .int .i64 0] HKg38.out (by kernel_rfl) (Nat.le_of_eq (by kernel_rfl)) (all_one (by kernel_rfl)) (wld (gBeg (IntKind.u64.wrap secret)) none 0 0) (splice_all _ _ (by kernel_rfl)) ?_
  intro wz46 hBwz46 hwwz46
  have HK47 := Lib.hid (HK40.out.wr hwwz46 (Blk.neq HK40.out HKg38.out (by decide)))
  clear HK40
  have HK48 := Lib.hid (HK41.out.wr hwwz46 (Blk.neq HK41.out HKg38.out (by decide)))
  clear HK41
  have HK49 := Lib.hid (HK42.out.wr hwwz46 (Blk.neq HK42.out HKg38.out (by decide)))
  clear HK42
  have HK50 := Lib.hid (HK43.out.wr hwwz46 (Blk.neq HK43.out HKg38.out (by decide)))
  clear HK43
  have HF51 := Lib.hid (hwwz46.trans_below HF44.out hlg38)
  clear HF44
  have HF52 := Lib.hid (HF45.out.wr hwwz46 (own_neq HF45.out HKg38.out (by decide)))
  clear HF45
  have HK53 := Lib.hid hBwz46
  clear HKg38
  refine wval (some 12) (.int .i64 0) wz46 (by kernel_rfl) (by kernel_rfl) (by kernel_rfl) ?_
  refine wnil (hKC25 _ _ (?_))
  clear hKC25
  refine wp_seq_k ?_
  intro KC54 hKC54
  refine wp_regionW ?_
  refine wval (some 51) (.int .i64 secret) wz46 (by kernel_rfl) (by kernel_rfl) (by kernel_rfl) ?_
  refine wval (some 52) (.int .u64 (IntKind.u64.wrap secret)) wz46 (by kernel_rfl) (by kernel_rfl) (by kernel_rfl) ?_
  refine wnew (some 53) 99 ((Array.range 726).map (fun i => (#[.int .i64 0, .int .i64 0, .int .i64 0, .int .i64 0, .int .u64 0, .slice none 0 0] : Array Value)[i % 6]!)) (fun q => .slice (some ⟨q, 0, none⟩) 121 121) (by kernel_rfl) (by kernel_rfl) (by kernel_rfl) ?_
  intro wz56 g55 hg55 hBg55 hbg55
  have HK57 := Lib.hid (HK47.out.carry hbg55)
  clear HK47
  have HK58 := Lib.hid (HK48.out.carry hbg55)
  clear HK48
  have HK59 := Lib.hid (HK49.out.carry hbg55)
  clear HK49
  have HK60 := Lib.hid (HK50.out.carry hbg55)
  clear HK50
  have HK61 := Lib.hid (HK53.out.carry hbg55)
  clear HK53
  have HF62 := Lib.hid (HF51.out.trans (hbg55.mono HF51.out.size))
  clear HF51
  have HF63 := Lib.hid (HF52.out.carry hbg55)
  clear HF52
  clear hBg55 hbg55
  refine wcall (some 54) 42 #[.int .u64 (IntKind.u64.wrap secret), .bool false, .slice (some ⟨g55, 0, none⟩) 121 121] (by kernel_rfl) (by kernel_rfl) (by kernel_rfl) ?_
  refine (run_long (IntKind.u64.wrap secret) _ _ _).mono ?_
  rintro e wz64 ⟨rfl, hbc⟩
  refine ⟨_, rfl, ?_⟩
  have HK65 := Lib.hid (HK57.out.carry hbc)
  clear HK57
  have HK66 := Lib.hid (HK58.out.carry hbc)
  clear HK58
  have HK67 := Lib.hid (HK59.out.carry hbc)
  clear HK59
  have HK68 := Lib.hid (HK60.out.carry hbc)
  clear HK60
  have HK69 := Lib.hid (HK61.out.carry hbc)
  clear HK61
  have HF70 := Lib.hid (HF62.out.trans (hbc.mono HF62.out.size))
  clear HF62
  have HF71 := Lib.hid (HF63.out.carry hbc)
  clear HF63
  clear hbc
  refine wval (some 50) (.tuple #[.slice none 0 0, .agg #[.int .u64 0, .int .i64 0, .int .i64 0, .slice none 0 0, .bool false, .int .i64 0, .int .i64 0, .bool false, .int .i64 0, .int .i64 0, .bool false, .int .i64 0, .int .i64 0, .bool false, .int .i64 0, .int .i64 0, .bool false, .int .i64 0, .slice none 0 0, .slice none 0 0, .int .i64 0], .int .i64 1]) wz64 (by kernel_rfl) (by kernel_rfl) (by kernel_rfl) ?_
  refine wval (some 55) (.slice none 0 0) wz64 (by kernel_rfl) (by kernel_rfl) (by kernel_rfl) ?_
  refine wval (some 56) (.agg #[.int .u64 0, .int .i64 0, .int .i64 0, .slice none 0 0, .bool false, .int .i64 0, .int .i64 0, .bool false, .int .i64 0, .int .i64 0, .bool false, .int .i64 0, .int .i64 0, .bool false, .int .i64 0, .int .i64 0, .bool false, .int .i64 0, .slice none 0 0, .slice none 0 0, .int .i64 0]) wz64 (by kernel_rfl) (by kernel_rfl) (by kernel_rfl) ?_
  refine wval (some 57) (.int .i64 1) wz64 (by kernel_rfl) (by kernel_rfl) (by kernel_rfl) ?_
  refine wnew (some 14) 105 #[.int .u64 0, .int .i64 0, .int .i64 0, .slice none 0 0, .bool false, .int .i64 0, .int .i64 0, .bool false, .int .i64 0, .int .i64 0, .bool false, .int .i64 0, .int .i64 0, .bool false, .int .i64 0, .int .i64 0, .bool false, .int .i64 0, .slice none 0 0, .slice none 0 0, .int .i64 0] (fun q => .pointer (some ⟨q, 0, none⟩)) (by kernel_rfl) (by kernel_rfl) (by kernel_rfl) ?_
  intro wz73 g72 hg72 hBg72 hbg72
  have hneg38g72 : g38 ≠ g72 := by have := HK69.out.lt; omega
  have hlg72 : w.heap.size ≤ g72 := by rw [← hg72]; exact HF70.out.size
  have HK74 := Lib.hid (HK65.out.carry hbg72)
  clear HK65
  have HK75 := Lib.hid (HK66.out.carry hbg72)
  clear HK66
  have HK76 := Lib.hid (HK67.out.carry hbg72)
  clear HK67
  have HK77 := Lib.hid (HK68.out.carry hbg72)
  clear HK68
  have HK78 := Lib.hid (HK69.out.carry hbg72)
  clear HK69
  have HF79 := Lib.hid (HF70.out.trans (hbg72.mono HF70.out.size))
  clear HF70
  have HF80 := Lib.hid (HF71.out.carry hbg72)
  clear HF71
  have HKg72 := Lib.hid hBg72
  clear hBg72 hbg72
  refine wval (some 13) (.slice none 0 0) wz73 (by kernel_rfl) (by kernel_rfl) (by kernel_rfl) ?_
  refine wstoreP (by kernel_rfl) (by kernel_rfl) 105 (.tmp 14) (.tmp 56) (by kernel_rfl) g72 0 (by kernel_rfl) #[.int .u64 0, .int .i64 0, .int .i64 0, .slice none 0 0, .bool false, .int .i64 0, .int .i64 0, .bool false, .int .i64 0, .int .i64 0, .bool false, .int .i64 0, .int .i64 0, .bool false, .int .i64 0, .int .i64 0, .bool false, .int .i64 0, .slice none 0 0, .slice none 0 0, .int .i64 0] (by kernel_rfl) 105 #[.int .u64 0, .int .i64 0, .int .i64 0, .slice none 0 0, .bool false, .int .i64 0, .int .i64 0, .bool false, .int .i64 0, .int .i64 0, .bool false, .int .i64 0, .int .i64 0, .bool false, .int .i64 0, .int .i64 0, .bool false, .int .i64 0, .slice none 0 0, .slice none 0 0, .int .i64 0] HKg72.out (by kernel_rfl) (Nat.le_of_eq (by kernel_rfl)) (all_one (by kernel_rfl)) #[.int .u64 0, .int .i64 0, .int .i64 0, .slice none 0 0, .bool false, .int .i64 0, .int .i64 0, .bool false, .int .i64 0, .int .i64 0, .bool false, .int .i64 0, .int .i64 0, .bool false, .int .i64 0, .int .i64 0, .bool false, .int .i64 0, .slice none 0 0, .slice none 0 0, .int .i64 0] (splice_all _ _ (by kernel_rfl)) ?_
  intro wz81 hBwz81 hwwz81
  have HK82 := Lib.hid (HK74.out.wr hwwz81 (Blk.neq HK74.out HKg72.out (by decide)))
  clear HK74
  have HK83 := Lib.hid (HK75.out.wr hwwz81 (Blk.neq HK75.out HKg72.out (by decide)))
  clear HK75
  have HK84 := Lib.hid (HK76.out.wr hwwz81 (Blk.neq HK76.out HKg72.out (by decide)))
  clear HK76
  have HK85 := Lib.hid (HK77.out.wr hwwz81 (Blk.neq HK77.out HKg72.out (by decide)))
  clear HK77
  have HK86 := Lib.hid (HK78.out.wr hwwz81 hneg38g72)
  clear HK78
  have HF87 := Lib.hid (hwwz81.trans_below HF79.out hlg72)
  clear HF79
  have HF88 := Lib.hid (HF80.out.wr hwwz81 (own_neq HF80.out HKg72.out (by decide)))
  clear HF80
  have HK89 := Lib.hid hBwz81
  clear HKg72
  refine wval (some 15) (.int .i64 1) wz81 (by kernel_rfl) (by kernel_rfl) (by kernel_rfl) ?_
  refine wnil (hKC54 _ _ (?_))
  clear hKC54
  refine wp_seq_k ?_
  intro KC90 hKC90
  obtain ⟨bO, oO, rfl, hcO⟩ := HF88.out.rd.int (by decide)
  have hcO := hcO 0 (by decide)
  refine wp_regionW ?_
  refine wval (some 58) (.int .i64 0) wz81 (by kernel_rfl) (by kernel_rfl) (by kernel_rfl) ?_
  refine wval (some 59) (.bool true) wz81 (by kernel_rfl) (by kernel_rfl) (by kernel_rfl) ?_
  refine wval (some 60) (.bool true) wz81 (by kernel_rfl) (by kernel_rfl) (by kernel_rfl) ?_
  refine wval (some 61) (.slice (some ⟨bO, oO, none⟩) 1 c9) wz81 (by kernel_rfl) (by kernel_rfl) (by kernel_rfl) ?_
  refine wval (some 62) (.int .i64 1) wz81 (by kernel_rfl) (by kernel_rfl) (by kernel_rfl) ?_
  refine wval (some 63) (.bool true) wz81 (by kernel_rfl) (by kernel_rfl) (by kernel_rfl) ?_
  refine wval (some 64) (.bool true) wz81 (by kernel_rfl) (by kernel_rfl) (by kernel_rfl) ?_
  refine wval (some 65) (.bool true) wz81 (by kernel_rfl) (by kernel_rfl) (by kernel_rfl) ?_
  refine wval (some 66) (.slice (some ⟨bO, oO, none⟩) 1 c9) wz81 (by kernel_rfl) (by kernel_rfl) (by kernel_rfl) ?_
  refine widxG (some 67) 101 (.tmp 66) (.const (.int .i64 0)) bO oO 1 c9 .i64 0 1 oO (by kernel_rfl) (by kernel_rfl) (by kernel_rfl) (by kernel_rfl) (by kernel_rfl) Tryz.underlying101 (by kernel_rfl) (by decide) (by decide) (by simp) ?_
  refine wload (some 68) (.int .i64 6) 49 (.tmp 67) bO (oO) _ (by kernel_rfl) (by kernel_rfl) (by kernel_rfl) (by kernel_rfl) Tryz.underlying49 rfl hcO ?_
  refine wval (some 69) (.int .i64 6) wz81 (by kernel_rfl) (by kernel_rfl) (by kernel_rfl) ?_
  refine wval (some 70) (.bool true) wz81 (by kernel_rfl) (by kernel_rfl) (by kernel_rfl) ?_
  refine wval (some 71) (.bool true) wz81 (by kernel_rfl) (by kernel_rfl) (by kernel_rfl) ?_
  refine wval (some 72) (.bool true) wz81 (by kernel_rfl) (by kernel_rfl) (by kernel_rfl) ?_
  refine wval (some 73) (.int .i64 1) wz81 (by kernel_rfl) (by kernel_rfl) (by kernel_rfl) ?_
  refine wval (some 74) (.bool true) wz81 (by kernel_rfl) (by kernel_rfl) (by kernel_rfl) ?_
  refine wval (some 75) (.bool true) wz81 (by kernel_rfl) (by kernel_rfl) (by kernel_rfl) ?_
  refine wval (some 6) (.bool true) wz81 (by kernel_rfl) (by kernel_rfl) (by kernel_rfl) ?_
  refine wnil (hKC90 _ _ (?_))
  clear hKC90
  refine wp_ret ?_
  refine bodyPost_ret (v := .bool true) (by kernel_rfl) rfl ⟨rfl, HF87.out⟩
set_option maxRecDepth 100000 in
set_option maxHeartbeats 4000000 in
theorem bad_6 (secret which k : Int) (hwr : 0 ≤ IntKind.u64.wrap secret ∧ IntKind.u64.wrap secret < 18446744073709551616) (v0 : -9223372036854775808 ≤ which) (v1 : which ≤ 9223372036854775807) (k0 : -9223372036854775808 ≤ k) (k1 : k ≤ 9223372036854775807) (j : Nat) (hj : j < 9) (HW : Hid (which % 8 = 6)) (HK : Hid (k % 9 = (j : Nat))) (w : World) :
    Calls Tryz.prog 14 #[.int .i64 secret, .int .i64 which, .int .i64 k] w fun e w' => e = .returned (.bool true) ∧ Below w.heap.size w w' := by
  have HB0 := Lib.hid (Below.refl w.heap.size w)
  have hs11 : IntKind.i64.wrap ((11 : Int) + (j : Nat)) = (11 : Int) + (j : Nat) := by rw [IntKind.wrap_i64]; omega
  go_enter Tryz.func14, Tryz.ntmps14
  refine wp_seq_k ?_
  intro KC1 hKC1
  refine wp_regionW ?_
  refine wval (some 6) (.bool false) w (by kernel_rfl) (by kernel_rfl) (by kernel_rfl) ?_
  refine wnil (hKC1 _ _ (?_))
  clear hKC1
  refine wp_seq_k ?_
  intro KC2 hKC2
  refine wp_regionW ?_
  refine wval (some 16) (.int .i64 which) w (by kernel_rfl) (by kernel_rfl) (by kernel_rfl) ?_
  refine wcall (some 17) 40 #[.int .i64 which, .int .i64 8] (by kernel_rfl) (by kernel_rfl) (by kernel_rfl) ?_
  refine (pickedK_at _ 8 _ v0 v1 (by decide) (by decide) HW _).mono ?_
  rintro e wz3 ⟨rfl, rfl⟩
  refine ⟨_, rfl, ?_⟩
  refine wval (some 7) (.int .i64 6) w (by kernel_rfl) (by kernel_rfl) (by kernel_rfl) ?_
  refine wnil (hKC2 _ _ (?_))
  clear hKC2
  refine wp_seq_k ?_
  intro KC4 hKC4
  refine wp_regionW ?_
  refine wval (some 18) (.agg #[.int .i64 0, .int .i64 0, .int .i64 0, .int .i64 0, .int .u64 0, .slice none 0 0]) w (by kernel_rfl) (by kernel_rfl) (by kernel_rfl) ?_
  refine wval (some 19) (.int .i64 k) w (by kernel_rfl) (by kernel_rfl) (by kernel_rfl) ?_
  refine wcall (some 20) 40 #[.int .i64 k, .int .i64 9] (by kernel_rfl) (by kernel_rfl) (by kernel_rfl) ?_
  refine (pickedK_at _ 9 _ k0 k1 (by decide) (by decide) HK _).mono ?_
  rintro e wz5 ⟨rfl, rfl⟩
  refine ⟨_, rfl, ?_⟩
  refine wvalE (some 21) (.int .i64 (IntKind.i64.wrap (11 + (j : Nat)))) (.int .i64 (11 + (j : Nat))) w (by rw [hs11]) (by kernel_rfl) (by kernel_rfl) (by kernel_rfl) ?_
  refine wval (some 22) (.agg #[.int .i64 (11 + (j : Nat)), .int .i64 0, .int .i64 0, .int .i64 0, .int .u64 0, .slice none 0 0]) w (by kernel_rfl) (by kernel_rfl) (by kernel_rfl) ?_
  refine wval (some 23) (.int .i64 k) w (by kernel_rfl) (by kernel_rfl) (by kernel_rfl) ?_
  refine wcall (some 24) 40 #[.int .i64 k, .int .i64 9] (by kernel_rfl) (by kernel_rfl) (by kernel_rfl) ?_
  refine (pickedK_at _ 9 _ k0 k1 (by decide) (by decide) HK _).mono ?_
  rintro e wz6 ⟨rfl, rfl⟩
  refine ⟨_, rfl, ?_⟩
  refine wval (some 25) (.agg #[.int .i64 2, .int .i64 0, .int .i64 (j : Nat), .int .i64 0, .int .u64 0, .slice none 0 0]) w (by kernel_rfl) (by kernel_rfl) (by kernel_rfl) ?_
  refine wval (some 26) (.int .i64 k) w (by kernel_rfl) (by kernel_rfl) (by kernel_rfl) ?_
  refine wcall (some 27) 40 #[.int .i64 k, .int .i64 9] (by kernel_rfl) (by kernel_rfl) (by kernel_rfl) ?_
  refine (pickedK_at _ 9 _ k0 k1 (by decide) (by decide) HK _).mono ?_
  rintro e wz7 ⟨rfl, rfl⟩
  refine ⟨_, rfl, ?_⟩
  refine wval (some 28) (.agg #[.int .i64 4, .int .i64 0, .int .i64 (j : Nat), .int .i64 0, .int .u64 0, .slice none 0 0]) w (by kernel_rfl) (by kernel_rfl) (by kernel_rfl) ?_
  refine wval (some 29) (.agg #[.int .i64 8, .int .i64 4, .int .i64 0, .int .i64 0, .int .u64 0, .slice none 0 0]) w (by kernel_rfl) (by kernel_rfl) (by kernel_rfl) ?_
  refine wval (some 30) (.agg #[.int .i64 9, .int .i64 0, .int .i64 0, .int .i64 0, .int .u64 0, .slice none 0 0]) w (by kernel_rfl) (by kernel_rfl) (by kernel_rfl) ?_
  refine wval (some 31) (.agg #[.int .i64 1, .int .i64 (-1), .int .i64 0, .int .i64 0, .int .u64 0, .slice none 0 0]) w (by kernel_rfl) (by kernel_rfl) (by kernel_rfl) ?_
  refine wval (some 32) (.agg #[.int .i64 10, .int .i64 0, .int .i64 0, .int .i64 0, .int .u64 0, .slice none 0 0]) w (by kernel_rfl) (by kernel_rfl) (by kernel_rfl) ?_
  refine wnew (some 33) 99 #[.int .i64 0, .int .i64 0, .int .i64 0, .int .i64 0, .int .u64 0, .slice none 0 0, .int .i64 (11 + (j : Nat)), .int .i64 0, .int .i64 0, .int .i64 0, .int .u64 0, .slice none 0 0, .int .i64 2, .int .i64 0, .int .i64 (j : Nat), .int .i64 0, .int .u64 0, .slice none 0 0, .int .i64 4, .int .i64 0, .int .i64 (j : Nat), .int .i64 0, .int .u64 0, .slice none 0 0, .int .i64 8, .int .i64 4, .int .i64 0, .int .i64 0, .int .u64 0, .slice none 0 0, .int .i64 9, .int .i64 0, .int .i64 0, .int .i64 0, .int .u64 0, .slice none 0 0, .int .i64 1, .int .i64 (-1), .int .i64 0, .int .i64 0, .int .u64 0, .slice none 0 0, .int .i64 10, .int .i64 0, .int .i64 0, .int .i64 0, .int .u64 0, .slice none 0 0] (fun q => .slice (some ⟨q, 0, none⟩) 8 8) (by kernel_rfl) (by kernel_rfl) (by kernel_rfl) ?_
  intro wz9 g8 hg8 hBg8 hbg8
  have HF10 := Lib.hid (HB0.out.trans (hbg8.mono HB0.out.size))
  have HKg8 := Lib.hid hBg8
  clear hBg8 hbg8
  refine wval (some 34) (.int .i64 6) wz9 (by kernel_rfl) (by kernel_rfl) (by kernel_rfl) ?_
  refine widx (some 35) 95 (.tmp 33) (.tmp 34) g8 0 8 8 .i64 6 6 36 (by kernel_rfl) (by kernel_rfl) (by kernel_rfl) (by kernel_rfl) (by kernel_rfl) Tryz.underlying95 (by kernel_rfl) (by decide) (by decide) (by decide) ?_
  refine wloadR (some 36) (by kernel_rfl) (by kernel_rfl) 99 (.tmp 35) (by kernel_rfl) g8 36 (by kernel_rfl) #[.int .i64 1, .int .i64 (-1), .int .i64 0, .int .i64 0, .int .u64 0, .slice none 0 0] _ Tryz.underlying99 rfl (by kernel_rfl) (HKg8.out.part 36 _ (part_ex (by kernel_rfl))) ?_
  refine wnew (some 8) 99 #[.int .i64 0, .int .i64 0, .int .i64 0, .int .i64 0, .int .u64 0, .slice none 0 0] (fun q => .pointer (some ⟨q, 0, none⟩)) (by kernel_rfl) (by kernel_rfl) (by kernel_rfl) ?_
  intro wz12 g11 hg11 hBg11 hbg11
  have hneg8g11 : g8 ≠ g11 := by have := HKg8.out.lt; omega
  have hlg11 : w.heap.size ≤ g11 := by rw [← hg11]; exact HF10.out.size
  have HK13 := Lib.hid (HKg8.out.carry hbg11)
  clear HKg8
  have HF14 := Lib.hid (HF10.out.trans (hbg11.mono HF10.out.size))
  clear HF10
  have HKg11 := Lib.hid hBg11
  clear hBg11 hbg11
  refine wstoreP (by kernel_rfl) (by kernel_rfl) 99 (.tmp 8) (.tmp 36) (by kernel_rfl) g11 0 (by kernel_rfl) #[.int .i64 1, .int .i64 (-1), .int .i64 0, .int .i64 0, .int .u64 0, .slice none 0 0] (by kernel_rfl) 99 #[.int .i64 0, .int .i64 0, .int .i64 0, .int .i64 0, .int .u64 0, .slice none 0 0] HKg11.out (by kernel_rfl) (Nat.le_of_eq (by kernel_rfl)) (all_one (by kernel_rfl)) #[.int .i64 1, .int .i64 (-1), .int .i64 0, .int .i64 0, .int .u64 0, .slice none 0 0] (splice_all _ _ (by kernel_rfl)) ?_
  intro wz15 hBwz15 hwwz15
  have HK16 := Lib.hid (HK13.out.wr hwwz15 hneg8g11)
  clear HK13
  have HF17 := Lib.hid (hwwz15.trans_below HF14.out hlg11)
  clear HF14
  have HK18 := Lib.hid hBwz15
  clear HKg11
  refine wnil (hKC4 _ _ (?_))
  clear hKC4
  refine wp_seq_k ?_
  intro KC19 hKC19
  refine wp_regionW ?_
  refine wnew (some 37) 49 #[.int .i64 2, .int .i64 2, .int .i64 5, .int .i64 5, .int .i64 6, .int .i64 6, .int .i64 6, .int .i64 5] (fun q => .slice (some ⟨q, 0, none⟩) 8 8) (by kernel_rfl) (by kernel_rfl) (by kernel_rfl) ?_
  intro wz21 g20 hg20 hBg20 hbg20
  have HK22 := Lib.hid (HK16.out.carry hbg20)
  clear HK16
  have HK23 := Lib.hid (HK18.out.carry hbg20)
  clear HK18
  have HF24 := Lib.hid (HF17.out.trans (hbg20.mono HF17.out.size))
  clear HF17
  have HKg20 := Lib.hid hBg20
  clear hBg20 hbg20
  refine wval (some 38) (.int .i64 6) wz21 (by kernel_rfl) (by kernel_rfl) (by kernel_rfl) ?_
  refine widx (some 39) 101 (.tmp 37) (.tmp 38) g20 0 8 8 .i64 6 1 6 (by kernel_rfl) (by kernel_rfl) (by kernel_rfl) (by kernel_rfl) (by kernel_rfl) Tryz.underlying101 (by kernel_rfl) (by decide) (by decide) (by decide) ?_
  refine wload (some 40) (.int .i64 6) 49 (.tmp 39) g20 6 _ (by kernel_rfl) (by kernel_rfl) (by kernel_rfl) (by kernel_rfl) Tryz.underlying49 rfl (by rw [HKg20.out.cell]; kernel_rfl) ?_
  refine wval (some 9) (.int .i64 6) wz21 (by kernel_rfl) (by kernel_rfl) (by kernel_rfl) ?_
  refine wnil (hKC19 _ _ (?_))
  clear hKC19
  refine wp_seq_k ?_
  intro KC25 hKC25
  refine wp_regionW ?_
  refine wval (some 42) (.int .i64 secret) wz21 (by kernel_rfl) (by kernel_rfl) (by kernel_rfl) ?_
  refine wval (some 43) (.int .u64 (IntKind.u64.wrap secret)) wz21 (by kernel_rfl) (by kernel_rfl) (by kernel_rfl) ?_
  refine wloadR (some 44) (by kernel_rfl) (by kernel_rfl) 99 (.tmp 8) (by kernel_rfl) g11 0 (by kernel_rfl) #[.int .i64 1, .int .i64 (-1), .int .i64 0, .int .i64 0, .int .u64 0, .slice none 0 0] _ Tryz.underlying99 rfl (by kernel_rfl) HK23.out.whole ?_
  refine wnew (some 45) 99 #[.int .i64 1, .int .i64 (-1), .int .i64 0, .int .i64 0, .int .u64 0, .slice none 0 0] (fun q => .slice (some ⟨q, 0, none⟩) 1 1) (by kernel_rfl) (by kernel_rfl) (by kernel_rfl) ?_
  intro wz27 g26 hg26 hBg26 hbg26
  have hneg8g26 : g8 ≠ g26 := by have := HK22.out.lt; omega
  have hneg11g26 : g11 ≠ g26 := by have := HK23.out.lt; omega
  have HK28 := Lib.hid (HK22.out.carry hbg26)
  clear HK22
  have HK29 := Lib.hid (HK23.out.carry hbg26)
  clear HK23
  have HK30 := Lib.hid (HKg20.out.carry hbg26)
  clear HKg20
  have HF31 := Lib.hid (HF24.out.trans (hbg26.mono HF24.out.size))
  clear HF24
  have HKg26 := Lib.hid hBg26
  clear hBg26 hbg26
  refine wcall (some 46) 42 #[.int .u64 (IntKind.u64.wrap secret), .bool false, .slice (some ⟨g26, 0, none⟩) 1 1] (by kernel_rfl) (by kernel_rfl) (by kernel_rfl) ?_
  refine (run_one (IntKind.u64.wrap secret) hwr.1 hwr.2 1 (-1) 0 0 6 g26 _ HKg26.out (fun _ _ _ hG hP => act_dial _ _ _ hP)).mono ?_
  rintro e wz32 ⟨A9, c9, rfl, h1c, hcm, hO9, hbc⟩
  refine ⟨_, rfl, ?_⟩
  have HK33 := Lib.hid (HK28.out.carry hbc)
  clear HK28
  have HK34 := Lib.hid (HK29.out.carry hbc)
  clear HK29
  have HK35 := Lib.hid (HK30.out.carry hbc)
  clear HK30
  have HK36 := Lib.hid (HKg26.out.carry hbc)
  clear HKg26
  have HF37 := Lib.hid (HF31.out.trans (hbc.mono HF31.out.size))
  clear HF31
  clear hbc
  have HO := Lib.hid hO9
  clear hO9
  refine wval (some 41) (.tuple #[.slice A9 1 c9, .agg (wld (gBeg (IntKind.u64.wrap secret)) none 0 0), .int .i64 0]) wz32 (by kernel_rfl) (by kernel_rfl) (by kernel_rfl) ?_
  refine wval (some 47) (.slice A9 1 c9) wz32 (by kernel_rfl) (by kernel_rfl) (by kernel_rfl) ?_
  refine wval (some 48) (.agg (wld (gBeg (IntKind.u64.wrap secret)) none 0 0)) wz32 (by kernel_rfl) (by kernel_rfl) (by kernel_rfl) ?_
  refine wval (some 49) (.int .i64 0) wz32 (by kernel_rfl) (by kernel_rfl) (by kernel_rfl) ?_
  refine wnew (some 11) 105 #[.int .u64 0, .int .i64 0, .int .i64 0, .slice none 0 0, .bool false, .int .i64 0, .int .i64 0, .bool false, .int .i64 0, .int .i64 0, .bool false, .int .i64 0, .int .i64 0, .bool false, .int .i64 0, .int .i64 0, .bool false, .int .i64 0, .slice none 0 0, .slice none 0 0, .int .i64 0] (fun q => .pointer (some ⟨q, 0, none⟩)) (by kernel_rfl) (by kernel_rfl) (by kernel_rfl) ?_
  intro wz39 g38 hg38 hBg38 hbg38
  have hlg38 : w.heap.size ≤ g38 := by rw [← hg38]; exact HF37.out.size
  have HK40 := Lib.hid (HK33.out.carry hbg38)
  clear HK33
  have HK41 := Lib.hid (HK34.out.carry hbg38)
  clear HK34
  have HK42 := Lib.hid (HK35.out.carry hbg38)
  clear HK35
  have HK43 := Lib.hid (HK36.out.carry hbg38)
  clear HK36
  have HF44 := Lib.hid (HF37.out.trans (hbg38.mono HF37.out.size))
  clear HF37
  have HF45 := Lib.hid (HO.out.carry hbg38)
  have HKg38 := Lib.hid hBg38
  clear hBg38 hbg38
  refine wval (some 10) (.slice A9 1 c9) wz39 (by kernel_rfl) (by kernel_rfl) (by kernel_rfl) ?_
  refine wstoreP (by kernel_rfl) (by kernel_rfl) 105 (.tmp 11) (.tmp 48) (by kernel_rfl) g38 0 (by kernel_rfl) (wld (gBeg (IntKind.u64.wrap secret)) none 0 0) (by kernel_rfl) 105 #[.int .u64 0, .int .i64 0, .int .i64 0, .slice none 0 0, .bool false, .int .i64 0, .int .i64 0, .bool false, .int .i64 0, .int .i64 0, .bool false, .int .i64 0, .int .i64 0, .bool false, .int .i64 0, .int .i64 0, .bool false, .int .i64 0, .slice none 0 0, .slice none 0 0, .int .i64 0] HKg38.out (by kernel_rfl) (Nat.le_of_eq (by kernel_rfl)) (all_one (by kernel_rfl)) (wld (gBeg (IntKind.u64.wrap secret)) none 0 0) (splice_all _ _ (by kernel_rfl)) ?_
  intro wz46 hBwz46 hwwz46
  have HK47 := Lib.hid (HK40.out.wr hwwz46 (Blk.neq HK40.out HKg38.out (by decide)))
  clear HK40
  have HK48 := Lib.hid (HK41.out.wr hwwz46 (Blk.neq HK41.out HKg38.out (by decide)))
  clear HK41
  have HK49 := Lib.hid (HK42.out.wr hwwz46 (Blk.neq HK42.out HKg38.out (by decide)))
  clear HK42
  have HK50 := Lib.hid (HK43.out.wr hwwz46 (Blk.neq HK43.out HKg38.out (by decide)))
  clear HK43
  have HF51 := Lib.hid (hwwz46.trans_below HF44.out hlg38)
  clear HF44
  have HF52 := Lib.hid (HF45.out.wr hwwz46 (own_neq HF45.out HKg38.out (by decide)))
  clear HF45
  have HK53 := Lib.hid hBwz46
  clear HKg38
  refine wval (some 12) (.int .i64 0) wz46 (by kernel_rfl) (by kernel_rfl) (by kernel_rfl) ?_
  refine wnil (hKC25 _ _ (?_))
  clear hKC25
  refine wp_seq_k ?_
  intro KC54 hKC54
  refine wp_regionW ?_
  refine wval (some 51) (.int .i64 secret) wz46 (by kernel_rfl) (by kernel_rfl) (by kernel_rfl) ?_
  refine wval (some 52) (.int .u64 (IntKind.u64.wrap secret)) wz46 (by kernel_rfl) (by kernel_rfl) (by kernel_rfl) ?_
  refine wnew (some 53) 99 ((Array.range 726).map (fun i => (#[.int .i64 0, .int .i64 0, .int .i64 0, .int .i64 0, .int .u64 0, .slice none 0 0] : Array Value)[i % 6]!)) (fun q => .slice (some ⟨q, 0, none⟩) 121 121) (by kernel_rfl) (by kernel_rfl) (by kernel_rfl) ?_
  intro wz56 g55 hg55 hBg55 hbg55
  have HK57 := Lib.hid (HK47.out.carry hbg55)
  clear HK47
  have HK58 := Lib.hid (HK48.out.carry hbg55)
  clear HK48
  have HK59 := Lib.hid (HK49.out.carry hbg55)
  clear HK49
  have HK60 := Lib.hid (HK50.out.carry hbg55)
  clear HK50
  have HK61 := Lib.hid (HK53.out.carry hbg55)
  clear HK53
  have HF62 := Lib.hid (HF51.out.trans (hbg55.mono HF51.out.size))
  clear HF51
  have HF63 := Lib.hid (HF52.out.carry hbg55)
  clear HF52
  clear hBg55 hbg55
  refine wcall (some 54) 42 #[.int .u64 (IntKind.u64.wrap secret), .bool false, .slice (some ⟨g55, 0, none⟩) 121 121] (by kernel_rfl) (by kernel_rfl) (by kernel_rfl) ?_
  refine (run_long (IntKind.u64.wrap secret) _ _ _).mono ?_
  rintro e wz64 ⟨rfl, hbc⟩
  refine ⟨_, rfl, ?_⟩
  have HK65 := Lib.hid (HK57.out.carry hbc)
  clear HK57
  have HK66 := Lib.hid (HK58.out.carry hbc)
  clear HK58
  have HK67 := Lib.hid (HK59.out.carry hbc)
  clear HK59
  have HK68 := Lib.hid (HK60.out.carry hbc)
  clear HK60
  have HK69 := Lib.hid (HK61.out.carry hbc)
  clear HK61
  have HF70 := Lib.hid (HF62.out.trans (hbc.mono HF62.out.size))
  clear HF62
  have HF71 := Lib.hid (HF63.out.carry hbc)
  clear HF63
  clear hbc
  refine wval (some 50) (.tuple #[.slice none 0 0, .agg #[.int .u64 0, .int .i64 0, .int .i64 0, .slice none 0 0, .bool false, .int .i64 0, .int .i64 0, .bool false, .int .i64 0, .int .i64 0, .bool false, .int .i64 0, .int .i64 0, .bool false, .int .i64 0, .int .i64 0, .bool false, .int .i64 0, .slice none 0 0, .slice none 0 0, .int .i64 0], .int .i64 1]) wz64 (by kernel_rfl) (by kernel_rfl) (by kernel_rfl) ?_
  refine wval (some 55) (.slice none 0 0) wz64 (by kernel_rfl) (by kernel_rfl) (by kernel_rfl) ?_
  refine wval (some 56) (.agg #[.int .u64 0, .int .i64 0, .int .i64 0, .slice none 0 0, .bool false, .int .i64 0, .int .i64 0, .bool false, .int .i64 0, .int .i64 0, .bool false, .int .i64 0, .int .i64 0, .bool false, .int .i64 0, .int .i64 0, .bool false, .int .i64 0, .slice none 0 0, .slice none 0 0, .int .i64 0]) wz64 (by kernel_rfl) (by kernel_rfl) (by kernel_rfl) ?_
  refine wval (some 57) (.int .i64 1) wz64 (by kernel_rfl) (by kernel_rfl) (by kernel_rfl) ?_
  refine wnew (some 14) 105 #[.int .u64 0, .int .i64 0, .int .i64 0, .slice none 0 0, .bool false, .int .i64 0, .int .i64 0, .bool false, .int .i64 0, .int .i64 0, .bool false, .int .i64 0, .int .i64 0, .bool false, .int .i64 0, .int .i64 0, .bool false, .int .i64 0, .slice none 0 0, .slice none 0 0, .int .i64 0] (fun q => .pointer (some ⟨q, 0, none⟩)) (by kernel_rfl) (by kernel_rfl) (by kernel_rfl) ?_
  intro wz73 g72 hg72 hBg72 hbg72
  have hneg38g72 : g38 ≠ g72 := by have := HK69.out.lt; omega
  have hlg72 : w.heap.size ≤ g72 := by rw [← hg72]; exact HF70.out.size
  have HK74 := Lib.hid (HK65.out.carry hbg72)
  clear HK65
  have HK75 := Lib.hid (HK66.out.carry hbg72)
  clear HK66
  have HK76 := Lib.hid (HK67.out.carry hbg72)
  clear HK67
  have HK77 := Lib.hid (HK68.out.carry hbg72)
  clear HK68
  have HK78 := Lib.hid (HK69.out.carry hbg72)
  clear HK69
  have HF79 := Lib.hid (HF70.out.trans (hbg72.mono HF70.out.size))
  clear HF70
  have HF80 := Lib.hid (HF71.out.carry hbg72)
  clear HF71
  have HKg72 := Lib.hid hBg72
  clear hBg72 hbg72
  refine wval (some 13) (.slice none 0 0) wz73 (by kernel_rfl) (by kernel_rfl) (by kernel_rfl) ?_
  refine wstoreP (by kernel_rfl) (by kernel_rfl) 105 (.tmp 14) (.tmp 56) (by kernel_rfl) g72 0 (by kernel_rfl) #[.int .u64 0, .int .i64 0, .int .i64 0, .slice none 0 0, .bool false, .int .i64 0, .int .i64 0, .bool false, .int .i64 0, .int .i64 0, .bool false, .int .i64 0, .int .i64 0, .bool false, .int .i64 0, .int .i64 0, .bool false, .int .i64 0, .slice none 0 0, .slice none 0 0, .int .i64 0] (by kernel_rfl) 105 #[.int .u64 0, .int .i64 0, .int .i64 0, .slice none 0 0, .bool false, .int .i64 0, .int .i64 0, .bool false, .int .i64 0, .int .i64 0, .bool false, .int .i64 0, .int .i64 0, .bool false, .int .i64 0, .int .i64 0, .bool false, .int .i64 0, .slice none 0 0, .slice none 0 0, .int .i64 0] HKg72.out (by kernel_rfl) (Nat.le_of_eq (by kernel_rfl)) (all_one (by kernel_rfl)) #[.int .u64 0, .int .i64 0, .int .i64 0, .slice none 0 0, .bool false, .int .i64 0, .int .i64 0, .bool false, .int .i64 0, .int .i64 0, .bool false, .int .i64 0, .int .i64 0, .bool false, .int .i64 0, .int .i64 0, .bool false, .int .i64 0, .slice none 0 0, .slice none 0 0, .int .i64 0] (splice_all _ _ (by kernel_rfl)) ?_
  intro wz81 hBwz81 hwwz81
  have HK82 := Lib.hid (HK74.out.wr hwwz81 (Blk.neq HK74.out HKg72.out (by decide)))
  clear HK74
  have HK83 := Lib.hid (HK75.out.wr hwwz81 (Blk.neq HK75.out HKg72.out (by decide)))
  clear HK75
  have HK84 := Lib.hid (HK76.out.wr hwwz81 (Blk.neq HK76.out HKg72.out (by decide)))
  clear HK76
  have HK85 := Lib.hid (HK77.out.wr hwwz81 (Blk.neq HK77.out HKg72.out (by decide)))
  clear HK77
  have HK86 := Lib.hid (HK78.out.wr hwwz81 hneg38g72)
  clear HK78
  have HF87 := Lib.hid (hwwz81.trans_below HF79.out hlg72)
  clear HF79
  have HF88 := Lib.hid (HF80.out.wr hwwz81 (own_neq HF80.out HKg72.out (by decide)))
  clear HF80
  have HK89 := Lib.hid hBwz81
  clear HKg72
  refine wval (some 15) (.int .i64 1) wz81 (by kernel_rfl) (by kernel_rfl) (by kernel_rfl) ?_
  refine wnil (hKC54 _ _ (?_))
  clear hKC54
  refine wp_seq_k ?_
  intro KC90 hKC90
  obtain ⟨bO, oO, rfl, hcO⟩ := HF88.out.rd.int (by decide)
  have hcO := hcO 0 (by decide)
  refine wp_regionW ?_
  refine wval (some 58) (.int .i64 0) wz81 (by kernel_rfl) (by kernel_rfl) (by kernel_rfl) ?_
  refine wval (some 59) (.bool true) wz81 (by kernel_rfl) (by kernel_rfl) (by kernel_rfl) ?_
  refine wval (some 60) (.bool true) wz81 (by kernel_rfl) (by kernel_rfl) (by kernel_rfl) ?_
  refine wval (some 61) (.slice (some ⟨bO, oO, none⟩) 1 c9) wz81 (by kernel_rfl) (by kernel_rfl) (by kernel_rfl) ?_
  refine wval (some 62) (.int .i64 1) wz81 (by kernel_rfl) (by kernel_rfl) (by kernel_rfl) ?_
  refine wval (some 63) (.bool true) wz81 (by kernel_rfl) (by kernel_rfl) (by kernel_rfl) ?_
  refine wval (some 64) (.bool true) wz81 (by kernel_rfl) (by kernel_rfl) (by kernel_rfl) ?_
  refine wval (some 65) (.bool true) wz81 (by kernel_rfl) (by kernel_rfl) (by kernel_rfl) ?_
  refine wval (some 66) (.slice (some ⟨bO, oO, none⟩) 1 c9) wz81 (by kernel_rfl) (by kernel_rfl) (by kernel_rfl) ?_
  refine widxG (some 67) 101 (.tmp 66) (.const (.int .i64 0)) bO oO 1 c9 .i64 0 1 oO (by kernel_rfl) (by kernel_rfl) (by kernel_rfl) (by kernel_rfl) (by kernel_rfl) Tryz.underlying101 (by kernel_rfl) (by decide) (by decide) (by simp) ?_
  refine wload (some 68) (.int .i64 6) 49 (.tmp 67) bO (oO) _ (by kernel_rfl) (by kernel_rfl) (by kernel_rfl) (by kernel_rfl) Tryz.underlying49 rfl hcO ?_
  refine wval (some 69) (.int .i64 6) wz81 (by kernel_rfl) (by kernel_rfl) (by kernel_rfl) ?_
  refine wval (some 70) (.bool true) wz81 (by kernel_rfl) (by kernel_rfl) (by kernel_rfl) ?_
  refine wval (some 71) (.bool true) wz81 (by kernel_rfl) (by kernel_rfl) (by kernel_rfl) ?_
  refine wval (some 72) (.bool true) wz81 (by kernel_rfl) (by kernel_rfl) (by kernel_rfl) ?_
  refine wval (some 73) (.int .i64 1) wz81 (by kernel_rfl) (by kernel_rfl) (by kernel_rfl) ?_
  refine wval (some 74) (.bool true) wz81 (by kernel_rfl) (by kernel_rfl) (by kernel_rfl) ?_
  refine wval (some 75) (.bool true) wz81 (by kernel_rfl) (by kernel_rfl) (by kernel_rfl) ?_
  refine wval (some 6) (.bool true) wz81 (by kernel_rfl) (by kernel_rfl) (by kernel_rfl) ?_
  refine wnil (hKC90 _ _ (?_))
  clear hKC90
  refine wp_ret ?_
  refine bodyPost_ret (v := .bool true) (by kernel_rfl) rfl ⟨rfl, HF87.out⟩
set_option maxRecDepth 100000 in
set_option maxHeartbeats 4000000 in
theorem bad_7 (secret which k : Int) (hwr : 0 ≤ IntKind.u64.wrap secret ∧ IntKind.u64.wrap secret < 18446744073709551616) (v0 : -9223372036854775808 ≤ which) (v1 : which ≤ 9223372036854775807) (k0 : -9223372036854775808 ≤ k) (k1 : k ≤ 9223372036854775807) (j : Nat) (hj : j < 9) (HW : Hid (which % 8 = 7)) (HK : Hid (k % 9 = (j : Nat))) (w : World) :
    Calls Tryz.prog 14 #[.int .i64 secret, .int .i64 which, .int .i64 k] w fun e w' => e = .returned (.bool true) ∧ Below w.heap.size w w' := by
  have HB0 := Lib.hid (Below.refl w.heap.size w)
  have hs11 : IntKind.i64.wrap ((11 : Int) + (j : Nat)) = (11 : Int) + (j : Nat) := by rw [IntKind.wrap_i64]; omega
  go_enter Tryz.func14, Tryz.ntmps14
  refine wp_seq_k ?_
  intro KC1 hKC1
  refine wp_regionW ?_
  refine wval (some 6) (.bool false) w (by kernel_rfl) (by kernel_rfl) (by kernel_rfl) ?_
  refine wnil (hKC1 _ _ (?_))
  clear hKC1
  refine wp_seq_k ?_
  intro KC2 hKC2
  refine wp_regionW ?_
  refine wval (some 16) (.int .i64 which) w (by kernel_rfl) (by kernel_rfl) (by kernel_rfl) ?_
  refine wcall (some 17) 40 #[.int .i64 which, .int .i64 8] (by kernel_rfl) (by kernel_rfl) (by kernel_rfl) ?_
  refine (pickedK_at _ 8 _ v0 v1 (by decide) (by decide) HW _).mono ?_
  rintro e wz3 ⟨rfl, rfl⟩
  refine ⟨_, rfl, ?_⟩
  refine wval (some 7) (.int .i64 7) w (by kernel_rfl) (by kernel_rfl) (by kernel_rfl) ?_
  refine wnil (hKC2 _ _ (?_))
  clear hKC2
  refine wp_seq_k ?_
  intro KC4 hKC4
  refine wp_regionW ?_
  refine wval (some 18) (.agg #[.int .i64 0, .int .i64 0, .int .i64 0, .int .i64 0, .int .u64 0, .slice none 0 0]) w (by kernel_rfl) (by kernel_rfl) (by kernel_rfl) ?_
  refine wval (some 19) (.int .i64 k) w (by kernel_rfl) (by kernel_rfl) (by kernel_rfl) ?_
  refine wcall (some 20) 40 #[.int .i64 k, .int .i64 9] (by kernel_rfl) (by kernel_rfl) (by kernel_rfl) ?_
  refine (pickedK_at _ 9 _ k0 k1 (by decide) (by decide) HK _).mono ?_
  rintro e wz5 ⟨rfl, rfl⟩
  refine ⟨_, rfl, ?_⟩
  refine wvalE (some 21) (.int .i64 (IntKind.i64.wrap (11 + (j : Nat)))) (.int .i64 (11 + (j : Nat))) w (by rw [hs11]) (by kernel_rfl) (by kernel_rfl) (by kernel_rfl) ?_
  refine wval (some 22) (.agg #[.int .i64 (11 + (j : Nat)), .int .i64 0, .int .i64 0, .int .i64 0, .int .u64 0, .slice none 0 0]) w (by kernel_rfl) (by kernel_rfl) (by kernel_rfl) ?_
  refine wval (some 23) (.int .i64 k) w (by kernel_rfl) (by kernel_rfl) (by kernel_rfl) ?_
  refine wcall (some 24) 40 #[.int .i64 k, .int .i64 9] (by kernel_rfl) (by kernel_rfl) (by kernel_rfl) ?_
  refine (pickedK_at _ 9 _ k0 k1 (by decide) (by decide) HK _).mono ?_
  rintro e wz6 ⟨rfl, rfl⟩
  refine ⟨_, rfl, ?_⟩
  refine wval (some 25) (.agg #[.int .i64 2, .int .i64 0, .int .i64 (j : Nat), .int .i64 0, .int .u64 0, .slice none 0 0]) w (by kernel_rfl) (by kernel_rfl) (by kernel_rfl) ?_
  refine wval (some 26) (.int .i64 k) w (by kernel_rfl) (by kernel_rfl) (by kernel_rfl) ?_
  refine wcall (some 27) 40 #[.int .i64 k, .int .i64 9] (by kernel_rfl) (by kernel_rfl) (by kernel_rfl) ?_
  refine (pickedK_at _ 9 _ k0 k1 (by decide) (by decide) HK _).mono ?_
  rintro e wz7 ⟨rfl, rfl⟩
  refine ⟨_, rfl, ?_⟩
  refine wval (some 28) (.agg #[.int .i64 4, .int .i64 0, .int .i64 (j : Nat), .int .i64 0, .int .u64 0, .slice none 0 0]) w (by kernel_rfl) (by kernel_rfl) (by kernel_rfl) ?_
  refine wval (some 29) (.agg #[.int .i64 8, .int .i64 4, .int .i64 0, .int .i64 0, .int .u64 0, .slice none 0 0]) w (by kernel_rfl) (by kernel_rfl) (by kernel_rfl) ?_
  refine wval (some 30) (.agg #[.int .i64 9, .int .i64 0, .int .i64 0, .int .i64 0, .int .u64 0, .slice none 0 0]) w (by kernel_rfl) (by kernel_rfl) (by kernel_rfl) ?_
  refine wval (some 31) (.agg #[.int .i64 1, .int .i64 (-1), .int .i64 0, .int .i64 0, .int .u64 0, .slice none 0 0]) w (by kernel_rfl) (by kernel_rfl) (by kernel_rfl) ?_
  refine wval (some 32) (.agg #[.int .i64 10, .int .i64 0, .int .i64 0, .int .i64 0, .int .u64 0, .slice none 0 0]) w (by kernel_rfl) (by kernel_rfl) (by kernel_rfl) ?_
  refine wnew (some 33) 99 #[.int .i64 0, .int .i64 0, .int .i64 0, .int .i64 0, .int .u64 0, .slice none 0 0, .int .i64 (11 + (j : Nat)), .int .i64 0, .int .i64 0, .int .i64 0, .int .u64 0, .slice none 0 0, .int .i64 2, .int .i64 0, .int .i64 (j : Nat), .int .i64 0, .int .u64 0, .slice none 0 0, .int .i64 4, .int .i64 0, .int .i64 (j : Nat), .int .i64 0, .int .u64 0, .slice none 0 0, .int .i64 8, .int .i64 4, .int .i64 0, .int .i64 0, .int .u64 0, .slice none 0 0, .int .i64 9, .int .i64 0, .int .i64 0, .int .i64 0, .int .u64 0, .slice none 0 0, .int .i64 1, .int .i64 (-1), .int .i64 0, .int .i64 0, .int .u64 0, .slice none 0 0, .int .i64 10, .int .i64 0, .int .i64 0, .int .i64 0, .int .u64 0, .slice none 0 0] (fun q => .slice (some ⟨q, 0, none⟩) 8 8) (by kernel_rfl) (by kernel_rfl) (by kernel_rfl) ?_
  intro wz9 g8 hg8 hBg8 hbg8
  have HF10 := Lib.hid (HB0.out.trans (hbg8.mono HB0.out.size))
  have HKg8 := Lib.hid hBg8
  clear hBg8 hbg8
  refine wval (some 34) (.int .i64 7) wz9 (by kernel_rfl) (by kernel_rfl) (by kernel_rfl) ?_
  refine widx (some 35) 95 (.tmp 33) (.tmp 34) g8 0 8 8 .i64 7 6 42 (by kernel_rfl) (by kernel_rfl) (by kernel_rfl) (by kernel_rfl) (by kernel_rfl) Tryz.underlying95 (by kernel_rfl) (by decide) (by decide) (by decide) ?_
  refine wloadR (some 36) (by kernel_rfl) (by kernel_rfl) 99 (.tmp 35) (by kernel_rfl) g8 42 (by kernel_rfl) #[.int .i64 10, .int .i64 0, .int .i64 0, .int .i64 0, .int .u64 0, .slice none 0 0] _ Tryz.underlying99 rfl (by kernel_rfl) (HKg8.out.part 42 _ (part_ex (by kernel_rfl))) ?_
  refine wnew (some 8) 99 #[.int .i64 0, .int .i64 0, .int .i64 0, .int .i64 0, .int .u64 0, .slice none 0 0] (fun q => .pointer (some ⟨q, 0, none⟩)) (by kernel_rfl) (by kernel_rfl) (by kernel_rfl) ?_
  intro wz12 g11 hg11 hBg11 hbg11
  have hneg8g11 : g8 ≠ g11 := by have := HKg8.out.lt; omega
  have hlg11 : w.heap.size ≤ g11 := by rw [← hg11]; exact HF10.out.size
  have HK13 := Lib.hid (HKg8.out.carry hbg11)
  clear HKg8
  have HF14 := Lib.hid (HF10.out.trans (hbg11.mono HF10.out.size))
  clear HF10
  have HKg11 := Lib.hid hBg11
  clear hBg11 hbg11
  refine wstoreP (by kernel_rfl) (by kernel_rfl) 99 (.tmp 8) (.tmp 36) (by kernel_rfl) g11 0 (by kernel_rfl) #[.int .i64 10, .int .i64 0, .int .i64 0, .int .i64 0, .int .u64 0, .slice none 0 0] (by kernel_rfl) 99 #[.int .i64 0, .int .i64 0, .int .i64 0, .int .i64 0, .int .u64 0, .slice none 0 0] HKg11.out (by kernel_rfl) (Nat.le_of_eq (by kernel_rfl)) (all_one (by kernel_rfl)) #[.int .i64 10, .int .i64 0, .int .i64 0, .int .i64 0, .int .u64 0, .slice none 0 0] (splice_all _ _ (by kernel_rfl)) ?_
  intro wz15 hBwz15 hwwz15
  have HK16 := Lib.hid (HK13.out.wr hwwz15 hneg8g11)
  clear HK13
  have HF17 := Lib.hid (hwwz15.trans_below HF14.out hlg11)
  clear HF14
  have HK18 := Lib.hid hBwz15
  clear HKg11
  refine wnil (hKC4 _ _ (?_))
  clear hKC4
  refine wp_seq_k ?_
  intro KC19 hKC19
  refine wp_regionW ?_
  refine wnew (some 37) 49 #[.int .i64 2, .int .i64 2, .int .i64 5, .int .i64 5, .int .i64 6, .int .i64 6, .int .i64 6, .int .i64 5] (fun q => .slice (some ⟨q, 0, none⟩) 8 8) (by kernel_rfl) (by kernel_rfl) (by kernel_rfl) ?_
  intro wz21 g20 hg20 hBg20 hbg20
  have HK22 := Lib.hid (HK16.out.carry hbg20)
  clear HK16
  have HK23 := Lib.hid (HK18.out.carry hbg20)
  clear HK18
  have HF24 := Lib.hid (HF17.out.trans (hbg20.mono HF17.out.size))
  clear HF17
  have HKg20 := Lib.hid hBg20
  clear hBg20 hbg20
  refine wval (some 38) (.int .i64 7) wz21 (by kernel_rfl) (by kernel_rfl) (by kernel_rfl) ?_
  refine widx (some 39) 101 (.tmp 37) (.tmp 38) g20 0 8 8 .i64 7 1 7 (by kernel_rfl) (by kernel_rfl) (by kernel_rfl) (by kernel_rfl) (by kernel_rfl) Tryz.underlying101 (by kernel_rfl) (by decide) (by decide) (by decide) ?_
  refine wload (some 40) (.int .i64 5) 49 (.tmp 39) g20 7 _ (by kernel_rfl) (by kernel_rfl) (by kernel_rfl) (by kernel_rfl) Tryz.underlying49 rfl (by rw [HKg20.out.cell]; kernel_rfl) ?_
  refine wval (some 9) (.int .i64 5) wz21 (by kernel_rfl) (by kernel_rfl) (by kernel_rfl) ?_
  refine wnil (hKC19 _ _ (?_))
  clear hKC19
  refine wp_seq_k ?_
  intro KC25 hKC25
  refine wp_regionW ?_
  refine wval (some 42) (.int .i64 secret) wz21 (by kernel_rfl) (by kernel_rfl) (by kernel_rfl) ?_
  refine wval (some 43) (.int .u64 (IntKind.u64.wrap secret)) wz21 (by kernel_rfl) (by kernel_rfl) (by kernel_rfl) ?_
  refine wloadR (some 44) (by kernel_rfl) (by kernel_rfl) 99 (.tmp 8) (by kernel_rfl) g11 0 (by kernel_rfl) #[.int .i64 10, .int .i64 0, .int .i64 0, .int .i64 0, .int .u64 0, .slice none 0 0] _ Tryz.underlying99 rfl (by kernel_rfl) HK23.out.whole ?_
  refine wnew (some 45) 99 #[.int .i64 10, .int .i64 0, .int .i64 0, .int .i64 0, .int .u64 0, .slice none 0 0] (fun q => .slice (some ⟨q, 0, none⟩) 1 1) (by kernel_rfl) (by kernel_rfl) (by kernel_rfl) ?_
  intro wz27 g26 hg26 hBg26 hbg26
  have hneg8g26 : g8 ≠ g26 := by have := HK22.out.lt; omega
  have hneg11g26 : g11 ≠ g26 := by have := HK23.out.lt; omega
  have HK28 := Lib.hid (HK22.out.carry hbg26)
  clear HK22
  have HK29 := Lib.hid (HK23.out.carry hbg26)
  clear HK23
  have HK30 := Lib.hid (HKg20.out.carry hbg26)
  clear HKg20
  have HF31 := Lib.hid (HF24.out.trans (hbg26.mono HF24.out.size))
  clear HF24
  have HKg26 := Lib.hid hBg26
  clear hBg26 hbg26
  refine wcall (some 46) 42 #[.int .u64 (IntKind.u64.wrap secret), .bool false, .slice (some ⟨g26, 0, none⟩) 1 1] (by kernel_rfl) (by kernel_rfl) (by kernel_rfl) ?_
  refine (run_one (IntKind.u64.wrap secret) hwr.1 hwr.2 10 0 0 0 5 g26 _ HKg26.out (fun _ _ _ hG hP => act_again _ _ _ hP)).mono ?_
  rintro e wz32 ⟨A9, c9, rfl, h1c, hcm, hO9, hbc⟩
  refine ⟨_, rfl, ?_⟩
  have HK33 := Lib.hid (HK28.out.carry hbc)
  clear HK28
  have HK34 := Lib.hid (HK29.out.carry hbc)
  clear HK29
  have HK35 := Lib.hid (HK30.out.carry hbc)
  clear HK30
  have HK36 := Lib.hid (HKg26.out.carry hbc)
  clear HKg26
  have HF37 := Lib.hid (HF31.out.trans (hbc.mono HF31.out.size))
  clear HF31
  clear hbc
  have HO := Lib.hid hO9
  clear hO9
  refine wval (some 41) (.tuple #[.slice A9 1 c9, .agg (wld (gBeg (IntKind.u64.wrap secret)) none 0 0), .int .i64 0]) wz32 (by kernel_rfl) (by kernel_rfl) (by kernel_rfl) ?_
  refine wval (some 47) (.slice A9 1 c9) wz32 (by kernel_rfl) (by kernel_rfl) (by kernel_rfl) ?_
  refine wval (some 48) (.agg (wld (gBeg (IntKind.u64.wrap secret)) none 0 0)) wz32 (by kernel_rfl) (by kernel_rfl) (by kernel_rfl) ?_
  refine wval (some 49) (.int .i64 0) wz32 (by kernel_rfl) (by kernel_rfl) (by kernel_rfl) ?_
  refine wnew (some 11) 105 #[.int .u64 0, .int .i64 0, .int .i64 0, .slice none 0 0, .bool false, .int .i64 0, .int .i64 0, .bool false, .int .i64 0, .int .i64 0, .bool false, .int .i64 0, .int .i64 0, .bool false, .int .i64 0, .int .i64 0, .bool false, .int .i64 0, .slice none 0 0, .slice none 0 0, .int .i64 0] (fun q => .pointer (some ⟨q, 0, none⟩)) (by kernel_rfl) (by kernel_rfl) (by kernel_rfl) ?_
  intro wz39 g38 hg38 hBg38 hbg38
  have hlg38 : w.heap.size ≤ g38 := by rw [← hg38]; exact HF37.out.size
  have HK40 := Lib.hid (HK33.out.carry hbg38)
  clear HK33
  have HK41 := Lib.hid (HK34.out.carry hbg38)
  clear HK34
  have HK42 := Lib.hid (HK35.out.carry hbg38)
  clear HK35
  have HK43 := Lib.hid (HK36.out.carry hbg38)
  clear HK36
  have HF44 := Lib.hid (HF37.out.trans (hbg38.mono HF37.out.size))
  clear HF37
  have HF45 := Lib.hid (HO.out.carry hbg38)
  have HKg38 := Lib.hid hBg38
  clear hBg38 hbg38
  refine wval (some 10) (.slice A9 1 c9) wz39 (by kernel_rfl) (by kernel_rfl) (by kernel_rfl) ?_
  refine wstoreP (by kernel_rfl) (by kernel_rfl) 105 (.tmp 11) (.tmp 48) (by kernel_rfl) g38 0 (by kernel_rfl) (wld (gBeg (IntKind.u64.wrap secret)) none 0 0) (by kernel_rfl) 105 #[.int .u64 0, .int .i64 0, .int .i64 0, .slice none 0 0, .bool false, .int .i64 0, .int .i64 0, .bool false, .int .i64 0, .int .i64 0, .bool false, .int .i64 0, .int .i64 0, .bool false, .int .i64 0, .int .i64 0, .bool false, .int .i64 0, .slice none 0 0, .slice none 0 0, .int .i64 0] HKg38.out (by kernel_rfl) (Nat.le_of_eq (by kernel_rfl)) (all_one (by kernel_rfl)) (wld (gBeg (IntKind.u64.wrap secret)) none 0 0) (splice_all _ _ (by kernel_rfl)) ?_
  intro wz46 hBwz46 hwwz46
  have HK47 := Lib.hid (HK40.out.wr hwwz46 (Blk.neq HK40.out HKg38.out (by decide)))
  clear HK40
  have HK48 := Lib.hid (HK41.out.wr hwwz46 (Blk.neq HK41.out HKg38.out (by decide)))
  clear HK41
  have HK49 := Lib.hid (HK42.out.wr hwwz46 (Blk.neq HK42.out HKg38.out (by decide)))
  clear HK42
  have HK50 := Lib.hid (HK43.out.wr hwwz46 (Blk.neq HK43.out HKg38.out (by decide)))
  clear HK43
  have HF51 := Lib.hid (hwwz46.trans_below HF44.out hlg38)
  clear HF44
  have HF52 := Lib.hid (HF45.out.wr hwwz46 (own_neq HF45.out HKg38.out (by decide)))
  clear HF45
  have HK53 := Lib.hid hBwz46
  clear HKg38
  refine wval (some 12) (.int .i64 0) wz46 (by kernel_rfl) (by kernel_rfl) (by kernel_rfl) ?_
  refine wnil (hKC25 _ _ (?_))
  clear hKC25
  refine wp_seq_k ?_
  intro KC54 hKC54
  refine wp_regionW ?_
  refine wval (some 51) (.int .i64 secret) wz46 (by kernel_rfl) (by kernel_rfl) (by kernel_rfl) ?_
  refine wval (some 52) (.int .u64 (IntKind.u64.wrap secret)) wz46 (by kernel_rfl) (by kernel_rfl) (by kernel_rfl) ?_
  refine wnew (some 53) 99 ((Array.range 726).map (fun i => (#[.int .i64 0, .int .i64 0, .int .i64 0, .int .i64 0, .int .u64 0, .slice none 0 0] : Array Value)[i % 6]!)) (fun q => .slice (some ⟨q, 0, none⟩) 121 121) (by kernel_rfl) (by kernel_rfl) (by kernel_rfl) ?_
  intro wz56 g55 hg55 hBg55 hbg55
  have HK57 := Lib.hid (HK47.out.carry hbg55)
  clear HK47
  have HK58 := Lib.hid (HK48.out.carry hbg55)
  clear HK48
  have HK59 := Lib.hid (HK49.out.carry hbg55)
  clear HK49
  have HK60 := Lib.hid (HK50.out.carry hbg55)
  clear HK50
  have HK61 := Lib.hid (HK53.out.carry hbg55)
  clear HK53
  have HF62 := Lib.hid (HF51.out.trans (hbg55.mono HF51.out.size))
  clear HF51
  have HF63 := Lib.hid (HF52.out.carry hbg55)
  clear HF52
  clear hBg55 hbg55
  refine wcall (some 54) 42 #[.int .u64 (IntKind.u64.wrap secret), .bool false, .slice (some ⟨g55, 0, none⟩) 121 121] (by kernel_rfl) (by kernel_rfl) (by kernel_rfl) ?_
  refine (run_long (IntKind.u64.wrap secret) _ _ _).mono ?_
  rintro e wz64 ⟨rfl, hbc⟩
  refine ⟨_, rfl, ?_⟩
  have HK65 := Lib.hid (HK57.out.carry hbc)
  clear HK57
  have HK66 := Lib.hid (HK58.out.carry hbc)
  clear HK58
  have HK67 := Lib.hid (HK59.out.carry hbc)
  clear HK59
  have HK68 := Lib.hid (HK60.out.carry hbc)
  clear HK60
  have HK69 := Lib.hid (HK61.out.carry hbc)
  clear HK61
  have HF70 := Lib.hid (HF62.out.trans (hbc.mono HF62.out.size))
  clear HF62
  have HF71 := Lib.hid (HF63.out.carry hbc)
  clear HF63
  clear hbc
  refine wval (some 50) (.tuple #[.slice none 0 0, .agg #[.int .u64 0, .int .i64 0, .int .i64 0, .slice none 0 0, .bool false, .int .i64 0, .int .i64 0, .bool false, .int .i64 0, .int .i64 0, .bool false, .int .i64 0, .int .i64 0, .bool false, .int .i64 0, .int .i64 0, .bool false, .int .i64 0, .slice none 0 0, .slice none 0 0, .int .i64 0], .int .i64 1]) wz64 (by kernel_rfl) (by kernel_rfl) (by kernel_rfl) ?_
  refine wval (some 55) (.slice none 0 0) wz64 (by kernel_rfl) (by kernel_rfl) (by kernel_rfl) ?_
  refine wval (some 56) (.agg #[.int .u64 0, .int .i64 0, .int .i64 0, .slice none 0 0, .bool false, .int .i64 0, .int .i64 0, .bool false, .int .i64 0, .int .i64 0, .bool false, .int .i64 0, .int .i64 0, .bool false, .int .i64 0, .int .i64 0, .bool false, .int .i64 0, .slice none 0 0, .slice none 0 0, .int .i64 0]) wz64 (by kernel_rfl) (by kernel_rfl) (by kernel_rfl) ?_
  refine wval (some 57) (.int .i64 1) wz64 (by kernel_rfl) (by kernel_rfl) (by kernel_rfl) ?_
  refine wnew (some 14) 105 #[.int .u64 0, .int .i64 0, .int .i64 0, .slice none 0 0, .bool false, .int .i64 0, .int .i64 0, .bool false, .int .i64 0, .int .i64 0, .bool false, .int .i64 0, .int .i64 0, .bool false, .int .i64 0, .int .i64 0, .bool false, .int .i64 0, .slice none 0 0, .slice none 0 0, .int .i64 0] (fun q => .pointer (some ⟨q, 0, none⟩)) (by kernel_rfl) (by kernel_rfl) (by kernel_rfl) ?_
  intro wz73 g72 hg72 hBg72 hbg72
  have hneg38g72 : g38 ≠ g72 := by have := HK69.out.lt; omega
  have hlg72 : w.heap.size ≤ g72 := by rw [← hg72]; exact HF70.out.size
  have HK74 := Lib.hid (HK65.out.carry hbg72)
  clear HK65
  have HK75 := Lib.hid (HK66.out.carry hbg72)
  clear HK66
  have HK76 := Lib.hid (HK67.out.carry hbg72)
  clear HK67
  have HK77 := Lib.hid (HK68.out.carry hbg72)
  clear HK68
  have HK78 := Lib.hid (HK69.out.carry hbg72)
  clear HK69
  have HF79 := Lib.hid (HF70.out.trans (hbg72.mono HF70.out.size))
  clear HF70
  have HF80 := Lib.hid (HF71.out.carry hbg72)
  clear HF71
  have HKg72 := Lib.hid hBg72
  clear hBg72 hbg72
  refine wval (some 13) (.slice none 0 0) wz73 (by kernel_rfl) (by kernel_rfl) (by kernel_rfl) ?_
  refine wstoreP (by kernel_rfl) (by kernel_rfl) 105 (.tmp 14) (.tmp 56) (by kernel_rfl) g72 0 (by kernel_rfl) #[.int .u64 0, .int .i64 0, .int .i64 0, .slice none 0 0, .bool false, .int .i64 0, .int .i64 0, .bool false, .int .i64 0, .int .i64 0, .bool false, .int .i64 0, .int .i64 0, .bool false, .int .i64 0, .int .i64 0, .bool false, .int .i64 0, .slice none 0 0, .slice none 0 0, .int .i64 0] (by kernel_rfl) 105 #[.int .u64 0, .int .i64 0, .int .i64 0, .slice none 0 0, .bool false, .int .i64 0, .int .i64 0, .bool false, .int .i64 0, .int .i64 0, .bool false, .int .i64 0, .int .i64 0, .bool false, .int .i64 0, .int .i64 0, .bool false, .int .i64 0, .slice none 0 0, .slice none 0 0, .int .i64 0] HKg72.out (by kernel_rfl) (Nat.le_of_eq (by kernel_rfl)) (all_one (by kernel_rfl)) #[.int .u64 0, .int .i64 0, .int .i64 0, .slice none 0 0, .bool false, .int .i64 0, .int .i64 0, .bool false, .int .i64 0, .int .i64 0, .bool false, .int .i64 0, .int .i64 0, .bool false, .int .i64 0, .int .i64 0, .bool false, .int .i64 0, .slice none 0 0, .slice none 0 0, .int .i64 0] (splice_all _ _ (by kernel_rfl)) ?_
  intro wz81 hBwz81 hwwz81
  have HK82 := Lib.hid (HK74.out.wr hwwz81 (Blk.neq HK74.out HKg72.out (by decide)))
  clear HK74
  have HK83 := Lib.hid (HK75.out.wr hwwz81 (Blk.neq HK75.out HKg72.out (by decide)))
  clear HK75
  have HK84 := Lib.hid (HK76.out.wr hwwz81 (Blk.neq HK76.out HKg72.out (by decide)))
  clear HK76
  have HK85 := Lib.hid (HK77.out.wr hwwz81 (Blk.neq HK77.out HKg72.out (by decide)))
  clear HK77
  have HK86 := Lib.hid (HK78.out.wr hwwz81 hneg38g72)
  clear HK78
  have HF87 := Lib.hid (hwwz81.trans_below HF79.out hlg72)
  clear HF79
  have HF88 := Lib.hid (HF80.out.wr hwwz81 (own_neq HF80.out HKg72.out (by decide)))
  clear HF80
  have HK89 := Lib.hid hBwz81
  clear HKg72
  refine wval (some 15) (.int .i64 1) wz81 (by kernel_rfl) (by kernel_rfl) (by kernel_rfl) ?_
  refine wnil (hKC54 _ _ (?_))
  clear hKC54
  refine wp_seq_k ?_
  intro KC90 hKC90
  obtain ⟨bO, oO, rfl, hcO⟩ := HF88.out.rd.int (by decide)
  have hcO := hcO 0 (by decide)
  refine wp_regionW ?_
  refine wval (some 58) (.int .i64 0) wz81 (by kernel_rfl) (by kernel_rfl) (by kernel_rfl) ?_
  refine wval (some 59) (.bool true) wz81 (by kernel_rfl) (by kernel_rfl) (by kernel_rfl) ?_
  refine wval (some 60) (.bool true) wz81 (by kernel_rfl) (by kernel_rfl) (by kernel_rfl) ?_
  refine wval (some 61) (.slice (some ⟨bO, oO, none⟩) 1 c9) wz81 (by kernel_rfl) (by kernel_rfl) (by kernel_rfl) ?_
  refine wval (some 62) (.int .i64 1) wz81 (by kernel_rfl) (by kernel_rfl) (by kernel_rfl) ?_
  refine wval (some 63) (.bool true) wz81 (by kernel_rfl) (by kernel_rfl) (by kernel_rfl) ?_
  refine wval (some 64) (.bool true) wz81 (by kernel_rfl) (by kernel_rfl) (by kernel_rfl) ?_
  refine wval (some 65) (.bool true) wz81 (by kernel_rfl) (by kernel_rfl) (by kernel_rfl) ?_
  refine wval (some 66) (.slice (some ⟨bO, oO, none⟩) 1 c9) wz81 (by kernel_rfl) (by kernel_rfl) (by kernel_rfl) ?_
  refine widxG (some 67) 101 (.tmp 66) (.const (.int .i64 0)) bO oO 1 c9 .i64 0 1 oO (by kernel_rfl) (by kernel_rfl) (by kernel_rfl) (by kernel_rfl) (by kernel_rfl) Tryz.underlying101 (by kernel_rfl) (by decide) (by decide) (by simp) ?_
  refine wload (some 68) (.int .i64 5) 49 (.tmp 67) bO (oO) _ (by kernel_rfl) (by kernel_rfl) (by kernel_rfl) (by kernel_rfl) Tryz.underlying49 rfl hcO ?_
  refine wval (some 69) (.int .i64 5) wz81 (by kernel_rfl) (by kernel_rfl) (by kernel_rfl) ?_
  refine wval (some 70) (.bool true) wz81 (by kernel_rfl) (by kernel_rfl) (by kernel_rfl) ?_
  refine wval (some 71) (.bool true) wz81 (by kernel_rfl) (by kernel_rfl) (by kernel_rfl) ?_
  refine wval (some 72) (.bool true) wz81 (by kernel_rfl) (by kernel_rfl) (by kernel_rfl) ?_
  refine wval (some 73) (.int .i64 1) wz81 (by kernel_rfl) (by kernel_rfl) (by kernel_rfl) ?_
  refine wval (some 74) (.bool true) wz81 (by kernel_rfl) (by kernel_rfl) (by kernel_rfl) ?_
  refine wval (some 75) (.bool true) wz81 (by kernel_rfl) (by kernel_rfl) (by kernel_rfl) ?_
  refine wval (some 6) (.bool true) wz81 (by kernel_rfl) (by kernel_rfl) (by kernel_rfl) ?_
  refine wnil (hKC90 _ _ (?_))
  clear hKC90
  refine wp_ret ?_
  refine bodyPost_ret (v := .bool true) (by kernel_rfl) rfl ⟨rfl, HF87.out⟩
theorem topBad_walk (secret which k : Int) (w : World) (hs : (Lit.int .i64 secret).wf = true) (hw : (Lit.int .i64 which).wf = true) (hk : (Lit.int .i64 k).wf = true) :
    Calls Tryz.prog 14 #[.int .i64 secret, .int .i64 which, .int .i64 k] w fun e w' => e = .returned (.bool true) ∧ Below w.heap.size w w' := by
  obtain ⟨v0, v1⟩ := i64_bounds hw
  obtain ⟨k0, k1⟩ := i64_bounds hk
  have hwr := wrap_rangeT secret
  obtain ⟨i_, HW, i0, i1⟩ := mod_ex which 8 (by decide)
  obtain ⟨j_, HK, j0, j1⟩ := mod_ex k 9 (by decide)
  obtain ⟨j, rfl⟩ : ∃ j : Nat, j_ = j := ⟨j_.toNat, by omega⟩
  have hj : j < 9 := by omega
  rcases (show i_ = 0 ∨ i_ = 1 ∨ i_ = 2 ∨ i_ = 3 ∨ i_ = 4 ∨ i_ = 5 ∨ i_ = 6 ∨ i_ = 7 by omega) with rfl | rfl | rfl | rfl | rfl | rfl | rfl | rfl
  · exact bad_0 secret which k hwr v0 v1 k0 k1 j hj HW HK w
  · exact bad_1 secret which k hwr v0 v1 k0 k1 j hj HW HK w
  · exact bad_2 secret which k hwr v0 v1 k0 k1 j hj HW HK w
  · exact bad_3 secret which k hwr v0 v1 k0 k1 j hj HW HK w
  · exact bad_4 secret which k hwr v0 v1 k0 k1 j hj HW HK w
  · exact bad_5 secret which k hwr v0 v1 k0 k1 j hj HW HK w
  · exact bad_6 secret which k hwr v0 v1 k0 k1 j hj HW HK w
  · exact bad_7 secret which k hwr v0 v1 k0 k1 j hj HW HK w
end Go.Proofs.YtbcagdjfegobnaaGreat
