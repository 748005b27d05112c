/- Texts of the proof, laid together: Client3. -/
import Derived.Test.YtbcagdjfegobnaaGreatC46
import Derived.Test.YtbcagdjfegobnaaGreatC44
/- Clients whose connection has just begun: the contracts of client.Hear. -/
namespace Go.Proofs.YtbcagdjfegobnaaGreat
open Go.ChangeShapes Go.WideShapes Go.ChangeAt Go.RowKit
set_option linter.unusedVariables false

theorem ClM.pl_eq {x y : ClM} (h : y.pl = x.pl) : y.p = x.p ∧ y.id = x.id ∧ y.to_ = x.to_ ∧ y.word = x.word ∧ y.key = x.key ∧ y.last = x.last ∧ y.tok = x.tok := by
  simpa [ClM.pl] using h
def ClM.told (x : ClM) (tok : List UInt8) (T : Option Addr) (d : Nat) : ClM := { x with tok := tok, T := T, tn := tok.length, tc := d }
theorem clc_no8 (x : ClM) : ∀ u ∈ (clc x).toList, ∀ n, u ≠ .int .u8 n := by
  intro u hu n
  simp only [clc, List.mem_cons, List.not_mem_nil, or_false] at hu
  rcases hu with rfl | rfl | rfl | rfl | rfl | rfl | rfl | rfl | rfl | rfl | rfl | rfl | rfl | rfl | rfl | rfl | rfl | rfl | rfl | rfl | rfl | rfl | rfl | rfl | rfl | rfl | rfl | rfl | rfl | rfl <;> simp
/-- Bytes lie in no client. -/
theorem rd_ne_cl {w : World} {A : Option Addr} {bs : List UInt8} (h : RdB w A bs) (hn : 0 < bs.length) {q : Nat} {t : TypeId} {x : ClM} (hq : Blk w q t (clc x)) : ∀ a, A = some a → a.block ≠ q := by
  intro a ha e
  obtain ⟨b, off, e2, hc⟩ := h.2 hn
  rw [ha] at e2
  injection e2 with e2
  subst e2
  simp only at e
  subst e
  obtain ⟨c0, l, rfl⟩ : ∃ c0 l, bs = c0 :: l := by
    match bs, hn with
    | c0 :: l, _ => exact ⟨c0, l, rfl⟩
  have h1 := hc 0 (.int .u8 (c0.toNat : Int)) (by simp [u8s])
  rw [hq.cell] at h1
  have h2 := Array.mem_of_getElem? h1
  exact clc_no8 x _ (by simpa using h2) _ rfl
theorem Blk.undW {w w' : World} {B g : Nat} {t : TypeId} {cs : Array Value} (h : Blk w g t cs) (hb : Below B w w') (hg : g < B) : Blk w' g t cs := (hb.block g hg).trans h

set_option maxRecDepth 100000 in
set_option maxHeartbeats 8000000 in
theorem clHear_other (x : ClM) (now : Int) (n0 : 0 ≤ now) (n1 : now ≤ 1099511627776) (k_ t_ f_ s_ : Nat) (tok : List UInt8) (hne0 : t_ ≠ x.id) (U : Nat) (B : Option Addr) (bn bc : Nat) (bs : List UInt8) (hbn : bs.length = bn) (hbc : bn ≤ bc) (hbm : bc ≤ 9223372036854775807) (h400 : bn ≤ 400) (hdc : hdec bs = (⟨k_, t_, f_, tok, 0, s_⟩, U, 0))
    (w : World) (h : ClOk w x) (hB : RdB w B bs) :
    Calls Tryz.prog 35 #[.agg (clc x), .int .i64 now, .slice B bn bc] w fun e w' => (∃ y, e = .returned (.tuple #[.agg (clc y), .slice none 0 0, .int .i64 5]) ∧ ClOk w' y ∧ y.pl = x.pl ∧ OwnX u8c 1 w' w.heap.size 5 y.T y.tc y.tok) ∧ Below w.heap.size w w' := by
  have HOK0 := Lib.hid h
  have HBB := Lib.hid hB
  have HBN := Lib.hid hbn
  have HD := Lib.hid hdc
  have hw4 : (bn : Int) ≤ 400 := by omega
  clear h hB hbn hdc
  go_enter Tryz.func35, Tryz.ntmps35
  unfold clc
  -- [[a1
  go_upto_region 1 with (fail)
  refine wp_world (fun w' => Blk w' w.heap.size 45 (clc x) ∧ (∃ z, z.size = 30 ∧ Blk w' (w.heap.size + 1) 45 z) ∧ Below w.heap.size w w') ⟨(Blk.new _ _ _).alloc _, ⟨_, rfl, Blk.new1 _ _ _ _⟩, ((Below.refl _ _).alloc (Nat.le_refl _) _).alloc (by simp) _⟩ ?_
  rintro w1 ⟨hX, ⟨z, hz, hZ⟩, hb1⟩
  obtain ⟨q, hq⟩ : ∃ q, w.heap.size = q := ⟨_, rfl⟩
  obtain ⟨gR, hgR⟩ : ∃ q, w.heap.size + 1 = q := ⟨_, rfl⟩
  have hqw : w.heap.size ≤ q := by omega
  have hqr : w.heap.size ≤ gR := by omega
  have hne : gR ≠ q := by omega
  rw [hgR] at hZ ⊢
  rw [hq] at hX ⊢
  have HX1 := Lib.hid hX
  have HZ1 := Lib.hid hZ
  have HB1 := Lib.hid hb1
  clear hX hZ hb1 hq hgR
  go_wp2_with (refine wpList_loadR rfl 45 (.tmp 3) rfl q 0 rfl (clc x) _ Tryz.underlying45 rfl (by kernel_rfl) HX1.out.whole ?_)
  refine (clCheck_ok x _ (HOK0.out.below HB1.out)).mono ?_
  rintro e w2 ⟨rfl, hb2⟩
  have HX2 := Lib.hid (HX1.out.carry hb2)
  have HZ2 := Lib.hid (HZ1.out.carry hb2)
  have HB2 := Lib.hid (HB1.out.trans (hb2.mono HB1.out.size))
  clear hb2 HX1 HZ1 HB1
  go_wp2_with (refine wpList_loadR rfl 45 (.tmp 3) rfl q 0 rfl (clc x) _ Tryz.underlying45 rfl (by kernel_rfl) HX2.out.whole ?_)
  refine (clFresh_ok x _ (HOK0.out.below HB2.out)).mono ?_
  rintro e w3 ⟨x1, rfl, hok, hpl, hown, hb3⟩
  have HX3 := Lib.hid (HX2.out.carry hb3)
  have HZ3 := Lib.hid (HZ2.out.carry hb3)
  have HB3 := Lib.hid (HB2.out.trans (hb3.mono HB2.out.size))
  have HOK3 := Lib.hid hok
  have HOW3 := Lib.hid (hown.mono HB2.out.size)
  have HPL := Lib.hid hpl
  clear hb3 HX2 HZ2 HB2 hok hown hpl
  unfold clc
  go_upto_region 9 with (first
    | (refine wpList_storeP rfl 45 (.tmp 3) (.tmp 39) rfl q 0 rfl (clc x1) rfl 45 _ HX3.out (by kernel_rfl) (by simp [clc]) (clc_one _) _ (splice_all _ _ (by simp [clc])) ?_
       intro w4 hB4 hw4))
  refine wp_world (fun w' => Blk w' q 45 (clc x1) ∧ Blk w' gR 45 z ∧ OwnX u8c 1 w' w.heap.size 5 x1.T x1.tc x1.tok ∧ Below w.heap.size w w') ⟨hB4, HZ3.out.wr hw4 hne, HOW3.out.wr hw4 (own_ne HOW3.out HX3.out (by decide)), hw4.trans_below HB3.out hqw⟩ ?_
  clear hB4 hw4 HX3 HZ3 HB3 HOW3
  rintro w5 ⟨hX, hZ, hO, hb⟩
  have HX5 := Lib.hid hX
  have HZ5 := Lib.hid hZ
  have HO5 := Lib.hid hO
  have HB5 := Lib.hid hb
  clear hX hZ hO hb
  have HDEC := hDec_any B bs bn bc w5 HBN.out (HBB.out.below HB5.out) hbc hbm
  rw [HD.out] at HDEC
  have HDEC := Lib.hid HDEC
  -- [[a2
  go_wp2_with fail
  refine HDEC.out.mono ?_
  rintro e w6 ⟨T, d, rfl, hT, hTd, hTm, hb6⟩
  simp only at hT hTd
  simp only [hcells]
  have HX6 := Lib.hid (HX5.out.carry hb6)
  have HZ6 := Lib.hid (HZ5.out.carry hb6)
  have HO6 := Lib.hid (HO5.out.carry hb6)
  have HB6 := Lib.hid (HB5.out.trans (hb6.mono HB5.out.size))
  have HT6 := Lib.hid hT
  clear hb6 HX5 HZ5 HO5 HB5 HDEC hT
  go_upto_region 12 with (fail)
  obtain ⟨gH, hgH⟩ : ∃ q, w6.heap.size = q := ⟨_, rfl⟩
  refine wp_world (fun w' => Blk w' gH 61 #[.int .i64 (k_ : Nat), .int .i64 t_, .int .i64 (f_ : Nat), .slice T tok.length d, .int .i64 (0 : Nat), .int .i64 (s_ : Nat)] ∧ RdB w' T tok ∧ Blk w' q 45 (clc x1) ∧ Blk w' gR 45 z ∧ OwnX u8c 1 w' w.heap.size 5 x1.T x1.tc x1.tok ∧ Below w.heap.size w w') ⟨?gva, HT6.out.below ((Below.refl _ _).alloc (Nat.le_refl _) _), HX6.out.alloc _, HZ6.out.alloc _, HO6.out.alloc _, HB6.out.alloc HB6.out.size _⟩ ?_
  case gva => exact (Blk.newF hgH).as (by simp)
  rw [hgH]
  clear hgH HX6 HZ6 HO6 HB6 HT6
  rintro w7 ⟨hH, hT, hX, hZ, hO, hb⟩
  have HH := Lib.hid hH
  have HT := Lib.hid hT
  have HX := Lib.hid hX
  have HZ := Lib.hid hZ
  have HO := Lib.hid hO
  have HB := Lib.hid hb
  have HOK := Lib.hid (show ClOk w7 x1 from { HOK3.out with rd := hO.rd.b })
  have F := clFacts hX
  have G := Blk.facts6 hH
  obtain ⟨ep, eid, eto, eword, ekey, elast, etok⟩ := ClM.pl_eq HPL.out
  clear hH hT hX hZ hO hb HOK3
  have hne2 : ((t_ : Int) == (x1.id : Int)) = false := by rw [eid, beq_eq_false_iff_ne]; omega
  -- [[d1
  clear ep eid eto eword ekey elast etok
  go_wp2_with (first
    | refine wpList_loadR rfl 45 (.tmp 3) rfl q 0 rfl (clc x1) _ Tryz.underlying45 rfl (by kernel_rfl) HX.out.whole ?_
    | (refine wpList_storeP rfl 45 (.tmp 6) (.tmp 59) rfl gR 0 rfl (clc x1) rfl 45 _ HZ.out (by kernel_rfl) (by simp [clc, hz]) (clc_one _) _ (splice_all _ _ (by simp [clc, hz])) ?_
       intro w20 hB20 hw20))
  exact bodyPost_ret (results_c3 _ _ gR _ (clc x1) _ Tryz.results35 rfl hB20 Tryz.underlying45 rfl (by kernel_rfl) rfl rfl) rfl ⟨⟨x1, rfl, { HOK.out with rd := (HO.out.wr hw20 (own_ne HO.out HZ.out (by decide))).rd.b }, HPL.out, HO.out.wr hw20 (own_ne HO.out HZ.out (by decide))⟩, hw20.trans_below HB.out hqr⟩
  -- ]]d1
  -- ]]a2
  -- ]]a1

set_option maxRecDepth 100000 in
set_option maxHeartbeats 8000000 in
theorem clHear_again (x : ClM) (now : Int) (n0 : 0 ≤ now) (n1 : now ≤ 1099511627776) (f_ : Nat) (tok : List UInt8) (htk0 : 0 < x.tok.length) (hto0 : x.to_ = 0) (U : Nat) (B : Option Addr) (bn bc : Nat) (bs : List UInt8) (hbn : bs.length = bn) (hbc : bn ≤ bc) (hbm : bc ≤ 9223372036854775807) (h400 : bn ≤ 400) (hdc : hdec bs = (⟨1, x.id, f_, tok, 0, 0⟩, U, 0))
    (w : World) (h : ClOk w x) (hB : RdB w B bs) :
    Calls Tryz.prog 35 #[.agg (clc x), .int .i64 now, .slice B bn bc] w fun e w' => (∃ y, e = .returned (.tuple #[.agg (clc y), .slice none 0 0, .int .i64 9]) ∧ ClOk w' y ∧ y.pl = x.pl ∧ OwnX u8c 1 w' w.heap.size 5 y.T y.tc y.tok) ∧ Below w.heap.size w w' := by
  have HTO := Lib.hid hto0
  clear hto0
  have HOK0 := Lib.hid h
  have HBB := Lib.hid hB
  have HBN := Lib.hid hbn
  have HD := Lib.hid hdc
  have hw4 : (bn : Int) ≤ 400 := by omega
  clear h hB hbn hdc
  go_enter Tryz.func35, Tryz.ntmps35
  unfold clc
  -- [[c1
  go_upto_region 1 with (fail)
  refine wp_world (fun w' => Blk w' w.heap.size 45 (clc x) ∧ (∃ z, z.size = 30 ∧ Blk w' (w.heap.size + 1) 45 z) ∧ Below w.heap.size w w') ⟨(Blk.new _ _ _).alloc _, ⟨_, rfl, Blk.new1 _ _ _ _⟩, ((Below.refl _ _).alloc (Nat.le_refl _) _).alloc (by simp) _⟩ ?_
  rintro w1 ⟨hX, ⟨z, hz, hZ⟩, hb1⟩
  obtain ⟨q, hq⟩ : ∃ q, w.heap.size = q := ⟨_, rfl⟩
  obtain ⟨gR, hgR⟩ : ∃ q, w.heap.size + 1 = q := ⟨_, rfl⟩
  have hqw : w.heap.size ≤ q := by omega
  have hqr : w.heap.size ≤ gR := by omega
  have hne : gR ≠ q := by omega
  rw [hgR] at hZ ⊢
  rw [hq] at hX ⊢
  have HX1 := Lib.hid hX
  have HZ1 := Lib.hid hZ
  have HB1 := Lib.hid hb1
  clear hX hZ hb1 hq hgR
  go_wp2_with (refine wpList_loadR rfl 45 (.tmp 3) rfl q 0 rfl (clc x) _ Tryz.underlying45 rfl (by kernel_rfl) HX1.out.whole ?_)
  refine (clCheck_ok x _ (HOK0.out.below HB1.out)).mono ?_
  rintro e w2 ⟨rfl, hb2⟩
  have HX2 := Lib.hid (HX1.out.carry hb2)
  have HZ2 := Lib.hid (HZ1.out.carry hb2)
  have HB2 := Lib.hid (HB1.out.trans (hb2.mono HB1.out.size))
  clear hb2 HX1 HZ1 HB1
  go_wp2_with (refine wpList_loadR rfl 45 (.tmp 3) rfl q 0 rfl (clc x) _ Tryz.underlying45 rfl (by kernel_rfl) HX2.out.whole ?_)
  refine (clFresh_ok x _ (HOK0.out.below HB2.out)).mono ?_
  rintro e w3 ⟨x1, rfl, hok, hpl, hown, hb3⟩
  have HX3 := Lib.hid (HX2.out.carry hb3)
  have HZ3 := Lib.hid (HZ2.out.carry hb3)
  have HB3 := Lib.hid (HB2.out.trans (hb3.mono HB2.out.size))
  have HOK3 := Lib.hid hok
  have HOW3 := Lib.hid (hown.mono HB2.out.size)
  have HPL := Lib.hid hpl
  clear hb3 HX2 HZ2 HB2 hok hown hpl
  unfold clc
  go_upto_region 9 with (first
    | (refine wpList_storeP rfl 45 (.tmp 3) (.tmp 39) rfl q 0 rfl (clc x1) rfl 45 _ HX3.out (by kernel_rfl) (by simp [clc]) (clc_one _) _ (splice_all _ _ (by simp [clc])) ?_
       intro w4 hB4 hw4))
  refine wp_world (fun w' => Blk w' q 45 (clc x1) ∧ Blk w' gR 45 z ∧ OwnX u8c 1 w' w.heap.size 5 x1.T x1.tc x1.tok ∧ Below w.heap.size w w') ⟨hB4, HZ3.out.wr hw4 hne, HOW3.out.wr hw4 (own_ne HOW3.out HX3.out (by decide)), hw4.trans_below HB3.out hqw⟩ ?_
  clear hB4 hw4 HX3 HZ3 HB3 HOW3
  rintro w5 ⟨hX, hZ, hO, hb⟩
  have HX5 := Lib.hid hX
  have HZ5 := Lib.hid hZ
  have HO5 := Lib.hid hO
  have HB5 := Lib.hid hb
  clear hX hZ hO hb
  have HDEC := hDec_any B bs bn bc w5 HBN.out (HBB.out.below HB5.out) hbc hbm
  rw [HD.out] at HDEC
  have HDEC := Lib.hid HDEC
  -- [[c2
  go_wp2_with fail
  refine HDEC.out.mono ?_
  rintro e w6 ⟨T, d, rfl, hT, hTd, hTm, hb6⟩
  simp only at hT hTd
  simp only [hcells]
  have HX6 := Lib.hid (HX5.out.carry hb6)
  have HZ6 := Lib.hid (HZ5.out.carry hb6)
  have HO6 := Lib.hid (HO5.out.carry hb6)
  have HB6 := Lib.hid (HB5.out.trans (hb6.mono HB5.out.size))
  have HT6 := Lib.hid hT
  clear hb6 HX5 HZ5 HO5 HB5 HDEC hT
  go_upto_region 12 with (fail)
  obtain ⟨gH, hgH⟩ : ∃ q, w6.heap.size = q := ⟨_, rfl⟩
  refine wp_world (fun w' => Blk w' gH 61 #[.int .i64 (1 : Nat), .int .i64 x.id, .int .i64 (f_ : Nat), .slice T tok.length d, .int .i64 (0 : Nat), .int .i64 (0 : Nat)] ∧ RdB w' T tok ∧ Blk w' q 45 (clc x1) ∧ Blk w' gR 45 z ∧ OwnX u8c 1 w' w.heap.size 5 x1.T x1.tc x1.tok ∧ Below w.heap.size w w') ⟨?gva, HT6.out.below ((Below.refl _ _).alloc (Nat.le_refl _) _), HX6.out.alloc _, HZ6.out.alloc _, HO6.out.alloc _, HB6.out.alloc HB6.out.size _⟩ ?_
  case gva => exact (Blk.newF hgH).as (by simp)
  rw [hgH]
  clear hgH HX6 HZ6 HO6 HB6 HT6
  rintro w7 ⟨hH, hT, hX, hZ, hO, hb⟩
  have HH := Lib.hid hH
  have HT := Lib.hid hT
  have HX := Lib.hid hX
  have HZ := Lib.hid hZ
  have HO := Lib.hid hO
  have HB := Lib.hid hb
  have HOK := Lib.hid (show ClOk w7 x1 from { HOK3.out with rd := hO.rd.b })
  have F := clFacts hX
  have G := Blk.facts6 hH
  obtain ⟨ep, eid, eto, eword, ekey, elast, etok⟩ := ClM.pl_eq HPL.out
  clear hH hT hX hZ hO hb HOK3
  have htn1 : (0 : Int) < (x1.tn : Int) := by have := HOK.out.htn; rw [etok] at this; omega
  rw [eto, HTO.out, eid] at F
  -- [[c3
  clear ep eid eto eword ekey elast etok
  go_wp2_with (first
    | refine wpList_loadR rfl 45 (.tmp 3) rfl q 0 rfl (clc x1) _ Tryz.underlying45 rfl (by kernel_rfl) HX.out.whole ?_
    | (refine wpList_storeP rfl 45 (.tmp 6) (.tmp 85) rfl gR 0 rfl (clc x1) rfl 45 _ HZ.out (by kernel_rfl) (by simp [clc, hz]) (clc_one _) _ (splice_all _ _ (by simp [clc, hz])) ?_
       intro w20 hB20 hw20))
  exact bodyPost_ret (results_c3 _ _ gR _ (clc x1) _ Tryz.results35 rfl hB20 Tryz.underlying45 rfl (by kernel_rfl) rfl rfl) rfl ⟨⟨x1, rfl, { HOK.out with rd := (HO.out.wr hw20 (own_ne HO.out HZ.out (by decide))).rd.b }, HPL.out, HO.out.wr hw20 (own_ne HO.out HZ.out (by decide))⟩, hw20.trans_below HB.out hqr⟩
  -- ]]c3
  -- ]]c2
  -- ]]c1

set_option maxRecDepth 100000 in
set_option maxHeartbeats 8000000 in
theorem clHear_retry (x : ClM) (now : Int) (n0 : 0 ≤ now) (n1 : now ≤ 1099511627776) (f_ : Nat) (tok : List UInt8) (htk0 : x.tok = []) (htk1 : 0 < tok.length) (htk2 : tok.length ≤ 63) (hto0 : x.to_ = 0) (B : Option Addr) (bn bc : Nat) (bs : List UInt8) (hbn : bs.length = bn) (hbc : bn ≤ bc) (hbm : bc ≤ 9223372036854775807) (h400 : bn ≤ 400) (hdc : hdec bs = (⟨1, x.id, f_, tok, 0, 0⟩, bn, 0))
    (w : World) (h : ClOk w x) (hB : RdB w B bs) :
    Calls Tryz.prog 35 #[.agg (clc x), .int .i64 now, .slice B bn bc] w fun e w' => (∃ y O D dc, e = .returned (.tuple #[.agg (clc y), .slice (some ⟨O, 0, none⟩) 1 1, .int .i64 0]) ∧ ClOk w' y ∧ (∃ T d, y.pl = (x.told tok T d).pl) ∧ Blk w' O 30 #[.slice D (24 + tok.length) dc] ∧ OwnX u8c 1 w' w.heap.size 5 D dc (greetB (keyI 1 x.id) 0 x.id tok x.word.toNat) ∧ w.heap.size ≤ O ∧ OwnX u8c 1 w' w.heap.size 5 y.T y.tc y.tok) ∧ Below w.heap.size w w' := by
  have HTO := Lib.hid hto0
  clear hto0
  have HOK0 := Lib.hid h
  have HBB := Lib.hid hB
  have HBN := Lib.hid hbn
  have HD := Lib.hid hdc
  have hw4 : (bn : Int) ≤ 400 := by omega
  clear h hB hbn hdc
  go_enter Tryz.func35, Tryz.ntmps35
  unfold clc
  -- [[b1
  go_upto_region 1 with (fail)
  refine wp_world (fun w' => Blk w' w.heap.size 45 (clc x) ∧ (∃ z, z.size = 30 ∧ Blk w' (w.heap.size + 1) 45 z) ∧ Below w.heap.size w w') ⟨(Blk.new _ _ _).alloc _, ⟨_, rfl, Blk.new1 _ _ _ _⟩, ((Below.refl _ _).alloc (Nat.le_refl _) _).alloc (by simp) _⟩ ?_
  rintro w1 ⟨hX, ⟨z, hz, hZ⟩, hb1⟩
  obtain ⟨q, hq⟩ : ∃ q, w.heap.size = q := ⟨_, rfl⟩
  obtain ⟨gR, hgR⟩ : ∃ q, w.heap.size + 1 = q := ⟨_, rfl⟩
  have hqw : w.heap.size ≤ q := by omega
  have hqr : w.heap.size ≤ gR := by omega
  have hne : gR ≠ q := by omega
  rw [hgR] at hZ ⊢
  rw [hq] at hX ⊢
  have HX1 := Lib.hid hX
  have HZ1 := Lib.hid hZ
  have HB1 := Lib.hid hb1
  clear hX hZ hb1 hq hgR
  go_wp2_with (refine wpList_loadR rfl 45 (.tmp 3) rfl q 0 rfl (clc x) _ Tryz.underlying45 rfl (by kernel_rfl) HX1.out.whole ?_)
  refine (clCheck_ok x _ (HOK0.out.below HB1.out)).mono ?_
  rintro e w2 ⟨rfl, hb2⟩
  have HX2 := Lib.hid (HX1.out.carry hb2)
  have HZ2 := Lib.hid (HZ1.out.carry hb2)
  have HB2 := Lib.hid (HB1.out.trans (hb2.mono HB1.out.size))
  clear hb2 HX1 HZ1 HB1
  go_wp2_with (refine wpList_loadR rfl 45 (.tmp 3) rfl q 0 rfl (clc x) _ Tryz.underlying45 rfl (by kernel_rfl) HX2.out.whole ?_)
  refine (clFresh_ok x _ (HOK0.out.below HB2.out)).mono ?_
  rintro e w3 ⟨x1, rfl, hok, hpl, hown, hb3⟩
  have HX3 := Lib.hid (HX2.out.carry hb3)
  have HZ3 := Lib.hid (HZ2.out.carry hb3)
  have HB3 := Lib.hid (HB2.out.trans (hb3.mono HB2.out.size))
  have HOK3 := Lib.hid hok
  have HOW3 := Lib.hid (hown.mono HB2.out.size)
  have HPL := Lib.hid hpl
  clear hb3 HX2 HZ2 HB2 hok hown hpl
  unfold clc
  go_upto_region 9 with (first
    | (refine wpList_storeP rfl 45 (.tmp 3) (.tmp 39) rfl q 0 rfl (clc x1) rfl 45 _ HX3.out (by kernel_rfl) (by simp [clc]) (clc_one _) _ (splice_all _ _ (by simp [clc])) ?_
       intro w4 hB4 hw4))
  refine wp_world (fun w' => Blk w' q 45 (clc x1) ∧ Blk w' gR 45 z ∧ OwnX u8c 1 w' w.heap.size 5 x1.T x1.tc x1.tok ∧ Below w.heap.size w w') ⟨hB4, HZ3.out.wr hw4 hne, HOW3.out.wr hw4 (own_ne HOW3.out HX3.out (by decide)), hw4.trans_below HB3.out hqw⟩ ?_
  clear hB4 hw4 HX3 HZ3 HB3 HOW3
  rintro w5 ⟨hX, hZ, hO, hb⟩
  have HX5 := Lib.hid hX
  have HZ5 := Lib.hid hZ
  have HO5 := Lib.hid hO
  have HB5 := Lib.hid hb
  clear hX hZ hO hb
  have HDEC := hDec_any B bs bn bc w5 HBN.out (HBB.out.below HB5.out) hbc hbm
  rw [HD.out] at HDEC
  have HDEC := Lib.hid HDEC
  -- [[b2
  go_wp2_with fail
  refine HDEC.out.mono ?_
  rintro e w6 ⟨T, d, rfl, hT, hTd, hTm, hb6⟩
  simp only at hT hTd
  simp only [hcells]
  have HX6 := Lib.hid (HX5.out.carry hb6)
  have HZ6 := Lib.hid (HZ5.out.carry hb6)
  have HO6 := Lib.hid (HO5.out.carry hb6)
  have HB6 := Lib.hid (HB5.out.trans (hb6.mono HB5.out.size))
  have HT6 := Lib.hid hT
  clear hb6 HX5 HZ5 HO5 HB5 HDEC hT
  go_upto_region 12 with (fail)
  obtain ⟨gH, hgH⟩ : ∃ q, w6.heap.size = q := ⟨_, rfl⟩
  refine wp_world (fun w' => Blk w' gH 61 #[.int .i64 (1 : Nat), .int .i64 x.id, .int .i64 (f_ : Nat), .slice T tok.length d, .int .i64 (0 : Nat), .int .i64 (0 : Nat)] ∧ RdB w' T tok ∧ Blk w' q 45 (clc x1) ∧ Blk w' gR 45 z ∧ OwnX u8c 1 w' w.heap.size 5 x1.T x1.tc x1.tok ∧ Below w.heap.size w w') ⟨?gva, HT6.out.below ((Below.refl _ _).alloc (Nat.le_refl _) _), HX6.out.alloc _, HZ6.out.alloc _, HO6.out.alloc _, HB6.out.alloc HB6.out.size _⟩ ?_
  case gva => exact (Blk.newF hgH).as (by simp)
  rw [hgH]
  clear hgH HX6 HZ6 HO6 HB6 HT6
  rintro w7 ⟨hH, hT, hX, hZ, hO, hb⟩
  have HH := Lib.hid hH
  have HT := Lib.hid hT
  have HX := Lib.hid hX
  have HZ := Lib.hid hZ
  have HO := Lib.hid hO
  have HB := Lib.hid hb
  have HOK := Lib.hid (show ClOk w7 x1 from { HOK3.out with rd := hO.rd.b })
  have F := clFacts hX
  have G := Blk.facts6 hH
  obtain ⟨ep, eid, eto, eword, ekey, elast, etok⟩ := ClM.pl_eq HPL.out
  clear hH hT hX hZ hO hb HOK3
  have htn1 : x1.tn = 0 := by have := HOK.out.htn; rw [etok, htk0] at this; exact this.symm
  have htn2 : (0 : Int) < (tok.length : Int) := by omega
  have htn3 : ((tok.length : Int) == 0) = false := by rw [beq_eq_false_iff_ne]; omega
  rw [eto, HTO.out, eid, htn1] at F
  -- [[b3
  have z3 := HX.out.zs 3
  go_upto_region 19 with (fail)
  refine wp_world (fun w' => Blk w' q 45 (clc (x1.told tok T d)) ∧ RdB w' T tok ∧ Blk w' gR 45 z ∧ Below w.heap.size w w') ⟨?gva, ?gvb, ?gvc, ?gvd⟩ ?_
  case gva => exact (HX.out.set_ 3 _).as (by kernel_rfl)
  case gvb => exact Rd.wr HT.out (Wr.set _ q 3 _) (rd_ne_cl HT.out htk1 HX.out)
  case gvc => exact HZ.out.wr (Wr.set _ q 3 _) hne
  case gvd => exact (Wr.set _ q 3 _).trans_below HB.out hqw
  clear z3 F G HX HT HZ HB HO HH ep eid eto eword ekey elast etok
  rintro w8 ⟨hX, hT, hZ, hb⟩
  have HX8 := Lib.hid hX
  have HZ8 := Lib.hid hZ
  have HB8 := Lib.hid hb
  have HOK8 := Lib.hid (show ClOk w8 (x1.told tok T d) from { HOK.out with htn := rfl, htk := by simp only [ClM.told]; omega, htc := hTd, htm := hTm, rd := hT })
  clear hX hT hZ hb htn1 htn2 htn3
  -- [[b4
  go_wp2_with (refine wpList_loadR rfl 45 (.tmp 3) rfl q 0 rfl (clc (x1.told tok T d)) _ Tryz.underlying45 rfl (by kernel_rfl) HX8.out.whole ?_)
  refine (clHello_ok (x1.told tok T d) _ HOK8.out htk2).mono ?_
  rintro e w9 ⟨D, dc, rfl, hOD, hb9⟩
  have HX9 := Lib.hid (HX8.out.carry hb9)
  have HZ9 := Lib.hid (HZ8.out.carry hb9)
  have HB9 := Lib.hid (HB8.out.trans (hb9.mono HB8.out.size))
  have HB8S := Lib.hid HB8.out.size
  have HB9S := Lib.hid HB9.out.size
  have HOD9 := Lib.hid hOD
  have HOK9 := Lib.hid (HOK8.out.below hb9)
  clear hb9 HX8 HZ8 HB8 hOD HOK8
  go_wp2_with (refine wpList_loadR rfl 45 (.tmp 3) rfl q 0 rfl (clc (x1.told tok T d)) _ Tryz.underlying45 rfl (by kernel_rfl) HX9.out.whole ?_)
  refine (clFresh_ok (x1.told tok T d) _ HOK9.out).mono ?_
  rintro e w10 ⟨y, rfl, hy, hpl2, hown, hb10⟩
  have HZ := Lib.hid (HZ9.out.carry hb10)
  have HB := Lib.hid (HB9.out.trans (hb10.mono HB9.out.size))
  have HOD := Lib.hid (HOD9.out.carry hb10)
  have HY := Lib.hid hy
  have HPL2 := Lib.hid hpl2
  have HOW := Lib.hid hown
  clear hb10 hy hpl2 hown HZ9 HB9 HOD9 HOK9 HX9
  go_wp2_with (first
    | (refine wpList_storeP rfl 45 (.tmp 6) (.tmp 95) rfl gR 0 rfl (clc y) rfl 45 _ (HZ.out.alloc (.cells #[.slice D (24 + (x1.told tok T d).tn) dc] 30)) (by kernel_rfl) (by simp [clc, hz]) (clc_one _) _ (splice_all _ _ (by simp [clc, hz])) ?_
       intro w20 hB20 hw20))
  have hBO := (Blk.new w10 30 #[.slice D (24 + (x1.told tok T d).tn) dc]).wr hw20 (by have := HZ.out.lt; omega)
  have hD20 := (HOD.out.alloc (.cells #[.slice D (24 + (x1.told tok T d).tn) dc] 30)).wr hw20 (own_ne (HOD.out.alloc (.cells #[.slice D (24 + (x1.told tok T d).tn) dc] 30)) (HZ.out.alloc (.cells #[.slice D (24 + (x1.told tok T d).tn) dc] 30)) (by decide))
  have hY20 := (HOW.out.alloc (.cells #[.slice D (24 + (x1.told tok T d).tn) dc] 30)).wr hw20 (own_ne (HOW.out.alloc (.cells #[.slice D (24 + (x1.told tok T d).tn) dc] 30)) (HZ.out.alloc (.cells #[.slice D (24 + (x1.told tok T d).tn) dc] 30)) (by decide))
  have hlen := greetB_len (keyI 1 (x1.told tok T d).id) 0 (x1.told tok T d).id tok (x1.told tok T d).word.toNat htk2
  have hcapD := hD20.cap
  obtain ⟨ep, eid, eto, eword, ekey, elast, etok⟩ := ClM.pl_eq HPL.out
  have e1 : (x1.told tok T d).id = x.id := eid
  have e2 : (x1.told tok T d).word = x.word := eword
  have e3 : (x1.told tok T d).tok = tok := rfl
  rw [e1, e2, e3] at hD20 hcapD
  rw [e1, e2] at hlen
  exact bodyPost_ret (results_c3 _ _ gR _ (clc y) _ Tryz.results35 rfl hB20 Tryz.underlying45 rfl (by kernel_rfl) rfl rfl) rfl ⟨⟨y, w10.heap.size, D, dc, rfl, { HY.out with rd := hY20.rd.b }, ⟨T, d, by rw [HPL2.out]; simp [ClM.pl, ClM.told, ep, eid, eto, eword, ekey, elast]⟩, hBO, hD20.mono HB8S.out, by have := HB.out.size; omega, hY20.mono (by have := HB9S.out; omega)⟩, hw20.trans_below (HB.out.alloc HB.out.size _) hqr⟩
  -- ]]b4
  -- ]]b3
  -- ]]b2
  -- ]]b1

set_option maxRecDepth 100000 in
set_option maxHeartbeats 8000000 in
theorem clHear_first (x : ClM) (now : Int) (n0 : 0 ≤ now) (n1 : now ≤ 1099511627776) (nx y : Nat) (hx0 : 1 ≤ nx) (hx1 : nx ≤ 255) (hy : y < 18446744073709551616) (hto0 : x.to_ = 0) (U : Nat) (B : Option Addr) (bn bc : Nat) (bs : List UInt8) (hbn : bs.length = bn) (hbc : bn ≤ bc) (hbm : bc ≤ 9223372036854775807) (h400 : bn ≤ 400) (hdc : hdec bs = (⟨0, x.id, nx, [], 0, 1⟩, U, 0)) (hU : (pktHd ⟨0, x.id, nx, [], 0, 0⟩ 1 0).length = U) (hbs : bs = greetB (keyI 1 x.id) x.id nx [] y)
    (w : World) (h : ClOk w x) (hB : RdB w B bs) :
    Calls Tryz.prog 35 #[.agg (clc x), .int .i64 now, .slice B bn bc] w fun e w' => (∃ y2, e = .returned (.tuple #[.agg (clc y2), .slice none 0 0, .int .i64 0]) ∧ ClOk w' y2 ∧ y2.pl = (x.met nx y).pl ∧ OwnX u8c 1 w' w.heap.size 5 y2.T y2.tc y2.tok) ∧ Below w.heap.size w w' := by
  have HTO := Lib.hid hto0
  clear hto0
  have HOK0 := Lib.hid h
  have HBB := Lib.hid hB
  obtain rfl : bn = 24 := by rw [← hbn, hbs]; exact greetB_len _ _ _ [] _ (by decide)
  have HBN := Lib.hid hbn
  have HBS := Lib.hid hbs
  have HU := Lib.hid hU
  clear hbs hU
  have HD := Lib.hid hdc
  have hw4 : ((24 : Nat) : Int) ≤ 400 := by decide
  clear h hB hbn hdc
  go_enter Tryz.func35, Tryz.ntmps35
  unfold clc
  -- [[g1
  go_upto_region 1 with (fail)
  refine wp_world (fun w' => Blk w' w.heap.size 45 (clc x) ∧ (∃ z, z.size = 30 ∧ Blk w' (w.heap.size + 1) 45 z) ∧ Below w.heap.size w w') ⟨(Blk.new _ _ _).alloc _, ⟨_, rfl, Blk.new1 _ _ _ _⟩, ((Below.refl _ _).alloc (Nat.le_refl _) _).alloc (by simp) _⟩ ?_
  rintro w1 ⟨hX, ⟨z, hz, hZ⟩, hb1⟩
  obtain ⟨q, hq⟩ : ∃ q, w.heap.size = q := ⟨_, rfl⟩
  obtain ⟨gR, hgR⟩ : ∃ q, w.heap.size + 1 = q := ⟨_, rfl⟩
  have hqw : w.heap.size ≤ q := by omega
  have hqr : w.heap.size ≤ gR := by omega
  have hne : gR ≠ q := by omega
  rw [hgR] at hZ ⊢
  rw [hq] at hX ⊢
  have HX1 := Lib.hid hX
  have HZ1 := Lib.hid hZ
  have HB1 := Lib.hid hb1
  clear hX hZ hb1 hq hgR
  go_wp2_with (refine wpList_loadR rfl 45 (.tmp 3) rfl q 0 rfl (clc x) _ Tryz.underlying45 rfl (by kernel_rfl) HX1.out.whole ?_)
  refine (clCheck_ok x _ (HOK0.out.below HB1.out)).mono ?_
  rintro e w2 ⟨rfl, hb2⟩
  have HX2 := Lib.hid (HX1.out.carry hb2)
  have HZ2 := Lib.hid (HZ1.out.carry hb2)
  have HB2 := Lib.hid (HB1.out.trans (hb2.mono HB1.out.size))
  clear hb2 HX1 HZ1 HB1
  go_wp2_with (refine wpList_loadR rfl 45 (.tmp 3) rfl q 0 rfl (clc x) _ Tryz.underlying45 rfl (by kernel_rfl) HX2.out.whole ?_)
  refine (clFresh_ok x _ (HOK0.out.below HB2.out)).mono ?_
  rintro e w3 ⟨x1, rfl, hok, hpl, hown, hb3⟩
  have HX3 := Lib.hid (HX2.out.carry hb3)
  have HZ3 := Lib.hid (HZ2.out.carry hb3)
  have HB3 := Lib.hid (HB2.out.trans (hb3.mono HB2.out.size))
  have HOK3 := Lib.hid hok
  have HOW3 := Lib.hid (hown.mono HB2.out.size)
  have HPL := Lib.hid hpl
  clear hb3 HX2 HZ2 HB2 hok hown hpl
  unfold clc
  go_upto_region 9 with (first
    | (refine wpList_storeP rfl 45 (.tmp 3) (.tmp 39) rfl q 0 rfl (clc x1) rfl 45 _ HX3.out (by kernel_rfl) (by simp [clc]) (clc_one _) _ (splice_all _ _ (by simp [clc])) ?_
       intro w4 hB4 hw4))
  refine wp_world (fun w' => Blk w' q 45 (clc x1) ∧ Blk w' gR 45 z ∧ OwnX u8c 1 w' w.heap.size 5 x1.T x1.tc x1.tok ∧ Below w.heap.size w w') ⟨hB4, HZ3.out.wr hw4 hne, HOW3.out.wr hw4 (own_ne HOW3.out HX3.out (by decide)), hw4.trans_below HB3.out hqw⟩ ?_
  clear hB4 hw4 HX3 HZ3 HB3 HOW3
  rintro w5 ⟨hX, hZ, hO, hb⟩
  have HX5 := Lib.hid hX
  have HZ5 := Lib.hid hZ
  have HO5 := Lib.hid hO
  have HB5 := Lib.hid hb
  clear hX hZ hO hb
  have HDEC := hDec_any B bs 24 bc w5 HBN.out (HBB.out.below HB5.out) hbc hbm
  rw [HD.out] at HDEC
  have HDEC := Lib.hid HDEC
  -- [[g2
  go_wp2_with fail
  refine HDEC.out.mono ?_
  rintro e w6 ⟨T, d, rfl, hT, hTd, hTm, hb6⟩
  simp only at hT hTd
  simp only [hcells]
  have HX6 := Lib.hid (HX5.out.carry hb6)
  have HZ6 := Lib.hid (HZ5.out.carry hb6)
  have HO6 := Lib.hid (HO5.out.carry hb6)
  have HB6 := Lib.hid (HB5.out.trans (hb6.mono HB5.out.size))
  have HT6 := Lib.hid hT
  clear hb6 HX5 HZ5 HO5 HB5 HDEC hT
  go_upto_region 12 with (fail)
  obtain ⟨gH, hgH⟩ : ∃ q, w6.heap.size = q := ⟨_, rfl⟩
  refine wp_world (fun w' => Blk w' gH 61 #[.int .i64 (0 : Nat), .int .i64 x.id, .int .i64 (nx : Nat), .slice T (0 : Nat) d, .int .i64 (0 : Nat), .int .i64 (1 : Nat)] ∧ RdB w' T ([] : List UInt8) ∧ Blk w' q 45 (clc x1) ∧ Blk w' gR 45 z ∧ OwnX u8c 1 w' w.heap.size 5 x1.T x1.tc x1.tok ∧ Below w.heap.size w w') ⟨?gva, HT6.out.below ((Below.refl _ _).alloc (Nat.le_refl _) _), HX6.out.alloc _, HZ6.out.alloc _, HO6.out.alloc _, HB6.out.alloc HB6.out.size _⟩ ?_
  case gva => exact (Blk.newF hgH).as (by simp)
  rw [hgH]
  clear hgH HX6 HZ6 HO6 HB6 HT6
  rintro w7 ⟨hH, hT, hX, hZ, hO, hb⟩
  have HH := Lib.hid hH
  have HT := Lib.hid hT
  have HX := Lib.hid hX
  have HZ := Lib.hid hZ
  have HO := Lib.hid hO
  have HB := Lib.hid hb
  have HOK := Lib.hid (show ClOk w7 x1 from { HOK3.out with rd := hO.rd.b })
  have F := clFacts hX
  have G := Blk.facts6 hH
  obtain ⟨ep, eid, eto, eword, ekey, elast, etok⟩ := ClM.pl_eq HPL.out
  clear hH hT hX hZ hO hb HOK3
  rw [eto, HTO.out, eid] at F
  have hto1 : x1.to_ = 0 := by rw [eto]; exact HTO.out
  have HTO1 := Lib.hid hto1
  have HB24 := Lib.hid (HBB.out.below HB.out)
  rw [HBS.out, ← eid] at HB24
  have HU1 := HU.out
  rw [← eid] at HU1
  have HH1 : Blk w7 gH 61 #[.int .i64 (0 : Nat), .int .i64 x1.id, .int .i64 nx, .slice T (0 : Nat) d, .int .i64 (0 : Nat), .int .i64 (1 : Nat)] := by rw [eid]; exact HH.out
  have HH1 := Lib.hid HH1
  have HU1 := Lib.hid HU1
  clear ep eid eto eword ekey elast etok hto1 HBS HU HBB
  -- [[g3
  go_wp2_with (first
    | refine wpList_loadR rfl 45 (.tmp 3) rfl q 0 rfl (clc x1) _ Tryz.underlying45 rfl (by kernel_rfl) HX.out.whole ?_
    | refine wpList_loadR rfl 61 (.tmp 10) rfl gH 0 rfl #[.int .i64 (0 : Nat), .int .i64 x1.id, .int .i64 nx, .slice T (0 : Nat) d, .int .i64 (0 : Nat), .int .i64 (1 : Nat)] _ Tryz.underlying61 rfl (by kernel_rfl) HH1.out.whole ?_)
  refine (clFirst_ok x1 nx y hx0 hx1 hy HTO1.out T d U HU1.out B bc hbc hbm _ HOK.out HB24.out).mono ?_
  rintro e w8 ⟨rfl, hb8⟩
  have HZ8 := Lib.hid (HZ.out.carry hb8)
  have HB8 := Lib.hid (HB.out.trans (hb8.mono HB.out.size))
  have HOK8 := Lib.hid (show ClOk w8 (x1.met nx y) from { HOK.out.below hb8 with to1 := hx1, k0 := (sessI_range _ _).1, k1 := (sessI_range _ _).2 })
  clear hb8 HZ HB HX HH HT HO HOK HH1 HB24 HU1 F G
  -- [[g4
  go_upto_region 23 with (first
    | (refine wpList_storeP rfl 45 (.tmp 15) (.tmp 107) rfl w8.heap.size 0 rfl (clc (x1.met nx y)) rfl 45 _ (Blk.new _ _ _) (by kernel_rfl) (by simp [clc]) (clc_one _) _ (splice_all _ _ (by simp [clc])) ?_
       intro w9 hB9 hw9
       have hb9 : Below w8.heap.size w8 w9 := hw9.trans_below ((Below.refl _ _).alloc (Nat.le_refl _) _) (Nat.le_refl _)))
  obtain ⟨g15, hg15⟩ : ∃ q, w8.heap.size = q := ⟨_, rfl⟩
  refine wp_world (fun w' => Blk w' g15 45 (clc (x1.met nx y)) ∧ ClOk w' (x1.met nx y) ∧ Blk w' gR 45 z ∧ gR < g15 ∧ Below w.heap.size w w') ⟨by rw [← hg15]; exact hB9, HOK8.out.below hb9, HZ8.out.carry hb9, by have := HZ8.out.lt; omega, HB8.out.trans (hb9.mono HB8.out.size)⟩ ?_
  rw [hg15]
  clear hg15 hb9 hw9 hB9 HZ8 HB8 HOK8
  rintro w10 ⟨hX, hok, hZ, hlt, hb⟩
  have HX := Lib.hid hX
  have HOK := Lib.hid hok
  have HZ := Lib.hid hZ
  have HB := Lib.hid hb
  clear hX hok hZ hb
  go_wp2_with (refine wpList_loadR rfl 45 (.tmp 15) rfl g15 0 rfl (clc (x1.met nx y)) _ Tryz.underlying45 rfl (by kernel_rfl) HX.out.whole ?_)
  refine (clFlush_ok (x1.met nx y) now n0 n1 _ HOK.out).mono ?_
  rintro e w11 ⟨y2, rfl, hy2, hpl2, hown, hb11⟩
  have HX11 := Lib.hid (HX.out.carry hb11)
  have HZ11 := Lib.hid (HZ.out.carry hb11)
  have HB11 := Lib.hid (HB.out.trans (hb11.mono HB.out.size))
  have HY := Lib.hid hy2
  have HPL2 := Lib.hid hpl2
  have HOW := Lib.hid hown
  have hg15w : w.heap.size ≤ g15 := by omega
  have HB10S := Lib.hid HB.out.size
  clear hb11 hy2 hpl2 hown HX HZ HB HOK
  -- [[g5
  go_upto_region 26 with (first
    | (refine wpList_storeP rfl 45 (.tmp 15) (.tmp 117) rfl g15 0 rfl (clc y2) rfl 45 _ HX11.out (by kernel_rfl) (by simp [clc]) (clc_one _) _ (splice_all _ _ (by simp [clc])) ?_
       intro w12 hB12 hw12))
  refine wp_world (fun w' => Blk w' g15 45 (clc y2) ∧ OwnX u8c 1 w' w10.heap.size 5 y2.T y2.tc y2.tok ∧ Blk w' gR 45 z ∧ Below w.heap.size w w') ⟨hB12, HOW.out.wr hw12 (own_ne HOW.out HX11.out (by decide)), HZ11.out.wr hw12 (by omega), hw12.trans_below HB11.out hg15w⟩ ?_
  clear hB12 hw12 HX11 HZ11 HB11 HOW
  rintro w13 ⟨hX, hO, hZ, hb⟩
  have HX := Lib.hid hX
  have HO := Lib.hid hO
  have HZ := Lib.hid hZ
  have HB := Lib.hid hb
  clear hX hO hZ hb
  go_wp2_with (first
    | refine wpList_loadR rfl 45 (.tmp 15) rfl g15 0 rfl (clc y2) _ Tryz.underlying45 rfl (by kernel_rfl) HX.out.whole ?_
    | (refine wpList_storeP rfl 45 (.tmp 6) (.tmp 119) rfl gR 0 rfl (clc y2) rfl 45 _ HZ.out (by kernel_rfl) (by simp [clc, hz]) (clc_one _) _ (splice_all _ _ (by simp [clc, hz])) ?_
       intro w20 hB20 hw20))
  obtain ⟨ep, eid, eto, eword, ekey, elast, etok⟩ := ClM.pl_eq HPL.out
  exact bodyPost_ret (results_c3 _ _ gR _ (clc y2) _ Tryz.results35 rfl hB20 Tryz.underlying45 rfl (by kernel_rfl) rfl rfl) rfl ⟨⟨y2, rfl, { HY.out with rd := (HO.out.wr hw20 (own_ne HO.out HZ.out (by decide))).rd.b }, by rw [HPL2.out]; simp [ClM.pl, ClM.met, ep, eid, eword, elast, etok], (HO.out.wr hw20 (own_ne HO.out HZ.out (by decide))).mono HB10S.out⟩, hw20.trans_below HB.out hqr⟩
  -- ]]g5
  -- ]]g4
  -- ]]g3
  -- ]]g2
  -- ]]g1
end Go.Proofs.YtbcagdjfegobnaaGreat
