/- Texts of the proof, laid together: GreetY. -/
import Derived.Test.YtbcagdjfegobnaaGreatC48
/- Who greets, where tokens are asked for: the contract of greeted. -/
namespace Go.Proofs.YtbcagdjfegobnaaGreat
open Go.ChangeShapes Go.WideShapes Go.ChangeAt Go.RowKit
set_option linter.unusedVariables false

set_option maxRecDepth 100000 in
set_option maxHeartbeats 8000000 in
theorem greeted_yes (secret : Int) (s0 : 0 ≤ secret) (s1 : secret < 18446744073709551616) (p : Nat) (hp : p < 4) (w : World) :
    Calls Tryz.prog 16 #[.int .u64 secret, .bool true, .int .i64 p] w (GreetOut secret true p w) := by
  go_enter Tryz.func16, Tryz.ntmps16
  -- [[v1
  go_upto_region 1 with (fail)
  refine wp_world (fun w' => (∃ z1, z1.size = 18 ∧ Blk w' w.heap.size 29 z1) ∧ (∃ z2, z2.size = 30 ∧ Blk w' (w.heap.size + 1) 45 z2) ∧ Below w.heap.size w w') ⟨⟨_, rfl, (Blk.new _ _ _).alloc _⟩, ⟨_, rfl, Blk.new1 _ _ _ _⟩, ((Below.refl _ _).alloc (Nat.le_refl _) _).alloc (by simp) _⟩ ?_
  rintro w1 ⟨⟨z1, hz1, hR1⟩, ⟨z2, hz2, hR2⟩, hb1⟩
  obtain ⟨r1, hr1⟩ : ∃ q, w.heap.size = q := ⟨_, rfl⟩
  obtain ⟨r2, hr2⟩ : ∃ q, w.heap.size + 1 = q := ⟨_, rfl⟩
  have l3 : w.heap.size ≤ r1 := by omega
  have l4 : w.heap.size ≤ r2 := by omega
  rw [hr2] at hR2 ⊢
  rw [hr1] at hR1 ⊢
  have HR1 := Lib.hid hR1
  have HR2 := Lib.hid hR2
  have HB1 := Lib.hid hb1
  clear hR1 hR2 hb1 hr1 hr2
  go_wp2_with fail
  refine (gateBegin_ok secret true _).mono ?_
  rintro e w2 ⟨rfl, hb2⟩
  have HR1 := Lib.hid (HR1.out.carry hb2)
  have HR2 := Lib.hid (HR2.out.carry hb2)
  have HB2 := Lib.hid (HB1.out.trans (hb2.mono HB1.out.size))
  clear hb2 HB1
  -- [[v2
  go_upto_region 2 with (first
    | (refine wpList_storeP rfl 29 (.tmp 9) (.tmp 25) rfl w2.heap.size 0 rfl (gcs ⟨secret, 0, 1, fun _ => (false, 0, 0), true, 0⟩ none 0 0) rfl 29 _ (Blk.new _ _ _) (by kernel_rfl) (by simp [gcs]) (gcs_one _ _ _ _) _ (splice_all _ _ (by simp [gcs])) ?_
       intro w3 hBw3 hw3))
  have hb3 : Below w2.heap.size w2 w3 := hw3.trans_below ((Below.refl _ _).alloc (Nat.le_refl _) _) (Nat.le_refl _)
  obtain ⟨qg, hqg⟩ : ∃ q, w2.heap.size = q := ⟨_, rfl⟩
  refine wp_world (fun w' => Blk w' qg 29 (gcs ⟨secret, 0, 1, fun _ => (false, 0, 0), true, 0⟩ none 0 0) ∧ Blk w' r1 29 z1 ∧ Blk w' r2 45 z2 ∧ r1 < qg ∧ Below w.heap.size w w') ⟨by rw [← hqg]; exact hBw3, HR1.out.carry hb3, HR2.out.carry hb3, by have := HR1.out.lt; omega, HB2.out.trans (hb3.mono HB2.out.size)⟩ ?_
  rw [hqg]
  clear hqg hb3 hw3 hBw3 HR1 HR2 HB2
  rintro w4 ⟨hG, hR1, hR2, hd1, hb⟩
  have HG := Lib.hid hG
  have HR1 := Lib.hid hR1
  have HR2 := Lib.hid hR2
  have HB4 := Lib.hid hb
  clear hG hR1 hR2 hb
  go_wp2_with fail
  refine (clBegin_ok p 7 hp (by decide) 99 0 (by decide) (by decide) _).mono ?_
  rintro e w5 ⟨rfl, hb5⟩
  have HG := Lib.hid (HG.out.carry hb5)
  have HR1 := Lib.hid (HR1.out.carry hb5)
  have HR2 := Lib.hid (HR2.out.carry hb5)
  have HB5 := Lib.hid (HB4.out.trans (hb5.mono HB4.out.size))
  clear hb5 HB4
  -- [[v3
  go_upto_region 3 with (first
    | (refine wpList_storeP rfl 45 (.tmp 10) (.tmp 29) rfl w5.heap.size 0 rfl (clc ⟨p, 7, 0, 99, 0, 0, [], none, 0, 0, none, 0, none, 0⟩) rfl 45 _ (Blk.new _ _ _) (by kernel_rfl) (by simp [clc]) (clc_one _) _ (splice_all _ _ (by simp [clc])) ?_
       intro w6 hBw6 hw6))
  have hb6 : Below w5.heap.size w5 w6 := hw6.trans_below ((Below.refl _ _).alloc (Nat.le_refl _) _) (Nat.le_refl _)
  obtain ⟨qc, hqc⟩ : ∃ q, w5.heap.size = q := ⟨_, rfl⟩
  obtain ⟨x, hx⟩ : ∃ x : ClM, (⟨p, 7, 0, 99, 0, 0, [], none, 0, 0, none, 0, none, 0⟩ : ClM) = x := ⟨_, rfl⟩
  rw [hx] at hBw6 ⊢
  have hxok : ∀ W, ClOk W x := fun W => by subst hx; exact ⟨hp, by simp, by simp, by simp, by simp, by simp, by simp, rfl, by simp, by simp, by simp, Rd.nil, by simp, by simp, by simp, by simp⟩
  have hxpl : x.pl = (p, 7, 0, 99, 0, 0, []) := by subst hx; rfl
  have hxT : x.T = none := by subst hx; rfl
  have hxtk : x.tok = [] := by subst hx; rfl
  have hxtn : x.tn = 0 := by subst hx; rfl
  have hxtc : x.tc = 0 := by subst hx; rfl
  clear hx
  refine wp_world (fun w' => Blk w' qc 45 (clc x) ∧ Blk w' qg 29 (gcs ⟨secret, 0, 1, fun _ => (false, 0, 0), true, 0⟩ none 0 0) ∧ Blk w' r1 29 z1 ∧ Blk w' r2 45 z2 ∧ r2 < qc ∧ Below w.heap.size w w') ⟨by rw [← hqc]; exact hBw6, HG.out.carry hb6, HR1.out.carry hb6, HR2.out.carry hb6, by have := HR2.out.lt; omega, HB5.out.trans (hb6.mono HB5.out.size)⟩ ?_
  rw [hqc]
  clear hqc hb6 hw6 hBw6 HR1 HR2 HB5 HG
  rintro w7 ⟨hC, hG, hR1, hR2, hd2, hb⟩
  have HC := Lib.hid hC
  have HG := Lib.hid hG
  have HR1 := Lib.hid hR1
  have HR2 := Lib.hid hR2
  have HB7 := Lib.hid hb
  have HXOK := Lib.hid hxok
  have HXT := Lib.hid (And.intro hxT (And.intro hxtk (And.intro hxtn hxtc)))
  have HXPL := Lib.hid hxpl
  clear hC hG hR1 hR2 hb hxok hxT hxtk hxtn hxtc hxpl
  go_wp2_with (refine wpList_loadR rfl 45 (.tmp 10) rfl qc 0 rfl (clc x) _ Tryz.underlying45 rfl (by kernel_rfl) HC.out.whole ?_)
  refine (clHello_ok x _ (HXOK.out _) (by rw [HXT.out.2.2.1]; decide)).mono ?_
  rintro e w8 ⟨B, bc, rfl, hOB, hb8⟩
  obtain ⟨g, hg⟩ : ∃ g : GtD, (⟨secret, 0, 1, fun _ => (false, 0, 0), true, 0⟩ : GtD) = g := ⟨_, rfl⟩
  have hgok : GOk g [] := by
    subst hg
    exact ⟨s0, s1, by simp, by simp, by simp, by simp, by simp, by simp, fun i _ => ⟨⟨by simp, by simp⟩, ⟨by simp, by simp⟩, fun _ => by simp⟩, by simp, fun x hx => absurd hx List.not_mem_nil, List.Pairwise.nil⟩
  have hS : GrSt w qg qc r1 r2 z1 z2 w8 g none 0 0 [] x B bc (greetB (keyI 1 x.id) 0 x.id x.tok x.word.toNat) := by
    refine ⟨HR1.out.carry hb8, HR2.out.carry hb8, (HG.out.carry hb8).as (by rw [hg]), HC.out.carry hb8, ⟨rfl, by decide, by decide, hgok, RdX.nil⟩, OwnX.nil _ _ _, (HXOK.out _), ?_, hOB.mono HB7.out.size, HB7.out.trans (hb8.mono HB7.out.size), by omega, by omega, by omega, by omega, l3, l4⟩
    rw [HXT.out.1, HXT.out.2.1, HXT.out.2.2.2]; exact OwnX.nil _ _ _
  have HS := Lib.hid hS
  have HGF := Lib.hid (show g.secret = secret ∧ g.now = 0 ∧ g.next = ((1 : Nat) : Int) ∧ g.retry = true ∧ g.t = (fun _ => (false, 0, 0)) from by subst hg; exact ⟨rfl, rfl, rfl, rfl, rfl⟩)
  rw [HXT.out.2.2.1]
  clear hS hgok hg hOB hb8 HR1 HR2 HG HC HB7 HXOK hd1 hd2
  -- [[v4
  go_wp2_with fail
  obtain ⟨ex1, ex2, ex3, ex4, ex5, ex6, ex7⟩ := (by simpa [ClM.pl] using HXPL.out : x.p = p ∧ x.id = 7 ∧ x.to_ = 0 ∧ x.word = 99 ∧ x.key = 0 ∧ x.last = 0 ∧ x.tok = [])
  obtain ⟨eg1, eg2, eg3, eg4, eg5⟩ := HGF.out
  have hby : RdB w8 B (greetB (keyI 1 ((7 : Nat) : Int)) 0 7 [] 99) := by
    have := HS.out.byt.rd.b
    rw [ex2, ex7, ex4] at this
    exact this
  have hbcap := HS.out.byt.cap
  have hbl := greetB_len (keyI 1 x.id) 0 x.id x.tok x.word.toNat (by rw [ex7]; decide)
  rw [hbl, ex7] at hbcap
  have HE := hear_refuse p hp 7 99 (by decide) (by decide) [] (by decide) B bc hbcap.1 hbcap.2 g none 0 0 [] (by rw [eg5]) (by rw [eg5]; simp) (by rw [eg5]; simp) 1 eg3 (by decide) rfl w8 HS.out.gv hby (by decide) eg4 (by decide)
  rw [eg5] at HE
  simp only [List.length_nil, Nat.add_zero] at HE
  have HE := Lib.hid HE
  have HEX := Lib.hid (And.intro ex2 (And.intro ex3 (And.intro ex4 ex7)))
  clear ex1 ex2 ex3 ex4 ex5 ex6 ex7 eg1 eg2 eg3 eg4 eg5 hby hbcap hbl
  refine wp_loop_rounds 2 ?_
  rw [rounds_succ]
  go_wp2_with (refine wpList_loadR rfl 29 (.tmp 9) rfl qg 0 rfl (gcs g none 0 0) _ Tryz.underlying29 rfl (by kernel_rfl) HS.out.hg.whole ?_)
  refine (HE.out).mono ?_
  rintro e wAr ⟨g2r, A2r, n2r, c2r, ysr, zsr, O2r, m2r, co2r, ms2r, rfl, hGV, hpl, hPr, hml, hmc, hcm, hMO, hON, hbA⟩
  obtain ⟨⟨hgo, hzl⟩, hn2r, rfl, hplz, rfl, Dr, dcr, rfl⟩ := hPr
  have hn2r : n2r = 0 := hn2r
  subst hn2r
  have HSA := Lib.hid (HS.out.carry hbA)
  have HGVA := Lib.hid hGV
  have HONA := Lib.hid (hON.mono HS.out.b.size)
  have HMOA := Lib.hid hMO
  have HPLAr := Lib.hid (hpl.trans hplz)
  have HCMr := Lib.hid (And.intro hmc hcm)
  clear hGV hpl hml hmc hcm hMO hON hbA hplz hzl
  -- [[yb
  go_upto_region 8 with (first
    | (refine wpList_storeP rfl 29 (.tmp 15) (.tmp 49) rfl wAr.heap.size 0 rfl (gcs (g.set p (false, 0 + ((24 : Nat) : Int), 0 + 20)) A2r 0 c2r) rfl 29 _ (Blk.new _ _ _) (by kernel_rfl) (by simp [gcs]) (gcs_one _ _ _ _) _ (splice_all _ _ (by simp [gcs])) ?_
       intro wBr hBwB hwB))
  have hbB : Below wAr.heap.size wAr wBr := hwB.trans_below ((Below.refl _ _).alloc (Nat.le_refl _) _) (Nat.le_refl _)
  have HSB := Lib.hid (HSA.out.carry hbB)
  go_upto_region 9 with (first
    | refine wpList_loadR rfl 29 (.tmp 15) rfl wAr.heap.size 0 rfl (gcs (g.set p (false, 0 + ((24 : Nat) : Int), 0 + 20)) A2r 0 c2r) _ Tryz.underlying29 rfl (by kernel_rfl) hBwB.whole ?_
    | (refine wpList_storeP rfl 29 (.tmp 9) (.tmp 52) rfl qg 0 rfl (gcs (g.set p (false, 0 + ((24 : Nat) : Int), 0 + 20)) A2r 0 c2r) rfl 29 _ HSB.out.hg (by kernel_rfl) (by simp [gcs]) (gcs_one _ _ _ _) _ (splice_all _ _ (by simp [gcs])) ?_
       intro wCr hBwC hwC))
  refine wp_world (fun w' => GrSt w qg qc r1 r2 z1 z2 w' (g.set p (false, 0 + ((24 : Nat) : Int), 0 + 20)) A2r 0 c2r ysr x B bc (greetB (keyI 1 x.id) 0 x.id x.tok x.word.toNat) ∧ MlOwn w' w8.heap.size O2r co2r [⟨p, Dr, 20, dcr, retryB 7 (tokB g.secret p g.now)⟩]) ⟨HSB.out.setG hwC hBwC (HGVA.out.below hbB) (HONA.out.carry hbB), (HMOA.out.carry hbB).wrG hwC HSB.out.hg (by decide) (by decide)⟩ ?_
  clear HSA HSB HGVA HONA HMOA hbB hwB hBwB hwC hBwC HS
  rintro wDr ⟨hS, hM⟩
  obtain ⟨bOr, oOr, rfl, hcO⟩ := ml_cell hM.1
  have HSD := Lib.hid hS
  have HMD := Lib.hid (hM.2 _ List.mem_cons_self)
  have HCO := Lib.hid hcO
  clear hS hM hcO
  -- [[yc
  go_wp2_with fail
  refine wp_loop_rounds 2 ?_
  rw [rounds_succ]
  go_upto_region 12 with (refine wpList_loadR rfl 75 (.tmp 57) rfl bOr oOr rfl #[.int .i64 (⟨p, Dr, 20, dcr, retryB 7 (tokB g.secret p g.now)⟩ : MlB).peer, .slice (⟨p, Dr, 20, dcr, retryB 7 (tokB g.secret p g.now)⟩ : MlB).D (⟨p, Dr, 20, dcr, retryB 7 (tokB g.secret p g.now)⟩ : MlB).n (⟨p, Dr, 20, dcr, retryB 7 (tokB g.secret p g.now)⟩ : MlB).c] _ Tryz.underlying75 rfl (by kernel_rfl) HCO.out ?_)
  obtain ⟨qmr, hqm⟩ : ∃ q, wDr.heap.size = q := ⟨_, rfl⟩
  refine wp_world (fun w' => Blk w' qmr 75 #[.int .i64 (⟨p, Dr, 20, dcr, retryB 7 (tokB g.secret p g.now)⟩ : MlB).peer, .slice (⟨p, Dr, 20, dcr, retryB 7 (tokB g.secret p g.now)⟩ : MlB).D (⟨p, Dr, 20, dcr, retryB 7 (tokB g.secret p g.now)⟩ : MlB).n (⟨p, Dr, 20, dcr, retryB 7 (tokB g.secret p g.now)⟩ : MlB).c] ∧ GrSt w qg qc r1 r2 z1 z2 w' (g.set p (false, 0 + ((24 : Nat) : Int), 0 + 20)) A2r 0 c2r ysr x B bc (greetB (keyI 1 x.id) 0 x.id x.tok x.word.toNat) ∧ OwnX u8c 1 w' 0 5 (⟨p, Dr, 20, dcr, retryB 7 (tokB g.secret p g.now)⟩ : MlB).D (⟨p, Dr, 20, dcr, retryB 7 (tokB g.secret p g.now)⟩ : MlB).c (⟨p, Dr, 20, dcr, retryB 7 (tokB g.secret p g.now)⟩ : MlB).data) ⟨Blk.newF hqm, HSD.out.carry ((Below.refl _ _).alloc (Nat.le_refl _) _), HMD.out.1.alloc _⟩ ?_
  rw [hqm]
  clear hqm HSD HMD HCO
  rintro wEr ⟨hQ, hS, hD⟩
  have HSE := Lib.hid hS
  have HDE := Lib.hid hD
  have fm1 : wEr.cell? ⟨qmr, 1, none⟩ = some (.slice (⟨p, Dr, 20, dcr, retryB 7 (tokB g.secret p g.now)⟩ : MlB).D (⟨p, Dr, 20, dcr, retryB 7 (tokB g.secret p g.now)⟩ : MlB).n (⟨p, Dr, 20, dcr, retryB 7 (tokB g.secret p g.now)⟩ : MlB).c) := by rw [hQ.cell]; rfl
  have hqml := hQ.lt
  clear hQ hS hD
  -- [[yd
  obtain ⟨e2, e3, e4, e7⟩ := HEX.out
  have hdat : RdB wEr Dr (retryB x.id (tokB g.secret p g.now)) := by rw [e2]; exact HDE.out.rd.b
  have hdcap := HDE.out.cap
  have htl : (tokB g.secret p g.now).length = 16 := tokB_length _ _ _
  have hdl : (retryB 7 (tokB g.secret p g.now)).length = 20 := by rw [retryB_len _ _ (by rw [htl]; decide), htl]
  have hdlx : (retryB x.id (tokB g.secret p g.now)).length = 20 := by rw [retryB_len _ _ (by rw [htl]; decide), htl]
  rw [show ((⟨p, Dr, 20, dcr, retryB 7 (tokB g.secret p g.now)⟩ : MlB).data).length = 20 from hdl] at hdcap
  have hdec : hdec (retryB x.id (tokB g.secret p g.now)) = (⟨1, x.id, 0, tokB g.secret p g.now, 0, 0⟩, 20, 0) := by
    have := retryB_dec x.id (tokB g.secret p g.now) (by rw [e2]; decide) (by rw [htl]; decide)
    rw [hdlx] at this
    exact this
  have HCHr := clHear_retry x 0 (by decide) (by decide) 0 (tokB g.secret p g.now) e7 (by rw [htl]; decide) (by rw [htl]; decide) e3 Dr 20 dcr (retryB x.id (tokB g.secret p g.now)) hdlx hdcap.1 hdcap.2 (by decide) hdec wEr HSE.out.ok hdat
  simp only [htl] at HCHr
  have HCHr := Lib.hid HCHr
  clear e2 e3 e4 e7 hdat hdcap hdl hdlx hdec htl
  go_wp2_with (refine wpList_loadR rfl 45 (.tmp 10) rfl qc 0 rfl (clc x) _ Tryz.underlying45 rfl (by kernel_rfl) HSE.out.hc.whole ?_)
  refine (HCHr.out).mono ?_
  rintro e wFr ⟨⟨y2r, O1, D1, dc1, rfl, hy, ⟨T1, d1, hypl⟩, hO1, hD1, hle1, hyo⟩, hbF⟩
  have HSF := Lib.hid (HSE.out.carry hbF)
  have hsF := hbF.size
  clear hbF fm1 hqml
  have HYr := Lib.hid hy
  have HYPLr := Lib.hid hypl
  have HYOr := Lib.hid (hyo.mono HSE.out.b.size)
  have HO1 := Lib.hid hO1
  have HD1 := Lib.hid (hD1.mono HSE.out.b.size)
  clear hy hypl hyo hO1 hD1 hle1 HSE HDE HCHr
  -- [[ye
  go_upto_region 15 with (first
    | (refine wpList_storeP rfl 45 (.tmp 20) (.tmp 64) rfl wFr.heap.size 0 rfl (clc y2r) rfl 45 _ (Blk.new _ _ _) (by kernel_rfl) (by simp [clc]) (clc_one _) _ (splice_all _ _ (by simp [clc])) ?_
       intro wGr hBwG hwG
       have hbG : Below wFr.heap.size wFr wGr := hwG.trans_below ((Below.refl _ _).alloc (Nat.le_refl _) _) (Nat.le_refl _)
       have HSG := Lib.hid (HSF.out.carry hbG))
    | refine wpList_loadR rfl 45 (.tmp 20) rfl wFr.heap.size 0 rfl (clc y2r) _ Tryz.underlying45 rfl (by kernel_rfl) hBwG.whole ?_
    | (refine wpList_storeP rfl 45 (.tmp 10) (.tmp 72) rfl qc 0 rfl (clc y2r) rfl 45 _ HSG.out.hc (by kernel_rfl) (by simp [clc]) (clc_one _) _ (splice_all _ _ (by simp [clc])) ?_
       intro wHr hBwH hwH))
  have hO1H := (HO1.out.carry hbG).wr hwH (Blk.ne (HO1.out.carry hbG) HSG.out.hc (by decide))
  have hD1H := (HD1.out.carry hbG).wr hwH (own_ne (HD1.out.carry hbG) HSG.out.hc (by decide))
  refine wp_world (fun w' => GrSt w qg qc r1 r2 z1 z2 w' (g.set p (false, 0 + ((24 : Nat) : Int), 0 + 20)) A2r 0 c2r ysr y2r D1 dc1 (greetB (keyI 1 x.id) 0 x.id (tokB g.secret p g.now) x.word.toNat) ∧ Blk w' O1 30 #[.slice D1 (24 + 16) dc1]) ⟨{ HSG.out.setC hwH hBwH (HYr.out.below hbG) (HYOr.out.carry hbG) with byt := hD1H }, hO1H⟩ ?_
  clear HSF HSG HYr HYOr hbG hwG hBwG hwH hBwH hsF hO1H hD1H HO1 HD1
  rintro wI ⟨hS, hO1⟩
  have HSI := Lib.hid hS
  have hypl' : y2r.id = 7 ∧ y2r.to_ = 0 ∧ y2r.word = 99 ∧ y2r.tok = tokB g.secret p g.now ∧ y2r.p = p ∧ y2r.last = 0 := by
    have h := HYPLr.out
    have hxp := HXPL.out
    simp only [ClM.pl, Prod.mk.injEq] at hxp
    simp only [ClM.pl, ClM.told, hxp, Prod.mk.injEq] at h
    exact ⟨h.2.1, h.2.2.1, h.2.2.2.1, h.2.2.2.2.2.2, h.1, h.2.2.2.2.2.1⟩
  have HY1 := Lib.hid hypl'
  have ft : wI.cell? ⟨qc, 4, none⟩ = some (.int .i64 0) := by rw [(clFacts hS.hc).2.2.2.2.2.1, hypl'.2.1]; rfl
  have hqcl : qc < wI.heap.size := hS.hc.lt
  have fo : wI.cell? ⟨O1, 0, none⟩ = some (.slice D1 40 dc1) := hO1.one0
  have hol : O1 < wI.heap.size := hO1.lt
  clear hS hypl' hO1
  go_wp2_with fail
  rw [rounds_succ]
  go_wp2_with fail
  rw [rounds_succ]
  clear ft hqcl fo hol
  -- [[yg
  obtain ⟨eg1, eg2, eg3, eg4, eg5⟩ := HGF.out
  have htl : (tokB g.secret p g.now).length = 16 := tokB_length _ _ _
  have hby : RdB wI D1 (greetB (keyI 1 ((7 : Nat) : Int)) 0 7 (tokB g.secret p g.now) 99) := by
    have := HSI.out.byt.rd.b
    rw [HEX.out.1, HEX.out.2.2.1] at this
    exact this
  have hbcap := HSI.out.byt.cap
  have hbl := greetB_len (keyI 1 x.id) 0 x.id (tokB g.secret p g.now) x.word.toNat (by rw [htl]; decide)
  rw [hbl] at hbcap
  have hgt : (GtD.t (g.set p (false, 0 + ((24 : Nat) : Int), 0 + 20)) p) = (false, 0 + ((24 : Nat) : Int), 0 + 20) := upd_at _ _ _
  have hysr : ysr = [] := by
    have := HPLAr.out
    simpa using this
  have HE2 := hear_take p hp 7 99 (by decide) (by decide) (tokB g.secret p g.now) (by rw [htl]; decide) D1 dc1 hbcap.1 hbcap.2 (g.set p (false, 0 + ((24 : Nat) : Int), 0 + 20)) A2r 0 c2r ysr (by rw [hgt]) (by rw [hgt]; decide) (by rw [hgt]; decide) 1 eg3 (by decide) (by rw [hysr]; rfl) wI HSI.out.gv hby (by decide) eg4 rfl
  rw [hgt] at HE2
  simp only [htl] at HE2
  have HE2 := Lib.hid HE2
  have HYSR := Lib.hid hysr
  clear eg1 eg2 eg3 eg4 eg5 hby hbcap hbl hgt hysr htl
  go_wp2_with (refine wpList_loadR rfl 29 (.tmp 9) rfl qg 0 rfl (gcs (g.set p (false, 0 + ((24 : Nat) : Int), 0 + 20)) A2r 0 c2r) _ Tryz.underlying29 rfl (by kernel_rfl) HSI.out.hg.whole ?_)
  refine (HE2.out).mono ?_
  rintro e wA ⟨g2, A2, n2, c2, ys, zs, O2, m2, co2, ms2, rfl, hGV, hpl, hPr, hml, hmc, hcm, hMO, hON, hbA⟩
  obtain ⟨⟨hgo, hzl⟩, hn2, rfl, hplz, rfl, D, dc, rfl⟩ := hPr
  have hn2 : n2 = 1 := hn2
  subst hn2
  have HSA := Lib.hid (HSI.out.carry hbA)
  have HGVA := Lib.hid hGV
  have HONA := Lib.hid (hON.mono HSI.out.b.size)
  have HMOA := Lib.hid hMO
  have HPLA := Lib.hid (hpl.trans hplz)
  have HCM := Lib.hid (And.intro hmc hcm)
  clear hGV hpl hml hmc hcm hMO hON hbA hplz hzl
  -- [[zb
  go_upto_region 8 with (first
    | (refine wpList_storeP rfl 29 (.tmp 15) (.tmp 49) rfl wA.heap.size 0 rfl (gcs (gMore (g.set p (false, 0 + ((24 : Nat) : Int), 0 + 20)) p (true, 0 + ((24 : Nat) : Int) + ((24 + 16 : Nat) : Int), 0 + 20 + 24)) A2 1 c2) rfl 29 _ (Blk.new _ _ _) (by kernel_rfl) (by simp [gcs]) (gcs_one _ _ _ _) _ (splice_all _ _ (by simp [gcs])) ?_
       intro wB hBwB hwB))
  have hbB : Below wA.heap.size wA wB := hwB.trans_below ((Below.refl _ _).alloc (Nat.le_refl _) _) (Nat.le_refl _)
  have HSB := Lib.hid (HSA.out.carry hbB)
  go_upto_region 9 with (first
    | refine wpList_loadR rfl 29 (.tmp 15) rfl wA.heap.size 0 rfl (gcs (gMore (g.set p (false, 0 + ((24 : Nat) : Int), 0 + 20)) p (true, 0 + ((24 : Nat) : Int) + ((24 + 16 : Nat) : Int), 0 + 20 + 24)) A2 1 c2) _ Tryz.underlying29 rfl (by kernel_rfl) hBwB.whole ?_
    | (refine wpList_storeP rfl 29 (.tmp 9) (.tmp 52) rfl qg 0 rfl (gcs (gMore (g.set p (false, 0 + ((24 : Nat) : Int), 0 + 20)) p (true, 0 + ((24 : Nat) : Int) + ((24 + 16 : Nat) : Int), 0 + 20 + 24)) A2 1 c2) rfl 29 _ HSB.out.hg (by kernel_rfl) (by simp [gcs]) (gcs_one _ _ _ _) _ (splice_all _ _ (by simp [gcs])) ?_
       intro wC hBwC hwC))
  refine wp_world (fun w' => GrSt w qg qc r1 r2 z1 z2 w' (gMore (g.set p (false, 0 + ((24 : Nat) : Int), 0 + 20)) p (true, 0 + ((24 : Nat) : Int) + ((24 + 16 : Nat) : Int), 0 + 20 + 24)) A2 1 c2 ys y2r D1 dc1 (greetB (keyI 1 x.id) 0 x.id (tokB g.secret p g.now) x.word.toNat) ∧ MlOwn w' wI.heap.size O2 co2 [⟨p, D, 24, dc, greetB (keyI 1 ((7 : Nat) : Int)) 7 1 [] (keyI (GtD.secret (g.set p (false, 0 + ((24 : Nat) : Int), 0 + 20))) ((1 : Nat) : Int)).toNat⟩]) ⟨HSB.out.setG hwC hBwC (HGVA.out.below hbB) (HONA.out.carry hbB), (HMOA.out.carry hbB).wrG hwC HSB.out.hg (by decide) (by decide)⟩ ?_
  clear HSA HSB HGVA HONA HMOA hbB hwB hBwB hwC hBwC HSI
  rintro wD ⟨hS, hM⟩
  obtain ⟨bO, oO, rfl, hcO⟩ := ml_cell hM.1
  have HSD := Lib.hid hS
  have HMD := Lib.hid (hM.2 _ List.mem_cons_self)
  have HCO := Lib.hid hcO
  clear hS hM hcO
  -- [[zc
  go_wp2_with fail
  refine wp_loop_rounds 2 ?_
  rw [rounds_succ]
  go_upto_region 12 with (refine wpList_loadR rfl 75 (.tmp 57) rfl bO oO rfl #[.int .i64 (⟨p, D, 24, dc, greetB (keyI 1 ((7 : Nat) : Int)) 7 1 [] (keyI (GtD.secret (g.set p (false, 0 + ((24 : Nat) : Int), 0 + 20))) ((1 : Nat) : Int)).toNat⟩ : MlB).peer, .slice (⟨p, D, 24, dc, greetB (keyI 1 ((7 : Nat) : Int)) 7 1 [] (keyI (GtD.secret (g.set p (false, 0 + ((24 : Nat) : Int), 0 + 20))) ((1 : Nat) : Int)).toNat⟩ : MlB).D (⟨p, D, 24, dc, greetB (keyI 1 ((7 : Nat) : Int)) 7 1 [] (keyI (GtD.secret (g.set p (false, 0 + ((24 : Nat) : Int), 0 + 20))) ((1 : Nat) : Int)).toNat⟩ : MlB).n (⟨p, D, 24, dc, greetB (keyI 1 ((7 : Nat) : Int)) 7 1 [] (keyI (GtD.secret (g.set p (false, 0 + ((24 : Nat) : Int), 0 + 20))) ((1 : Nat) : Int)).toNat⟩ : MlB).c] _ Tryz.underlying75 rfl (by kernel_rfl) HCO.out ?_)
  obtain ⟨qm, hqm⟩ : ∃ q, wD.heap.size = q := ⟨_, rfl⟩
  refine wp_world (fun w' => Blk w' qm 75 #[.int .i64 (⟨p, D, 24, dc, greetB (keyI 1 ((7 : Nat) : Int)) 7 1 [] (keyI (GtD.secret (g.set p (false, 0 + ((24 : Nat) : Int), 0 + 20))) ((1 : Nat) : Int)).toNat⟩ : MlB).peer, .slice (⟨p, D, 24, dc, greetB (keyI 1 ((7 : Nat) : Int)) 7 1 [] (keyI (GtD.secret (g.set p (false, 0 + ((24 : Nat) : Int), 0 + 20))) ((1 : Nat) : Int)).toNat⟩ : MlB).D (⟨p, D, 24, dc, greetB (keyI 1 ((7 : Nat) : Int)) 7 1 [] (keyI (GtD.secret (g.set p (false, 0 + ((24 : Nat) : Int), 0 + 20))) ((1 : Nat) : Int)).toNat⟩ : MlB).n (⟨p, D, 24, dc, greetB (keyI 1 ((7 : Nat) : Int)) 7 1 [] (keyI (GtD.secret (g.set p (false, 0 + ((24 : Nat) : Int), 0 + 20))) ((1 : Nat) : Int)).toNat⟩ : MlB).c] ∧ GrSt w qg qc r1 r2 z1 z2 w' (gMore (g.set p (false, 0 + ((24 : Nat) : Int), 0 + 20)) p (true, 0 + ((24 : Nat) : Int) + ((24 + 16 : Nat) : Int), 0 + 20 + 24)) A2 1 c2 ys y2r D1 dc1 (greetB (keyI 1 x.id) 0 x.id (tokB g.secret p g.now) x.word.toNat) ∧ OwnX u8c 1 w' 0 5 (⟨p, D, 24, dc, greetB (keyI 1 ((7 : Nat) : Int)) 7 1 [] (keyI (GtD.secret (g.set p (false, 0 + ((24 : Nat) : Int), 0 + 20))) ((1 : Nat) : Int)).toNat⟩ : MlB).D (⟨p, D, 24, dc, greetB (keyI 1 ((7 : Nat) : Int)) 7 1 [] (keyI (GtD.secret (g.set p (false, 0 + ((24 : Nat) : Int), 0 + 20))) ((1 : Nat) : Int)).toNat⟩ : MlB).c (⟨p, D, 24, dc, greetB (keyI 1 ((7 : Nat) : Int)) 7 1 [] (keyI (GtD.secret (g.set p (false, 0 + ((24 : Nat) : Int), 0 + 20))) ((1 : Nat) : Int)).toNat⟩ : MlB).data) ⟨Blk.newF hqm, HSD.out.carry ((Below.refl _ _).alloc (Nat.le_refl _) _), HMD.out.1.alloc _⟩ ?_
  rw [hqm]
  clear hqm HSD HMD HCO
  rintro wE ⟨hQ, hS, hD⟩
  have HSE := Lib.hid hS
  have HDE := Lib.hid hD
  have fm1 : wE.cell? ⟨qm, 1, none⟩ = some (.slice (⟨p, D, 24, dc, greetB (keyI 1 ((7 : Nat) : Int)) 7 1 [] (keyI (GtD.secret (g.set p (false, 0 + ((24 : Nat) : Int), 0 + 20))) ((1 : Nat) : Int)).toNat⟩ : MlB).D (⟨p, D, 24, dc, greetB (keyI 1 ((7 : Nat) : Int)) 7 1 [] (keyI (GtD.secret (g.set p (false, 0 + ((24 : Nat) : Int), 0 + 20))) ((1 : Nat) : Int)).toNat⟩ : MlB).n (⟨p, D, 24, dc, greetB (keyI 1 ((7 : Nat) : Int)) 7 1 [] (keyI (GtD.secret (g.set p (false, 0 + ((24 : Nat) : Int), 0 + 20))) ((1 : Nat) : Int)).toNat⟩ : MlB).c) := by rw [hQ.cell]; rfl
  have hqml := hQ.lt
  clear hQ hS hD
  -- [[zd
  obtain ⟨e2, e3, e4, e7, e8, e9⟩ := HY1.out
  have hdat : RdB wE D (greetB (keyI 1 y2r.id) y2r.id 1 [] (keyI (GtD.secret (g.set p (false, 0 + ((24 : Nat) : Int), 0 + 20))) ((1 : Nat) : Int)).toNat) := by rw [e2]; exact HDE.out.rd.b
  have hdcap := HDE.out.cap
  have hdl : (greetB (keyI 1 ((7 : Nat) : Int)) 7 1 [] (keyI (GtD.secret (g.set p (false, 0 + ((24 : Nat) : Int), 0 + 20))) ((1 : Nat) : Int)).toNat).length = 24 := greetB_len _ _ _ [] _ (by decide)
  rw [show ((⟨p, D, 24, dc, greetB (keyI 1 ((7 : Nat) : Int)) 7 1 [] (keyI (GtD.secret (g.set p (false, 0 + ((24 : Nat) : Int), 0 + 20))) ((1 : Nat) : Int)).toNat⟩ : MlB).data).length = 24 from hdl] at hdcap
  have HCH := Lib.hid (clHear_first y2r 0 (by decide) (by decide) 1 (keyI (GtD.secret (g.set p (false, 0 + ((24 : Nat) : Int), 0 + 20))) ((1 : Nat) : Int)).toNat (by decide) (by decide) (keyI_nat _ _) e3 _ D 24 dc _ (greetB_len _ _ _ [] _ (by decide)) hdcap.1 hdcap.2 (by decide) (greetB_dec (keyI 1 y2r.id) y2r.id 1 [] (keyI (GtD.secret (g.set p (false, 0 + ((24 : Nat) : Int), 0 + 20))) ((1 : Nat) : Int)).toNat (by rw [e2]; decide) (by decide) (by decide)) rfl rfl wE HSE.out.ok hdat)
  clear e2 e3 e4 e7 e8 e9 hdat hdcap hdl
  go_wp2_with (refine wpList_loadR rfl 45 (.tmp 10) rfl qc 0 rfl (clc y2r) _ Tryz.underlying45 rfl (by kernel_rfl) HSE.out.hc.whole ?_)
  refine (HCH.out).mono ?_
  rintro e wF ⟨⟨y2, rfl, hy, hypl, hyo⟩, hbF⟩
  have HSF := Lib.hid (HSE.out.carry hbF)
  have hsF := hbF.size
  clear hbF fm1 hqml
  have HY := Lib.hid hy
  have HYPL := Lib.hid hypl
  have HYO := Lib.hid (hyo.mono HSE.out.b.size)
  clear hy hypl hyo HSE HDE HCH
  -- [[ze
  go_upto_region 15 with (first
    | (refine wpList_storeP rfl 45 (.tmp 20) (.tmp 64) rfl wF.heap.size 0 rfl (clc y2) rfl 45 _ (Blk.new _ _ _) (by kernel_rfl) (by simp [clc]) (clc_one _) _ (splice_all _ _ (by simp [clc])) ?_
       intro wG hBwG hwG
       have hbG : Below wF.heap.size wF wG := hwG.trans_below ((Below.refl _ _).alloc (Nat.le_refl _) _) (Nat.le_refl _)
       have HSG := Lib.hid (HSF.out.carry hbG))
    | refine wpList_loadR rfl 45 (.tmp 20) rfl wF.heap.size 0 rfl (clc y2) _ Tryz.underlying45 rfl (by kernel_rfl) hBwG.whole ?_
    | (refine wpList_storeP rfl 45 (.tmp 10) (.tmp 72) rfl qc 0 rfl (clc y2) rfl 45 _ HSG.out.hc (by kernel_rfl) (by simp [clc]) (clc_one _) _ (splice_all _ _ (by simp [clc])) ?_
       intro wH hBwH hwH))
  refine wp_world (fun w' => GrSt w qg qc r1 r2 z1 z2 w' (gMore (g.set p (false, 0 + ((24 : Nat) : Int), 0 + 20)) p (true, 0 + ((24 : Nat) : Int) + ((24 + 16 : Nat) : Int), 0 + 20 + 24)) A2 1 c2 ys y2 D1 dc1 (greetB (keyI 1 x.id) 0 x.id (tokB g.secret p g.now) x.word.toNat)) (HSG.out.setC hwH hBwH (HY.out.below hbG) (HYO.out.carry hbG)) ?_
  clear HSF HSG HY HYO hbG hwG hBwG hwH hBwH hsF
  rintro wK hS
  have HSK := Lib.hid hS
  have ht1 : y2.to_ = 1 := by
    have := HYPL.out
    simp [ClM.pl, ClM.met] at this
    exact this.2.2.1
  have ft : wK.cell? ⟨qc, 4, none⟩ = some (.int .i64 1) := by rw [(clFacts hS.hc).2.2.2.2.2.1, ht1]; rfl
  have hqcl : qc < wK.heap.size := hS.hc.lt
  clear hS
  have HT1 := Lib.hid ht1
  clear ht1
  go_wp2_with fail
  rw [rounds_succ]
  go_upto_region 20 with (fail)
  clear ft hqcl
  -- [[zh
  have HST := Lib.hid (show ∀ w0 w1, Below w0.heap.size w0 w1 → Stays (fun w' => ∃ z1 z2, GrSt w qg qc r1 r2 z1 z2 w' (gMore (g.set p (false, 0 + ((24 : Nat) : Int), 0 + 20)) p (true, 0 + ((24 : Nat) : Int) + ((24 + 16 : Nat) : Int), 0 + 20 + 24)) A2 1 c2 ys y2 D1 dc1 (greetB (keyI 1 x.id) 0 x.id (tokB g.secret p g.now) x.word.toNat) ∧ z1.size = 18 ∧ z2.size = 30) (fun k v w' => (k = 8 → Blk w' r1 29 (gcs (gMore (g.set p (false, 0 + ((24 : Nat) : Int), 0 + 20)) p (true, 0 + ((24 : Nat) : Int) + ((24 + 16 : Nat) : Int), 0 + 20 + 24)) A2 1 c2)) ∧ (k = 9 → Blk w' r2 45 (clc y2))) w0 w1 from fun w0 w1 hb => ⟨fun h1 => by obtain ⟨z1, z2, hS, h2⟩ := h1; exact ⟨z1, z2, hS.carry hb, h2⟩, fun k v hW => ⟨fun e => (fun hp => hp.carry hb) (hW.1 e), fun e => (fun hp => hp.carry hb) (hW.2 e)⟩⟩)
  refine wp_flowS (fun k => decide (k < 10)) (fun k => k == 8 || k == 9) 92 [0, 1, 2, 3, 4, 5, 6, 7, 8, 9] (fun w' => ∃ z1 z2, GrSt w qg qc r1 r2 z1 z2 w' (gMore (g.set p (false, 0 + ((24 : Nat) : Int), 0 + 20)) p (true, 0 + ((24 : Nat) : Int) + ((24 + 16 : Nat) : Int), 0 + 20 + 24)) A2 1 c2 ys y2 D1 dc1 (greetB (keyI 1 x.id) 0 x.id (tokB g.secret p g.now) x.word.toNat) ∧ z1.size = 18 ∧ z2.size = 30) (fun k v w' => (k = 8 → Blk w' r1 29 (gcs (gMore (g.set p (false, 0 + ((24 : Nat) : Int), 0 + 20)) p (true, 0 + ((24 : Nat) : Int) + ((24 + 16 : Nat) : Int), 0 + 20 + 24)) A2 1 c2)) ∧ (k = 9 → Blk w' r2 45 (clc y2))) (by kernel_rfl) ?hflB ?hpuB ?hksB (fun _ _ _ _ _ h => h) rfl ?hC ?_
  case hflB => kernel_rfl
  case hpuB => kernel_rfl
  case hksB => kernel_rfl
  case hC => exact ⟨z1, z2, HSK.out.carry (Below.refl _ _).drew, hz1, hz2⟩
  refine fqR 84 (gcs (gMore (g.set p (false, 0 + ((24 : Nat) : Int), 0 + 20)) p (true, 0 + ((24 : Nat) : Int) + ((24 + 16 : Nat) : Int), 0 + 20 + 24)) A2 1 c2) 29 (.tmp 9) qg 0 _ (by kernel_rfl) (by kernel_rfl) (by kernel_rfl) (by kernel_rfl) (by kernel_rfl) (by kernel_rfl) Tryz.underlying29 rfl (by kernel_rfl) (fun w hw => by obtain ⟨z1, z2, hS, _⟩ := hw.1; exact hS.hg.whole) ?_
  refine fqR 85 (clc y2) 45 (.tmp 10) qc 0 _ (by kernel_rfl) (by kernel_rfl) (by kernel_rfl) (by kernel_rfl) (by kernel_rfl) (by kernel_rfl) Tryz.underlying45 rfl (by kernel_rfl) (fun w hw => by obtain ⟨z1, z2, hS, _⟩ := hw.1; exact hS.hc.whole) ?_
  refine fq 86 (.bool true) (by kernel_rfl) (by kernel_rfl) (by kernel_rfl) (by kernel_rfl) (fun w => (by kernel_rfl)) ?_
  refine fq 87 (.bool true) (by kernel_rfl) (by kernel_rfl) (by kernel_rfl) (by kernel_rfl) (fun w => (by kernel_rfl)) ?_
  refine fq 88 (.pointer (some ⟨qc, 4, none⟩)) (by kernel_rfl) (by kernel_rfl) (by kernel_rfl) (by kernel_rfl) (fun w => (by kernel_rfl)) ?_
  refine fq1 89 (.int .i64 1) 3 (.tmp 88) qc 4 _ (by kernel_rfl) (by kernel_rfl) (by kernel_rfl) (by kernel_rfl) (by kernel_rfl) (by kernel_rfl) Tryz.underlying3 rfl (fun w hw => by obtain ⟨z1, z2, hS, _⟩ := hw.1; rw [(clFacts hS.hc).2.2.2.2.2.1, HT1.out]; rfl) ?_
  refine fq 90 (.bool true) (by kernel_rfl) (by kernel_rfl) (by kernel_rfl) (by kernel_rfl) (fun w => (by kernel_rfl)) ?_
  refine fq 91 (.bool true) (by kernel_rfl) (by kernel_rfl) (by kernel_rfl) (by kernel_rfl) (fun w => (by kernel_rfl)) ?_
  refine fstoreP (by kernel_rfl) (by kernel_rfl) (by kernel_rfl) (by kernel_rfl) 29 (.tmp 6) (.tmp 84) (by kernel_rfl) r1 0 (by kernel_rfl) (gcs (gMore (g.set p (false, 0 + ((24 : Nat) : Int), 0 + 20)) p (true, 0 + ((24 : Nat) : Int) + ((24 + 16 : Nat) : Int), 0 + 20 + 24)) A2 1 c2) (by kernel_rfl) 29 (by kernel_rfl) (gcs_one _ _ _ _) (fun W hw => ?hst8) ?_
  case hst8 =>
    obtain ⟨⟨z1, z2, hS, h1, h2⟩, hfs⟩ := hw
    refine ⟨z1, hS.hr1, by simp [gcs, h1], fun w' hB' hw' => ?_⟩
    have hB' := hB'.as (splice_all _ _ (by simp [gcs, h1]))
    have hC' : ∃ z1 z2, GrSt w qg qc r1 r2 z1 z2 w' (gMore (g.set p (false, 0 + ((24 : Nat) : Int), 0 + 20)) p (true, 0 + ((24 : Nat) : Int) + ((24 + 16 : Nat) : Int), 0 + 20 + 24)) A2 1 c2 ys y2 D1 dc1 (greetB (keyI 1 x.id) 0 x.id (tokB g.secret p g.now) x.word.toNat) ∧ z1.size = 18 ∧ z2.size = 30 := ⟨_, z2, hS.setR1 hw' hB', by simp [gcs], h2⟩
    exact ⟨⟨fun _ => hB', fun e => absurd e (by decide)⟩, hC', ⟨fun _ => hC', fun k v hv => ⟨fun _ => hB', fun e => (hv.2 e).wr hw' (Blk.ne (hv.2 e) hS.hr1 (by decide))⟩⟩⟩
  rintro v -
  refine fstoreP (by kernel_rfl) (by kernel_rfl) (by kernel_rfl) (by kernel_rfl) 45 (.tmp 7) (.tmp 85) (by kernel_rfl) r2 0 (by kernel_rfl) (clc y2) (by kernel_rfl) 45 (by kernel_rfl) (clc_one _) (fun W hw => ?hst9) ?_
  case hst9 =>
    obtain ⟨⟨z1, z2, hS, h1, h2⟩, hfs⟩ := hw
    refine ⟨z2, hS.hr2, by simp [clc, h2], fun w' hB' hw' => ?_⟩
    have hB' := hB'.as (splice_all _ _ (by simp [clc, h2]))
    have hC' : ∃ z1 z2, GrSt w qg qc r1 r2 z1 z2 w' (gMore (g.set p (false, 0 + ((24 : Nat) : Int), 0 + 20)) p (true, 0 + ((24 : Nat) : Int) + ((24 + 16 : Nat) : Int), 0 + 20 + 24)) A2 1 c2 ys y2 D1 dc1 (greetB (keyI 1 x.id) 0 x.id (tokB g.secret p g.now) x.word.toNat) ∧ z1.size = 18 ∧ z2.size = 30 := ⟨z1, _, hS.setR2 hw' hB', h1, by simp [clc]⟩
    exact ⟨⟨fun e => absurd e (by decide), fun _ => hB'⟩, hC', ⟨fun _ => hC', fun k v hv => ⟨fun e => (hv.1 e).wr hw' (Blk.ne (hv.1 e) hS.hr2 (by decide)), fun _ => hB'⟩⟩⟩
  rintro v -
  refine fend [10] (by kernel_rfl) (by kernel_rfl) ?_
  intro wJ hwJ hF
  have hQ2 := (hF _ List.mem_cons_self).2 rfl
  have hQ1 := (hF _ (List.mem_cons_of_mem _ List.mem_cons_self)).1 rfl
  clear hF HST
  refine tval (some 8) (.bool true) wJ (by kernel_rfl) (by kernel_rfl) (by kernel_rfl) ?_
  refine tend ?_
  go_simp
  refine (show ∀ (a : Act) (w : World), Code.wp _ _ _ a w → _ from by assumption) _ _ ?_
  obtain ⟨zz1, zz2, hSJ, _⟩ := hwJ
  go_wp2_with fail
  refine bodyPost_ret (results_cc3 _ _ r1 _ (gcs (gMore (g.set p (false, 0 + ((24 : Nat) : Int), 0 + 20)) p (true, 0 + ((24 : Nat) : Int) + ((24 + 16 : Nat) : Int), 0 + 20 + 24)) A2 1 c2) _ r2 _ (clc y2) _ Tryz.results16 rfl hQ1 Tryz.underlying29 rfl (by kernel_rfl) rfl hQ2 Tryz.underlying45 rfl (by kernel_rfl) rfl) rfl ⟨_, A2, c2, ys, y2, rfl, hSJ.gv, ?ha, ?hb, ?hc, ?hd, ?he, hSJ.ok, ?hf, hSJ.b⟩
  case ha =>
    obtain ⟨eg1, eg2, eg3, eg4, eg5⟩ := HGF.out
    rw [HPLA.out, HYSR.out]
    show [_] = [_]
    simp only [GtD.set, eg1, eg2]
    rfl
  case hb => exact HGF.out.1
  case hc => have := HGF.out.2.2.1; simp only [gMore, GtD.set]; omega
  case hd => exact HGF.out.2.2.2.1
  case he => simp [gMore, upd]
  case hf =>
    have hk : (((keyI (GtD.secret (g.set p (false, 0 + ((24 : Nat) : Int), 0 + 20))) ((1 : Nat) : Int)).toNat : Nat) : Int) = keyI secret 1 := by
      have := HGF.out.1
      show (((keyI g.secret ((1 : Nat) : Int)).toNat : Nat) : Int) = _
      rw [this]; exact Int.toNat_of_nonneg (keyI_range _ _).1
    rw [HYPL.out]
    obtain ⟨a1, a2, a3, a4, a5, a6⟩ := HY1.out
    simp only [ClM.pl, ClM.met, hk, a1, a3, a4, a5, a6, HGF.out.1, HGF.out.2.1]
    rfl
  -- ]]zh
  -- ]]ze
  -- ]]zd
  -- ]]zc
  -- ]]zb
  -- ]]yg
  -- ]]ye
  -- ]]yd
  -- ]]yc
  -- ]]yb
  -- ]]v4
  -- ]]v3
  -- ]]v2
  -- ]]v1
end Go.Proofs.YtbcagdjfegobnaaGreat
