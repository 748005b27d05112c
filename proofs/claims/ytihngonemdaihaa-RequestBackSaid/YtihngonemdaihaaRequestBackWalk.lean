/- The walk of the law RequestBack: a request is read as it was written, however its bytes are cut. -/
import Derived.Test.YtihngonemdaihaaRqTwo
namespace Go.Proofs.Ytihngonemdaihaa
open Go.ChangeShapes Go.WideShapes Go.ChangeAt Go.RowKit
set_option linter.unusedVariables false

set_option maxRecDepth 100000 in
set_option maxHeartbeats 8000000 in
theorem requestBack_walk (RA : Option Addr) (len cap : Nat) (rs : List RawD) (s : ByteArray) (n a b : Int) (w : World) (h : IsRaws w RA len cap rs) (hs : s.size ≤ maxLen) (hn : (Lit.int .i64 n).wf = true) (ha : (Lit.int .i64 a).wf = true) (hb : (Lit.int .i64 b).wf = true) :
    Calls Try.prog 3 #[.slice RA len cap, .string s, .int .i64 n, .int .i64 a, .int .i64 b] w fun e w' => e = .returned (.bool true) ∧ Below w.heap.size w w' := by
  obtain ⟨n0, n1⟩ := i64_bounds' hn
  obtain ⟨a0, a1⟩ := i64_bounds' ha
  obtain ⟨b0, b1⟩ := i64_bounds' hb
  have HRS := Lib.hid h
  have hs9 : s.size ≤ 9223372036854775807 := hs
  clear hn h hs ha hb
  go_enter Try.func3, Try.ntmps3
  go_wp2_with fail
  refine (requestOf_any _ RA len cap rs HRS.out s hs9 n n0 n1).mono ?_
  rintro e w1 ⟨L, m, cL, fs, BA, bn, bc, body, rfl, hF, hm, hmc, hcL, hrd, hB, hbn, hb1⟩
  have HF := Lib.hid hF
  have HM := Lib.hid hm
  have HRD := Lib.hid hrd
  have HB := Lib.hid hB
  have HB1 := Lib.hid hb1
  have hbl : body.length ≤ 200 := by rw [hB.hn]; exact hbn
  have hfl : fs.length ≤ 8 := hF.ok.few
  have hm8 : m ≤ 8 := by omega
  clear hF hm hrd hB hb1
  go_upto_region 2 with (fail)
  obtain ⟨gR, hgR⟩ : ∃ q, w1.heap.size = q := ⟨_, rfl⟩
  refine wp_world (fun w' => Blk w' gR 26 #[.slice L m cL, .slice BA bn bc] ∧ RdX fcells 2 w' L fs ∧ BV w' BA bn bc body ∧ Below w.heap.size w w') ⟨Blk.newR hgR, RdX.below HRD.out ((Below.refl _ _).alloc (Nat.le_refl _) _), HB.out.below ((Below.refl _ _).alloc (Nat.le_refl _) _), HB1.out.alloc HB1.out.size _⟩ ?_
  try rw [hgR]
  clear hgR HRD HB HB1
  rintro w2 ⟨hR2, hrd2, hB2, hb2⟩
  have HR2 := Lib.hid hR2
  have HRD2 := Lib.hid hrd2
  have HBV2 := Lib.hid hB2
  have HB2 := Lib.hid hb2
  clear hR2 hrd2 hB2 hb2
  go_upto_region 3 with (fail)
  obtain ⟨gT, hgT⟩ : ∃ q, w2.heap.size = q := ⟨_, rfl⟩
  have hRT : gR < gT := by have := HR2.out.lt; omega
  refine wp_world (fun w' => Blk w' gT 29 #[.int .i64 100, .int .i64 0, .slice none 0 0] ∧ Blk w' gR 26 #[.slice L m cL, .slice BA bn bc] ∧ RdX fcells 2 w' L fs ∧ BV w' BA bn bc body ∧ Below w.heap.size w w') ⟨Blk.newQ hgT, HR2.out.alloc _, RdX.below HRD2.out ((Below.refl _ _).alloc (Nat.le_refl _) _), HBV2.out.below ((Below.refl _ _).alloc (Nat.le_refl _) _), HB2.out.alloc HB2.out.size _⟩ ?_
  try rw [hgT]
  clear hgT HR2 HRD2 HBV2 HB2
  rintro w3 ⟨hT3, hR3, hrd3, hB3, hb3⟩
  have HT3 := Lib.hid hT3
  have HR3 := Lib.hid hR3
  have HRD3 := Lib.hid hrd3
  have HBV3 := Lib.hid hB3
  have HB3 := Lib.hid hb3
  have FT := hT3.facts3
  have FR := hR3.two
  clear hT3 hR3 hrd3 hB3 hb3
  go_wp2_with fail
  refine (rWrite_new _ 100 (by decide) true L m cL fs HM.out hmc hcL HRD3.out HF.out BA bn bc body HBV3.out hbn).mono ?_
  rintro e w4 ⟨A, n', c, A1, n1', c1, A2, n2, c2, T, told, S, rfl, hT8, hS, hn2, hn2p, hah, hd1, hd2, hV4, hX4, hb4⟩
  have HT4 := Lib.hid (HT3.out.carry hb4)
  have HR4 := Lib.hid (HR3.out.carry hb4)
  have HRD4 := Lib.hid (RdX.below HRD3.out hb4)
  have HBV4 := Lib.hid (HBV3.out.below hb4)
  have HB4 := Lib.hid (HB3.out.trans (hb4.mono HB3.out.size))
  have HD1 := Lib.hid hd1
  have HD2 := Lib.hid hd2
  have HV4 := Lib.hid hV4
  have HX4 := Lib.hid hX4
  clear hah hd1 hd2 hV4 hX4 hb4 HT3 HR3 HRD3 HBV3 HB3 FT FR
  go_upto_region 4 with (fail)
  obtain ⟨gU, hgU⟩ : ∃ q, w4.heap.size = q := ⟨_, rfl⟩
  have hTU : gT < gU := by have := HT4.out.lt; omega
  refine wp_world (fun w' => TabB w' gU 100 (T : Int) A n' c told ∧ Blk w' gT 29 #[.int .i64 100, .int .i64 0, .slice none 0 0] ∧ Blk w' gR 26 #[.slice L m cL, .slice BA bn bc] ∧ RdX fcells 2 w' L fs ∧ BV w' BA bn bc body ∧ BV w' A2 n2 c2 (frmB 1 S ++ bodF body) ∧ Below w.heap.size w w') ⟨⟨Blk.newQ hgU, HV4.out.below ((Below.refl _ _).alloc (Nat.le_refl _) _)⟩, HT4.out.alloc _, HR4.out.alloc _, RdX.below HRD4.out ((Below.refl _ _).alloc (Nat.le_refl _) _), HBV4.out.below ((Below.refl _ _).alloc (Nat.le_refl _) _), HX4.out.below ((Below.refl _ _).alloc (Nat.le_refl _) _), HB4.out.alloc HB4.out.size _⟩ ?_
  try rw [hgU]
  clear hgU HT4 HR4 HRD4 HBV4 HX4 HV4 HB4
  rintro w5 ⟨hU5, hT5, hR5, hrd5, hB5, hX5, hb5⟩
  have HU5 := Lib.hid hU5
  have HT5 := Lib.hid hT5
  have HR5 := Lib.hid hR5
  have HRD5 := Lib.hid hrd5
  have HBV5 := Lib.hid hB5
  have HX5 := Lib.hid hX5
  have HB5 := Lib.hid hb5
  have FT := hT5.facts3
  have hal := hX5.hn
  have HAL := Lib.hid hal
  clear hal hU5 hT5 hR5 hrd5 hB5 hX5 hb5
  obtain ⟨i_, HI, i0, i1⟩ := mod_ex a ((n2 : Int) + 1) (by omega)
  obtain ⟨i, rfl⟩ := Int.eq_ofNat_of_zero_le i0
  have hi2 : i ≤ n2 := by omega
  obtain ⟨q_, HQ, q0, q1⟩ := mod_ex b ((n2 : Int) - (i : Int) + 1) (by omega)
  obtain ⟨q, rfl⟩ := Int.eq_ofNat_of_zero_le q0
  obtain ⟨j, hj⟩ : ∃ j : Nat, (i : Int) + (q : Int) = (j : Int) := ⟨i + q, by omega⟩
  have hij : i ≤ j := by omega
  have hj2 : j ≤ n2 := by omega
  have hnc2 : n2 ≤ c2 := HX5.out.hnc
  have hcm2 : c2 ≤ 9223372036854775807 := HX5.out.hcm
  obtain ⟨⟨held1, fs1, bg1, body1, en1⟩, hr1⟩ : ∃ r, rdAt S body fs false i = r := ⟨_, rfl⟩
  obtain ⟨⟨held2, fs2, bg2, body2, en2⟩, hr2⟩ : ∃ r, rdAt S body fs false j = r := ⟨_, rfl⟩
  have ho1 := rdAt_ok S body fs (by omega) hbl hfl i
  have ho2 := rdAt_ok S body fs (by omega) hbl hfl j
  rw [hr1] at ho1
  rw [hr2] at ho2
  dsimp only at ho1 ho2
  obtain ⟨rfl, o11, o12, o13⟩ := ho1
  obtain ⟨rfl, o21, o22, o23⟩ := ho2
  have HG1 := Lib.hid (show feedGo S fs 0 false 3 ⟨(frmB 1 S ++ bodF body).take i, [], false, [], false⟩ = some (⟨held1, fs1, bg1, body1, false⟩, 0) from by
    have h := feed_all S body fs (by omega) hbl false 0 i (by rw [HAL.out]; exact hi2) (fun h => by cases h)
    rw [hr1] at h; exact h)
  have HG2 := Lib.hid (show feedGo S fs 0 false 3 ⟨held1 ++ ((frmB 1 S ++ bodF body).drop i).take (j - i), fs1, bg1, body1, false⟩ = some (⟨held2, fs2, bg2, body2, false⟩, 0) from by
    have h := feed_on S body fs (by omega) hbl false 0 i j hij (by rw [HAL.out]; exact hj2) (fun h => by cases h)
    rw [hr1, hr2] at h; exact h)
  have HG3 := Lib.hid (show feedGo S fs 0 true 3 ⟨held2 ++ (frmB 1 S ++ bodF body).drop j, fs2, bg2, body2, false⟩ = some (⟨[], fs, true, body, true⟩, 0) from by
    have h := feed_on S body fs (by omega) hbl true 0 j n2 hj2 (by rw [HAL.out]; exact Nat.le_refl _) (fun _ => HAL.out.symm)
    rw [hr2, ← HAL.out, rdAt_end, List.take_of_length_le (by rw [List.length_drop]; exact Nat.le_refl _)] at h; exact h)
  clear hr1 hr2 i0 i1 q0 q1
  go_wp2_with fail
  refine (picked_at a ((n2 : Int) + 1) (i : Int) a0 a1 (by omega) (by omega) HI _).mono ?_
  rintro e w' ⟨rfl, rfl⟩
  go_wp2_with fail
  refine (picked_at b ((n2 : Int) - (i : Int) + 1) (q : Int) b0 b1 (by omega) (by omega) HQ _).mono ?_
  rintro e w' ⟨rfl, rfl⟩
  go_upto_region 6 with (fail)
  try rw [hj]
  clear hj HI HQ FT
  have HF1 : Hid (∀ W, Below w5.heap.size w5 W → Calls Try.prog 9 #[.agg #[.slice none 0 0, .slice none 0 0, .bool false, .slice none 0 0, .bool false], .agg #[.int .i64 100, .int .i64 (T : Int), .slice A n' c], .slice A2 i c2, .bool false] W (FeedOut W ⟨held1, fs1, bg1, body1, false⟩ 0)) := Lib.hid (fun W hW =>
    rFeed_any W 100 (T : Int) A n' c told (HU5.out.tab.below hW) none 0 0 none 0 0 none 0 0 ⟨[], [], false, [], false⟩ (RdrV.nil _) rfl (by decide) (by decide) (by decide) A2 i c2 _ ((HX5.out.below hW).frontR hi2) (by omega) false S fs 0 HD1.out (fun _ => HF.out.ok) 3 _ 0 HG1.out)
  go_cut [19, 20] (fun s19 s20 wx => ∃ (g : Nat) (HA : Option Addr) (hn hc : Nat) (FA : Option Addr) (fn fc : Nat) (BB : Option Addr) (bbn bbc : Nat), s19 = .pointer (some ⟨g, 0, none⟩) ∧ s20 = .int .i64 0 ∧ w5.heap.size ≤ g ∧ Blk wx g 35 #[.slice HA hn hc, .slice FA fn fc, .bool bg1, .slice BB bbn bbc, .bool false] ∧ RdrV wx HA hn hc held1 FA fn fc fs1 BB bbn bbc body1 ∧ Below w5.heap.size w5 wx)
  case first =>
    -- [[r6
    have FU := HU5.out.blk.facts3
    have hgl : gU < w5.heap.size := HU5.out.blk.lt
    have n0' := World.new_ne w5 _ FU.2.1
    have n1'' : ¬ w5.heap.size = gU := by omega
    have n2' : ¬ gU = w5.heap.size := by omega
    have hk0 : (0 : Int) ≤ (i : Int) := by omega
    have hk2 : (i : Int) ≤ (c2 : Int) := by omega
    have hk3 : i ≤ c2 := by omega
    go_region_held3 (fun w' => w'.cell? ⟨gU, 0, none⟩ = some (.int .i64 100) ∧ w'.cell? ⟨gU, 1, none⟩ = some (.int .i64 (T : Int)) ∧ w'.cell? ⟨gU, 2, none⟩ = some (.slice A n' c)) (go_keep)
      (first
        | (go_at_call 9; (with_reducible refine (HF1.out _ (by (repeat (first | with_reducible exact (Below.refl _ _) | with_reducible refine Below.drew ?_ | (with_reducible refine Below.set4 ?_ ?side _ _ _ _; case side => (first | omega | (simp; omega) | (simp; done))) | (with_reducible refine Below.setCell ?_ ?side _; case side => (first | omega | (simp; omega) | (simp; done))) | (with_reducible refine Below.alloc ?_ ?side _; case side => (first | omega | (simp; omega) | (simp; done))))))).mono ?_); rintro e wq ⟨HA, hn, hc, FA, fn, fc, BB, bbn, bbc, rfl, hV3, hbq⟩; have hcq := cell_under hbq; have hfq := frozen_under hbq; have nq : ¬ wq.heap.size = gU := (by have := hbq.size; first | omega | (simp at this; omega)); have k0 := hcq gU 0 (by first | omega | (simp; omega)); have k1 := hcq gU 1 (by first | omega | (simp; omega)); have k2 := hcq gU 2 (by first | omega | (simp; omega))))
    all_goals
      go_wp2_with fail
      go_meet
      have hsq : w5.heap.size ≤ wq.heap.size := by have := hbq.size; first | omega | (simp at this; omega)
      refine ⟨_, HA, hn, hc, FA, fn, fc, BB, bbn, bbc, rfl, rfl, ?qg, ?qt, ?qv, ?qb⟩
      case qg => first | exact Nat.le_refl _ | omega
      case qt =>
        first
          | with_reducible exact Blk.newR rfl
          | (refine (Blk.set5 (a := .slice none 0 0) (b := .slice none 0 0) (c := .bool false) (d := .slice none 0 0) (e := .bool false) ?_ _ _ _ _ _)
             refine Blk.carry ?_ hbq
             repeat (first | with_reducible refine Blk.drew ?_ | (with_reducible refine Blk.newQ ?side; case side => (first | rfl | (simp; done))) | with_reducible apply Blk.alloc))
      case qv =>
        first
          | with_reducible exact hV3.below ((Below.refl _ _).alloc (Nat.le_refl _) _)
          | (refine RdrV.setR5 (t := 35) (a0 := none) (a1 := 0) (a2 := 0) (b0 := none) (b1 := 0) (b2 := 0) (c := false) (d0 := none) (d1 := 0) (d2 := 0) (e := false) hV3 ?_ _ _ _ _ _ _ _ _ _ _ _
             refine Blk.carry ?_ hbq
             repeat (first | with_reducible refine Blk.drew ?_ | (with_reducible refine Blk.newQ ?side; case side => (first | rfl | (simp; done))) | with_reducible apply Blk.alloc))
      case qb => (repeat (first | with_reducible exact (Below.refl _ _) | with_reducible refine Below.drew ?_ | (with_reducible refine Below.set4 ?_ ?side _ _ _ _; case side => (first | omega | (simp; omega) | (simp; done))) | (with_reducible refine Below.setCell ?_ ?side _; case side => (first | omega | (simp; omega) | (simp; done))) | (with_reducible refine Below.alloc ?_ ?side _; case side => (first | omega | (simp; omega) | (simp; done))) | (with_reducible refine Below.trans ?_ (Below.mono hbq ?side); case side => (first | omega | (simp; omega) | (simp; done)))))
    -- ]]r6
  case rest =>
    obtain ⟨gX, HA, hn, hc, FA, fn, fc, BB, bbn, bbc, rfl, rfl, hgX, hXb, hXv, hbx⟩ := hcut
    refine (show ∀ (a : Act) (w : World), Code.wp _ _ _ a w → _ from by assumption) _ _ ?_
    refine wp_world (fun w' => Blk w' gX 35 #[.slice HA hn hc, .slice FA fn fc, .bool bg1, .slice BB bbn bbc, .bool false] ∧ RdrV w' HA hn hc held1 FA fn fc fs1 BB bbn bbc body1 ∧ Below w5.heap.size w5 w') ⟨hXb, hXv, hbx⟩ ?_
    clear hXb hXv hbx
    rintro w6 ⟨hX6, hV6, hb6⟩
    have HX6 := Lib.hid hX6
    have HV6 := Lib.hid hV6
    have HU6 := Lib.hid (HU5.out.below hb6)
    have HR6 := Lib.hid (HR5.out.carry hb6)
    have HRD6 := Lib.hid (RdX.below HRD5.out hb6)
    have HBV6 := Lib.hid (HBV5.out.below hb6)
    have HA6 := Lib.hid (HX5.out.below hb6)
    have HB6 := Lib.hid (HB5.out.trans (hb6.mono HB5.out.size))
    have hgU5 : gU < w5.heap.size := HU5.out.blk.lt
    have hUX : gU ≠ gX := by omega
    have hRX : gR ≠ gX := by omega
    have hwX : w.heap.size ≤ gX := by have := HB5.out.size; omega
    clear hX6 hV6 hb6 HU5 HT5 HR5 HRD5 HBV5 HX5 HB5 HF1 hgX
    have hh1 : hn ≤ 800 := by rw [← HV6.out.h.hn]; exact o11
    have hh2 : fn ≤ 8 := by rw [← HV6.out.fn_]; exact o12
    have hh3 : bbn ≤ 200 := by rw [← HV6.out.b.hn]; exact o13
    obtain ⟨D, hD⟩ : ∃ D, (if c2 = i then A2 else Option.map (fun x => x.add i) A2) = D := ⟨_, rfl⟩
    have HD := Lib.hid (show BV w6 D (n2 - i) (c2 - i) ((frmB 1 S ++ bodF body).drop i) from by
      have h := HA6.out.cutR hi2
      rw [← hD]; exact h)
    have HF2 : Hid (∀ W, Below w6.heap.size w6 W → Calls Try.prog 9 #[.agg #[.slice HA hn hc, .slice FA fn fc, .bool bg1, .slice BB bbn bbc, .bool false], .agg #[.int .i64 100, .int .i64 (T : Int), .slice A n' c], .slice D (j - i) (c2 - i), .bool false] W (FeedOut W ⟨held2, fs2, bg2, body2, false⟩ 0)) := Lib.hid (fun W hW =>
      rFeed_any W 100 (T : Int) A n' c told (HU6.out.tab.below hW) HA hn hc FA fn fc BB bbn bbc ⟨held1, fs1, bg1, body1, false⟩ (HV6.out.below hW) rfl hh1 hh2 hh3 D (j - i) (c2 - i) _ ((HD.out.below hW).frontR (by omega)) (by omega) false S fs 0 HD1.out (fun _ => HF.out.ok) 3 _ 0 HG2.out)
    clear hh1 hh2 hh3
    go_upto_region 7 with (fail)
    go_cut [21] (fun s21 wx => ∃ (HA : Option Addr) (hn hc : Nat) (FA : Option Addr) (fn fc : Nat) (BB : Option Addr) (bbn bbc : Nat), s21 = .int .i64 0 ∧ Blk wx gX 35 #[.slice HA hn hc, .slice FA fn fc, .bool bg2, .slice BB bbn bbc, .bool false] ∧ RdrV wx HA hn hc held2 FA fn fc fs2 BB bbn bbc body2 ∧ TabB wx gU 100 (T : Int) A n' c told ∧ Blk wx gR 26 #[.slice L m cL, .slice BA bn bc] ∧ RdX fcells 2 wx L fs ∧ BV wx BA bn bc body ∧ BV wx A2 n2 c2 (frmB 1 S ++ bodF body) ∧ Below w.heap.size w wx)
    case first =>
      -- [[r7
      have FU := HU6.out.blk.facts3
      have FX := HX6.out.facts5R
      have hk0 : (0 : Int) ≤ (i : Int) := by omega
      have hk1 : (i : Int) ≤ (j : Int) := by omega
      have hk2 : (j : Int) ≤ (c2 : Int) := by omega
      have hk3 : j ≤ c2 := by omega
      go_region_law ((first
        | ((rw [if_pos (by first | rfl | simp [Region.wanted])]); go_simp; go_at_call 9; (with_reducible refine (HF2.out _ (by (repeat (first | with_reducible exact (Below.refl _ _) | with_reducible refine Below.drew ?_ | (with_reducible refine Below.set4 ?_ ?side _ _ _ _; case side => (first | omega | (simp; omega) | (simp; done))) | (with_reducible refine Below.setCell ?_ ?side _; case side => (first | omega | (simp; omega) | (simp; done))) | (with_reducible refine Below.alloc ?_ ?side _; case side => (first | omega | (simp; omega) | (simp; done))))))).mono ?_); rintro e wq ⟨HA7, hn7, hc7, FA7, fn7, fc7, BB7, bbn7, bbc7, rfl, hVq, hbq⟩; have FXq := (HX6.out.drew.carry hbq).facts5R)))
      all_goals
        go_wp2_with fail
        try go_meet
        have hXq := HX6.out.drew.carry hbq
        exact ⟨HA7, hn7, hc7, FA7, fn7, fc7, BB7, bbn7, bbc7, rfl, hXq.set5 _ _ _ _ _, hVq.setR5 hXq _ _ _ _ _ _ _ _ _ _ _, (HU6.out.below ((Below.refl _ _).drew.trans hbq)).setR5 hUX hXq _ _ _ _ _ _ _ _ _ _ _, (HR6.out.drew.carry hbq).far5 hRX _ _ _ _ _, RdX.setR5 (RdX.below HRD6.out ((Below.refl _ _).drew.trans hbq)) hXq _ _ _ _ _ _ _ _ _ _ _, (HBV6.out.below ((Below.refl _ _).drew.trans hbq)).setR5 hXq _ _ _ _ _ _ _ _ _ _ _, (HA6.out.below ((Below.refl _ _).drew.trans hbq)).setR5 hXq _ _ _ _ _ _ _ _ _ _ _, Below.set5 (HB6.out.trans (((Below.refl _ _).drew.trans hbq).mono HB6.out.size)) hwX _ _ _ _ _⟩
      -- ]]r7
    case rest =>
      obtain ⟨HA, hn, hc, FA, fn, fc, BB, bbn, bbc, rfl, hX7, hV7, hU7, hR7, hrd7, hB7, hA7, hb7⟩ := hcut
      refine (show ∀ (a : Act) (w : World), Code.wp _ _ _ a w → _ from by assumption) _ _ ?_
      refine wp_world (fun w' => Blk w' gX 35 #[.slice HA hn hc, .slice FA fn fc, .bool bg2, .slice BB bbn bbc, .bool false] ∧ RdrV w' HA hn hc held2 FA fn fc fs2 BB bbn bbc body2 ∧ TabB w' gU 100 (T : Int) A n' c told ∧ Blk w' gR 26 #[.slice L m cL, .slice BA bn bc] ∧ RdX fcells 2 w' L fs ∧ BV w' BA bn bc body ∧ BV w' A2 n2 c2 (frmB 1 S ++ bodF body) ∧ Below w.heap.size w w') ⟨hX7, hV7, hU7, hR7, hrd7, hB7, hA7, hb7⟩ ?_
      clear hX7 hV7 hU7 hR7 hrd7 hB7 hA7 hb7 HX6 HV6 HU6 HR6 HRD6 HBV6 HA6 HB6 HD HF2 hD
      rintro w7 ⟨hX7, hV7, hU7, hR7, hrd7, hB7, hA7, hb7⟩
      have HX7 := Lib.hid hX7
      have HV7 := Lib.hid hV7
      have HU7 := Lib.hid hU7
      have HR7 := Lib.hid hR7
      have HRD7 := Lib.hid hrd7
      have HBV7 := Lib.hid hB7
      have HA7 := Lib.hid hA7
      have HB7 := Lib.hid hb7
      clear hX7 hV7 hU7 hR7 hrd7 hB7 hA7 hb7
      have hh1 : hn ≤ 800 := by rw [← HV7.out.h.hn]; exact o21
      have hh2 : fn ≤ 8 := by rw [← HV7.out.fn_]; exact o22
      have hh3 : bbn ≤ 200 := by rw [← HV7.out.b.hn]; exact o23
      obtain ⟨D3, hD⟩ : ∃ D3, (if c2 = j then A2 else Option.map (fun x => x.add j) A2) = D3 := ⟨_, rfl⟩
      have HD := Lib.hid (show BV w7 D3 (n2 - j) (c2 - j) ((frmB 1 S ++ bodF body).drop j) from by
        have h := HA7.out.cutR hj2
        rw [← hD]; exact h)
      have HF3 : Hid (∀ W, Below w7.heap.size w7 W → Calls Try.prog 9 #[.agg #[.slice HA hn hc, .slice FA fn fc, .bool bg2, .slice BB bbn bbc, .bool false], .agg #[.int .i64 100, .int .i64 (T : Int), .slice A n' c], .slice D3 (n2 - j) (c2 - j), .bool true] W (FeedOut W ⟨[], fs, true, body, true⟩ 0)) := Lib.hid (fun W hW =>
        rFeed_any W 100 (T : Int) A n' c told (HU7.out.tab.below hW) HA hn hc FA fn fc BB bbn bbc ⟨held2, fs2, bg2, body2, false⟩ (HV7.out.below hW) rfl hh1 hh2 hh3 D3 (n2 - j) (c2 - j) _ (HD.out.below hW) (by omega) true S fs 0 HD1.out (fun _ => HF.out.ok) 3 _ 0 HG3.out)
      clear hh1 hh2 hh3
      go_upto_region 8 with (fail)
      go_cut [22] (fun s22 wx => ∃ (HA : Option Addr) (hn hc : Nat) (FA : Option Addr) (fn fc : Nat) (BB : Option Addr) (bbn bbc : Nat), s22 = .int .i64 0 ∧ Blk wx gX 35 #[.slice HA hn hc, .slice FA fn fc, .bool true, .slice BB bbn bbc, .bool true] ∧ RdrV wx HA hn hc [] FA fn fc fs BB bbn bbc body ∧ TabB wx gU 100 (T : Int) A n' c told ∧ Blk wx gR 26 #[.slice L m cL, .slice BA bn bc] ∧ RdX fcells 2 wx L fs ∧ BV wx BA bn bc body ∧ Below w.heap.size w wx)
      case first =>
        -- [[r8
        have FU := HU7.out.blk.facts3
        have FX := HX7.out.facts5R
        have hk0 : (0 : Int) ≤ (j : Int) := by omega
        have hk1 : (j : Int) ≤ (n2 : Int) := by omega
        have hk2 : (j : Int) ≤ (c2 : Int) := by omega
        have hk3 : j ≤ c2 := by omega
        go_region_law ((first
          | ((rw [if_pos (by first | rfl | simp [Region.wanted])]); go_simp; go_at_call 9; (with_reducible refine (HF3.out _ (by (repeat (first | with_reducible exact (Below.refl _ _) | with_reducible refine Below.drew ?_ | (with_reducible refine Below.set4 ?_ ?side _ _ _ _; case side => (first | omega | (simp; omega) | (simp; done))) | (with_reducible refine Below.setCell ?_ ?side _; case side => (first | omega | (simp; omega) | (simp; done))) | (with_reducible refine Below.alloc ?_ ?side _; case side => (first | omega | (simp; omega) | (simp; done))))))).mono ?_); rintro e wq ⟨HA8, hn8, hc8, FA8, fn8, fc8, BB8, bbn8, bbc8, rfl, hVq, hbq⟩; have FXq := (HX7.out.drew.carry hbq).facts5R)))
        all_goals
          go_wp2_with fail
          try go_meet
          have hXq := HX7.out.drew.carry hbq
          exact ⟨HA8, hn8, hc8, FA8, fn8, fc8, BB8, bbn8, bbc8, rfl, hXq.set5 _ _ _ _ _, hVq.setR5 hXq _ _ _ _ _ _ _ _ _ _ _, (HU7.out.below ((Below.refl _ _).drew.trans hbq)).setR5 hUX hXq _ _ _ _ _ _ _ _ _ _ _, (HR7.out.drew.carry hbq).far5 hRX _ _ _ _ _, RdX.setR5 (RdX.below HRD7.out ((Below.refl _ _).drew.trans hbq)) hXq _ _ _ _ _ _ _ _ _ _ _, (HBV7.out.below ((Below.refl _ _).drew.trans hbq)).setR5 hXq _ _ _ _ _ _ _ _ _ _ _, Below.set5 (HB7.out.trans (((Below.refl _ _).drew.trans hbq).mono HB7.out.size)) hwX _ _ _ _ _⟩
        -- ]]r8
      case rest =>
        -- [[end
        obtain ⟨HA, hn, hc, FA, fn, fc, BB, bbn, bbc, rfl, hX8, hV8, hU8, hR8, hrd8, hB8, hb8⟩ := hcut
        refine (show ∀ (a : Act) (w : World), Code.wp _ _ _ a w → _ from by assumption) _ _ ?_
        refine wp_world (fun w' => Blk w' gX 35 #[.slice HA hn hc, .slice FA fn fc, .bool true, .slice BB bbn bbc, .bool true] ∧ RdrV w' HA hn hc [] FA fn fc fs BB bbn bbc body ∧ TabB w' gU 100 (T : Int) A n' c told ∧ Blk w' gR 26 #[.slice L m cL, .slice BA bn bc] ∧ RdX fcells 2 w' L fs ∧ BV w' BA bn bc body ∧ Below w.heap.size w w') ⟨hX8, hV8, hU8, hR8, hrd8, hB8, hb8⟩ ?_
        clear hX8 hV8 hU8 hR8 hrd8 hB8 hb8 HX7 HV7 HU7 HR7 HRD7 HBV7 HA7 HB7 HD HF3 hD
        rintro w8 ⟨hX8, hV8, hU8, hR8, hrd8, hB8, hb8⟩
        have HX8 := Lib.hid hX8
        have HV8 := Lib.hid hV8
        have HU8 := Lib.hid hU8
        have HR8 := Lib.hid hR8
        have HRD8 := Lib.hid hrd8
        have HBV8 := Lib.hid hB8
        have HB8 := Lib.hid hb8
        have FU := hU8.blk.facts3
        have FX := hX8.facts5R
        have hh1 : hn ≤ 800 := by rw [← hV8.h.hn]; decide
        have hh3 : bbn ≤ 200 := by rw [← hV8.b.hn]; exact hbl
        clear hX8 hV8 hU8 hR8 hrd8 hB8 hb8
        go_wp2_with fail
        refine (rFeed_done _ 100 (T : Int) A n' c HA hn hc FA fn fc BB bbn bbc true hh1 hh3 none 0 0 (by decide) true).mono ?_
        rintro e w9 ⟨HA9, hn9, hc9, FA9, fn9, fc9, BB9, bbn9, bbc9, rfl, hV9, hb9⟩
        have HX9 := Lib.hid (HX8.out.carry hb9)
        have HVW9 := Lib.hid (HV8.out.below hb9)
        have HR9 := Lib.hid (HR8.out.carry hb9)
        have HRD9 := Lib.hid (RdX.below HRD8.out hb9)
        have HBV9 := Lib.hid (HBV8.out.below hb9)
        have HB9 := Lib.hid (HB8.out.trans (hb9.mono HB8.out.size))
        clear hV9 hb9 HX8 HV8 HU8 HR8 HRD8 HBV8 HB8 FU FX hh1 hh3
        go_upto_region 10 with (fail)
        obtain ⟨gD, hgD⟩ : ∃ q, w9.heap.size = q := ⟨_, rfl⟩
        refine wp_world (fun w' => Blk w' gX 35 #[.slice HA hn hc, .slice FA fn fc, .bool true, .slice BB bbn bbc, .bool true] ∧ RdrV w' HA hn hc [] FA fn fc fs BB bbn bbc body ∧ Blk w' gR 26 #[.slice L m cL, .slice BA bn bc] ∧ RdX fcells 2 w' L fs ∧ BV w' BA bn bc body ∧ Below w.heap.size w w') ⟨HX9.out.alloc _, HVW9.out.below ((Below.refl _ _).alloc (Nat.le_refl _) _), HR9.out.alloc _, RdX.below HRD9.out ((Below.refl _ _).alloc (Nat.le_refl _) _), HBV9.out.below ((Below.refl _ _).alloc (Nat.le_refl _) _), HB9.out.alloc HB9.out.size _⟩ ?_
        clear HX9 HVW9 HR9 HRD9 HBV9 HB9
        rintro w7' ⟨hX7, hVW7, hR7, hrd7, hB7, hb7⟩
        have HX7 := Lib.hid hX7
        have HVW7 := Lib.hid hVW7
        have HR7 := Lib.hid hR7
        have HRD7 := Lib.hid hrd7
        have HBV7 := Lib.hid hB7
        have HB7 := Lib.hid hb7
        clear hX7 hVW7 hR7 hrd7 hB7 hb7
        have FX := HX7.out.facts5R
        have FR := HR7.out.two
        go_wp2_with fail
        refine (requestTells_any _).mono ?_
        rintro e w8 ⟨rfl, hb8⟩
        have HX8 := Lib.hid (HX7.out.carry hb8)
        have HR8 := Lib.hid (HR7.out.carry hb8)
        have HRD8 := Lib.hid (RdX.below HRD7.out hb8)
        have HBV8 := Lib.hid (HBV7.out.below hb8)
        have HVW8 := Lib.hid (HVW7.out.below hb8)
        have HB8 := Lib.hid (HB7.out.trans (hb8.mono HB7.out.size))
        have FX8 := HX8.out.facts5R
        have FR8 := HR8.out.two
        clear hb8 HX7 HR7 HRD7 HBV7 HVW7 HB7 FX FR
        go_wp2_with fail
        have hfn : fn = m := by rw [← HVW8.out.fn_]; exact HM.out
        subst hfn
        have hfc := HVW8.out.fc_
        have hfm := HVW8.out.fm_
        refine (sameFields_eq FA L fn fc cL fs HM.out hfc hmc hfm hcL _ HVW8.out.f HRD8.out).mono ?_
        rintro e w9 ⟨rfl, hb9⟩
        have HX9 := Lib.hid (HX8.out.carry hb9)
        have HR9 := Lib.hid (HR8.out.carry hb9)
        have HB9 := Lib.hid (HB8.out.trans (hb9.mono HB8.out.size))
        have FX9 := HX9.out.facts5R
        have FR9 := HR9.out.two
        have hb1' := (HBV8.out.below hb9)
        have hb2' := (HVW8.out.below hb9).b
        have hn1' : body.length = bn := hb1'.hn
        have hn2' : body.length = bbn := hb2'.hn
        have s1 : (convert 24 9 (.slice BA bn bc)).run Try.prog w9 = .ok (.string (byt body)) w9 := by
          rw [← hn1']; exact RdB.str hb1'.rd 24 9 5 bc Try.underlying24 Try.underlying5 Try.underlying9
        have s2 : (convert 24 9 (.slice BB bbn bbc)).run Try.prog w9 = .ok (.string (byt body)) w9 := by
          rw [← hn2']; exact RdB.str hb2'.rd 24 9 5 bbc Try.underlying24 Try.underlying5 Try.underlying9
        clear hb9 HX8 HR8 HRD8 HBV8 HVW8 HB8 FX8 FR8 hb1' hb2'
        generalize byt body = bst at *
        go_wp2_with fail
        refine bodyPost_ret (v := .bool true) ?_ rfl ⟨rfl, ?_⟩
        · simp [results, Try.results3, go_sem] <;> rfl
        · have h := HB9.out
          (repeat (first | with_reducible exact h | with_reducible refine Below.drew ?_ | (with_reducible refine Below.set4 ?_ ?side _ _ _ _; case side => (first | omega | (simp; omega) | (simp; done))) | (with_reducible refine Below.setCell ?_ ?side _; case side => (first | omega | (simp; omega) | (simp; done))) | (with_reducible refine Below.alloc ?_ ?side _; case side => (first | omega | (simp; omega) | (simp; done)))))
        -- ]]end
end Go.Proofs.Ytihngonemdaihaa
