/- The walk of the law GatherFirst. -/
import Derived.Test.YtolhlgalhhdkmabGTakeWalk
import Derived.Test.YtolhlgalhhdkmabGatherTellsWalk
import Derived.Test.YtolhlgalhhdkmabTextOfWalk
import Derived.Test.YtolhlgalhhdkmabGathFirst
namespace Go.Proofs.Ytolhlgalhhdkmab
open Go.ChangeShapes Go.WideShapes Go.ChangeAt Go.RowKit
set_option linter.unusedVariables false

theorem own4W {w : World} {bs c : Nat} {B : Option Addr} {o : List PD} {bo : Option Nat} {g : Nat} (hO : OwnX pdc 2 w bs 68 B c o) (hP : PDs w bs bo o) (hg : g < bs) (v0 v1 v2 v3 : Value) :
    RdP ((((w.setCell ⟨g, 0, none⟩ v0).setCell ⟨g, 1, none⟩ v1).setCell ⟨g, 2, none⟩ v2).setCell ⟨g, 3, none⟩ v3) B o :=
  RdP.of_own ((((hO.set_below hg v0).set_below hg v1).set_below hg v2).set_below hg v3) ((((hP.setBelow hg v0).setBelow hg v1).setBelow hg v2).setBelow hg v3)

set_option maxRecDepth 100000 in
set_option maxHeartbeats 8000000 in
theorem gatherFirst_walk (s u : ByteArray) (a_ b_ c_ : Int) (w : World) (hs : s.size ≤ maxLen) (hu : u.size ≤ maxLen) (ha : (Lit.int .i64 a_).wf = true) (hb : (Lit.int .i64 b_).wf = true) (hc : (Lit.int .i64 c_).wf = true) :
    Calls Try.prog 9 #[.string s, .string u, .int .i64 a_, .int .i64 b_, .int .i64 c_] w fun e w' => e = .returned (.bool true) ∧ Below w.heap.size w w' := by
  have ra := i64_bounds' ha
  have rb := i64_bounds' hb
  have rc := i64_bounds' hc
  unfold maxLen at hs hu
  clear ha hb hc
  obtain ⟨ii, HI, i0, i1⟩ := mod_ex a_ 30 (by decide)
  obtain ⟨qq, HQ, q0, q1⟩ := mod_ex b_ 9 (by decide)
  obtain ⟨kk, HK, k0, k1⟩ := mod_ex c_ 40 (by decide)
  obtain ⟨i, rfl⟩ : ∃ i : Nat, ii = (i : Int) := ⟨ii.toNat, by omega⟩
  obtain ⟨k, rfl⟩ : ∃ k : Nat, kk = (k : Int) := ⟨kk.toNat, by omega⟩
  obtain ⟨j, hj⟩ : ∃ j : Nat, (i : Int) + 1 + qq = (j : Int) := ⟨((i : Int) + 1 + qq).toNat, by omega⟩
  have hij : (i : Int) < (j : Int) := by omega
  have hj39 : (j : Int) ≤ 39 := by omega
  have hijn : i < j := by omega
  have hj39n : j ≤ 39 := by omega
  have hkn : k < 40 := by omega
  have hin : i < 30 := by omega
  have hiw : IntKind.i64.wrap ((i : Int) + 1) = (i : Int) + 1 := by rw [IntKind.wrap_i64]; omega
  have hjw : IntKind.i64.wrap ((i : Int) + 1 + qq) = (j : Int) := by rw [IntKind.wrap_i64]; omega
  have HJ := Lib.hid hj
  go_enter Try.func9, Try.ntmps9
  go_wp2_with fail
  refine (text_any s 40 50 40 hs (by decide) (by decide) (by decide) (by decide) (Lib.hid (by decide)) (by decide) _).mono ?_
  rintro e w1 ⟨A1, c1, xs, rfl, hxl, hxc, hxm, hX, hb1⟩
  go_wp2_with fail
  refine (text_any u 40 50 40 hu (by decide) (by decide) (by decide) (by decide) (Lib.hid (by decide)) (by decide) _).mono ?_
  rintro e w2 ⟨A2, c2, ys, rfl, hyl, hyc, hym, hY, hb2⟩
  have hX := hX.below hb2
  have hb02 : Below w.heap.size w w2 := hb1.trans (hb2.mono hb1.size)
  obtain ⟨bx, ox, hA1, _⟩ := hX.cell (by omega)
  obtain ⟨by_, oy, hA2, _⟩ := hY.cell (by omega)
  subst hA1 hA2
  have HXL := Lib.hid hxl
  have HYL := Lib.hid hyl
  have HX := Lib.hid hX
  have HY := Lib.hid hY
  have HB02 := Lib.hid hb02
  clear hxl hyl hX hY hb02 hb1 hb2
  go_wp2_with fail
  refine (gBegin_ok 60 (by decide) (by decide) _).mono ?_
  rintro e w3 ⟨rfl, hb3⟩
  go_upto_region 3 with (fail)
  refine wp_world (fun w' => Blk w' w3.heap.size 47 #[.int .i64 0, .slice none 0 0, .int .i64 (-1), .int .i64 60] ∧ Below w2.heap.size w2 w') ⟨Blk.new _ _ _, hb3.alloc hb3.size _⟩ ?_
  have hz3 := hb3.size
  clear hb3
  generalize w3.heap.size = g at *
  rintro w4 ⟨hG, hb⟩
  have HG := Lib.hid hG
  have HB := Lib.hid hb
  clear hG hb
  go_wp2_with fail
  refine (picked_at a_ 30 i ra.1 ra.2 (by decide) (by decide) HI _).mono ?_
  rintro e w' ⟨rfl, rfl⟩
  go_wp2_with fail
  refine (picked_at b_ 9 qq rb.1 rb.2 (by decide) (by decide) HQ _).mono ?_
  rintro e w' ⟨rfl, rfl⟩
  go_wp2_with fail
  refine (picked_at c_ 40 k rc.1 rc.2 (by decide) (by decide) HK _).mono ?_
  rintro e w' ⟨rfl, rfl⟩
  have hV : GW w4 0 (-1) 60 none 0 0 [] := GW.start _ 60 (by decide) (by decide)
  have HV := Lib.hid hV
  have HM0 : Hid ((([] : List PD)).map PD.pl = ([] : List Pc)) := rfl
  clear hV
  have HLAW := Lib.hid (first_law xs ys i j k HXL.out HYL.out hijn hj39n hkn)
  go_upto_region 6 with (fail)
  go_cut [18] (fun s wx => s = .int .i64 0 ∧ ∃ (B : Option Addr) (m c' : Nat) (o : List PD), Blk wx g 47 #[.int .i64 0, .slice B m c', .int .i64 (-1), .int .i64 60] ∧ GW wx 0 (-1) 60 B m c' o ∧ o.map PD.pl = mergeP (putL ((xs.drop i).take (j - i)) (i : Int) 0 (([] : List PD).map PD.pl)) ∧ Below w2.heap.size w2 wx)
  case first =>
    have hG := HG.out
    have FG := hG.facts4
    have hgl := FG.1
    have n0 := World.new_ne w4 _ FG.2.1
    have n3 : ¬ w4.heap.size = g := by omega
    have HDR := Lib.hid (show RdB w4 (some ⟨bx, ox + i, none⟩) ((xs.drop i).take (j - i)) from by
      have h := (RdB.cut (k := i) (cap := c1) (HX.out.below HB.out) (by rw [HXL.out]; omega) (by rw [HXL.out]; omega)).front (k := j - i) (by rw [List.length_drop, HXL.out]; omega)
      rw [if_neg (by omega)] at h
      simpa [add_none] using h)
    have HDL : Hid (((xs.drop i).take (j - i)).length = j - i) := by show _ = _; rw [List.length_take, List.length_drop, HXL.out]; omega
    have HDC : Hid (j - i ≤ c1 - i) := by show _ ≤ _; omega
    have HDM : Hid (c1 - i ≤ 9223372036854775807) := by show _ ≤ _; omega
    have HFIT : Hid ((mergeP (putL ((xs.drop i).take (j - i)) (i : Int) 0 (([] : List PD).map PD.pl))).length ≤ 4) := by
      have := (HLAW.out _ _ _ rfl rfl rfl).1
      exact Nat.le_trans this (by decide)
    have hi0 : (0 : Int) ≤ (i : Int) := by omega
    have hj0 : (0 : Int) ≤ (j : Int) := by omega
    have hijle : (i : Int) ≤ (j : Int) := by omega
    have hicc : (i : Int) ≤ (c1 : Int) := by omega
    have hci : ¬ c1 = i := by omega
    have hci2 : ¬ (c1 : Int) = (i : Int) := by omega
    have hjc : (j : Int) ≤ (c1 : Int) := by omega
    go_region_with
      (first
        | (go_at_call 25; refine (GW.put_ok (HV.out.below (by (repeat (first | with_reducible exact (Below.refl _ _) | with_reducible refine Below.drew ?_ | (with_reducible refine Below.set4 ?_ ?side _ _ _ _; case side => (first | omega | (simp; omega) | (simp; done))) | (with_reducible refine Below.setCell ?_ ?side _; case side => (first | omega | (simp; omega) | (simp; done))) | (with_reducible refine Below.alloc ?_ ?side _; case side => (first | omega | (simp; omega) | (simp; done))))))) (i : Int) _ (j - i) _ ((xs.drop i).take (j - i)) false (-1) (by rfl) HDL.out HDC.out HDM.out (HDR.out.below (by (repeat (first | with_reducible exact (Below.refl _ _) | with_reducible refine Below.drew ?_ | (with_reducible refine Below.set4 ?_ ?side _ _ _ _; case side => (first | omega | (simp; omega) | (simp; done))) | (with_reducible refine Below.setCell ?_ ?side _; case side => (first | omega | (simp; omega) | (simp; done))) | (with_reducible refine Below.alloc ?_ ?side _; case side => (first | omega | (simp; omega) | (simp; done))))))) (by omega) (by omega) (fun h => absurd h (by decide)) (fun h => absurd h (by decide)) (fun h => by cases h) HFIT.out).mono ?_; rintro e wq ⟨B, m, c', o, rfl, hGW, hOW, hPW, hMP, hbq⟩; have hcq := cell_under hbq; have hfq := frozen_under hbq; have nq : ¬ wq.heap.size = g := (by have := hbq.size; first | omega | (simp at this; omega)); have k0 := hcq g 0 (by first | omega | (simp; omega)); have k1 := hcq g 1 (by first | omega | (simp; omega)); have k2 := hcq g 2 (by first | omega | (simp; omega)); have k3 := hcq g 3 (by first | omega | (simp; omega)); have q0 := hfq g 0 (by first | omega | (simp; omega)); have q1 := hfq g 1 (by first | omega | (simp; omega)); have q2 := hfq g 2 (by first | omega | (simp; omega)); have q3 := hfq g 3 (by first | omega | (simp; omega))))
    all_goals
      go_wp2_with fail
      go_meet
      have hb := HB.out
      have hG := HG.out
      have hs4 := hb.size
      refine ⟨rfl, B, m, c', o, ?_, ?_, hMP, ?_⟩
      · (apply Blk.as; (case h => (repeat (first | with_reducible exact hG | with_reducible apply Blk.drew | with_reducible apply Blk.set4 | with_reducible apply Blk.set_ | (with_reducible apply Blk.far4 (hne := ?side); case side => (first | omega | (simp; omega) | (simp; done))) | (with_reducible apply Blk.far (hp := ?side); case side => (first | omega | (simp; omega) | (simp; done))) | with_reducible apply Blk.alloc | (with_reducible apply Blk.below (hb := hbq) (hg := ?side); case side => (first | omega | (simp; omega) | (simp; done)))))); (case e => (first | with_reducible rfl | (simp; done) | rfl)))
      · refine hGW.re ?_
        first
          | with_reducible exact own4W hOW hPW hgl _ _ _ _
          | (with_reducible refine own4W hOW hPW ?_ _ _ _ _; first | (simp; done) | (simp; omega))
      · (repeat (first | with_reducible exact hb | with_reducible refine Below.drew ?_ | (with_reducible refine Below.set4 ?_ ?side _ _ _ _; case side => (first | omega | (simp; omega) | (simp; done))) | (with_reducible refine Below.setCell ?_ ?side _; case side => (first | omega | (simp; omega) | (simp; done))) | (with_reducible refine Below.alloc ?_ ?side _; case side => (first | omega | (simp; omega) | (simp; done))) | (with_reducible refine Below.trans ?_ (Below.mono hbq ?side); case side => (first | omega | (simp; omega) | (simp; done)))))
  case rest =>
    obtain ⟨rfl, A6, n6, d6, o6, hG, hV, hM6, hb⟩ := hcut
    refine (show ∀ (a : Act) (w : World), Code.wp _ _ _ a w → _ from by assumption) _ _ ?_
    refine wp_world (fun w' => Blk w' g 47 #[.int .i64 0, .slice A6 n6 d6, .int .i64 (-1), .int .i64 60] ∧ GW w' 0 (-1) 60 A6 n6 d6 o6 ∧ Below w2.heap.size w2 w') ⟨hG, hV, hb⟩ ?_
    clear HG HV HB hG hV hb
    rintro x6 ⟨hG, hV, hb⟩
    have HG := Lib.hid hG
    have HV := Lib.hid hV
    have HB := Lib.hid hb
    have HM6 := Lib.hid hM6
    clear hG hV hb hM6
    go_upto_region 7 with (fail)
    go_cut [19] (fun s wx => s = .int .i64 0 ∧ ∃ (B : Option Addr) (m c' : Nat) (o : List PD), Blk wx g 47 #[.int .i64 0, .slice B m c', .int .i64 (-1), .int .i64 60] ∧ GW wx 0 (-1) 60 B m c' o ∧ o.map PD.pl = mergeP (putL (ys.drop k) (k : Int) 0 (o6.map PD.pl)) ∧ Below w2.heap.size w2 wx)
    case first =>
      have hG := HG.out
      have FG := hG.facts4
      have hgl := FG.1
      have n0 := World.new_ne x6 _ FG.2.1
      have n3 : ¬ x6.heap.size = g := by omega
      have HDR := Lib.hid (show RdB x6 (some ⟨by_, oy + k, none⟩) (ys.drop k) from by
        have h := RdB.cut (k := k) (cap := c2) (HY.out.below HB.out) (by rw [HYL.out]; omega) (by rw [HYL.out]; omega)
        rw [if_neg (by omega)] at h
        simpa [add_none] using h)
      have HDL : Hid ((ys.drop k).length = 40 - k) := by show _ = _; rw [List.length_drop, HYL.out]
      have HDC : Hid (40 - k ≤ c2 - k) := by show _ ≤ _; omega
      have HDM : Hid (c2 - k ≤ 9223372036854775807) := by show _ ≤ _; omega
      have HFIT : Hid ((mergeP (putL (ys.drop k) (k : Int) 0 (o6.map PD.pl))).length ≤ 4) := by
        have := (HLAW.out (o6.map PD.pl) _ _ HM6.out rfl rfl).2.1
        exact Nat.le_trans this (by decide)
      have hci : ¬ c2 = k := by omega
      have hci2 : ¬ (c2 : Int) = (k : Int) := by omega
      have hjc : (k : Int) ≤ 40 := by omega
      go_region_with
        (first
          | (go_at_call 25; refine (GW.put_ok (HV.out.below (by (repeat (first | with_reducible exact (Below.refl _ _) | with_reducible refine Below.drew ?_ | (with_reducible refine Below.set4 ?_ ?side _ _ _ _; case side => (first | omega | (simp; omega) | (simp; done))) | (with_reducible refine Below.setCell ?_ ?side _; case side => (first | omega | (simp; omega) | (simp; done))) | (with_reducible refine Below.alloc ?_ ?side _; case side => (first | omega | (simp; omega) | (simp; done))))))) (k : Int) _ (40 - k) _ (ys.drop k) false (-1) (by rfl) HDL.out HDC.out HDM.out (HDR.out.below (by (repeat (first | with_reducible exact (Below.refl _ _) | with_reducible refine Below.drew ?_ | (with_reducible refine Below.set4 ?_ ?side _ _ _ _; case side => (first | omega | (simp; omega) | (simp; done))) | (with_reducible refine Below.setCell ?_ ?side _; case side => (first | omega | (simp; omega) | (simp; done))) | (with_reducible refine Below.alloc ?_ ?side _; case side => (first | omega | (simp; omega) | (simp; done))))))) (by omega) (by omega) (fun h => absurd h (by decide)) (fun h => absurd h (by decide)) (fun h => by cases h) HFIT.out).mono ?_; rintro e wq ⟨B, m, c', o, rfl, hGW, hOW, hPW, hMP, hbq⟩; have hcq := cell_under hbq; have hfq := frozen_under hbq; have nq : ¬ wq.heap.size = g := (by have := hbq.size; first | omega | (simp at this; omega)); have k0 := hcq g 0 (by first | omega | (simp; omega)); have k1 := hcq g 1 (by first | omega | (simp; omega)); have k2 := hcq g 2 (by first | omega | (simp; omega)); have k3 := hcq g 3 (by first | omega | (simp; omega)); have q0 := hfq g 0 (by first | omega | (simp; omega)); have q1 := hfq g 1 (by first | omega | (simp; omega)); have q2 := hfq g 2 (by first | omega | (simp; omega)); have q3 := hfq g 3 (by first | omega | (simp; omega))))
      all_goals
        go_wp2_with fail
        go_meet
        have hb := HB.out
        have hG := HG.out
        have hs4 := hb.size
        refine ⟨rfl, B, m, c', o, ?_, ?_, hMP, ?_⟩
        · (apply Blk.as; (case h => (repeat (first | with_reducible exact hG | with_reducible apply Blk.drew | with_reducible apply Blk.set4 | with_reducible apply Blk.set_ | (with_reducible apply Blk.far4 (hne := ?side); case side => (first | omega | (simp; omega) | (simp; done))) | (with_reducible apply Blk.far (hp := ?side); case side => (first | omega | (simp; omega) | (simp; done))) | with_reducible apply Blk.alloc | (with_reducible apply Blk.below (hb := hbq) (hg := ?side); case side => (first | omega | (simp; omega) | (simp; done)))))); (case e => (first | with_reducible rfl | (simp; done) | rfl)))
        · refine hGW.re ?_
          first
            | with_reducible exact own4W hOW hPW hgl _ _ _ _
            | (with_reducible refine own4W hOW hPW ?_ _ _ _ _; first | (simp; done) | (simp; omega))
        · (repeat (first | with_reducible exact hb | with_reducible refine Below.drew ?_ | (with_reducible refine Below.set4 ?_ ?side _ _ _ _; case side => (first | omega | (simp; omega) | (simp; done))) | (with_reducible refine Below.setCell ?_ ?side _; case side => (first | omega | (simp; omega) | (simp; done))) | (with_reducible refine Below.alloc ?_ ?side _; case side => (first | omega | (simp; omega) | (simp; done))) | (with_reducible refine Below.trans ?_ (Below.mono hbq ?side); case side => (first | omega | (simp; omega) | (simp; done)))))
    case rest =>
      obtain ⟨rfl, A7, n7, d7, o7, hG, hV, hM7, hb⟩ := hcut
      refine (show ∀ (a : Act) (w : World), Code.wp _ _ _ a w → _ from by assumption) _ _ ?_
      refine wp_world (fun w' => Blk w' g 47 #[.int .i64 0, .slice A7 n7 d7, .int .i64 (-1), .int .i64 60] ∧ GW w' 0 (-1) 60 A7 n7 d7 o7 ∧ Below w2.heap.size w2 w') ⟨hG, hV, hb⟩ ?_
      clear HG HV HB hG hV hb
      rintro x7 ⟨hG, hV, hb⟩
      have HG := Lib.hid hG
      have HV := Lib.hid hV
      have HB := Lib.hid hb
      have HM7 := Lib.hid hM7
      clear hG hV hb hM7
      go_upto_region 8 with (fail)
      go_cut [20] (fun s wx => s = .int .i64 0 ∧ ∃ (B : Option Addr) (m c' : Nat) (o : List PD), Blk wx g 47 #[.int .i64 0, .slice B m c', .int .i64 (-1), .int .i64 60] ∧ GW wx 0 (-1) 60 B m c' o ∧ o.map PD.pl = mergeP (putL (ys.take 40) 0 0 (o7.map PD.pl)) ∧ Below w2.heap.size w2 wx)
      case first =>
        have hG := HG.out
        have FG := hG.facts4
        have hgl := FG.1
        have n0 := World.new_ne x7 _ FG.2.1
        have n3 : ¬ x7.heap.size = g := by omega
        have HDR := Lib.hid (show RdB x7 (some ⟨by_, oy, none⟩) (ys.take 40) from (HY.out.below HB.out).front (k := 40) (by rw [HYL.out]; exact Nat.le_refl _))
        have HDL : Hid ((ys.take 40).length = 40) := by show _ = _; rw [List.length_take, HYL.out]; rfl
        have HDC : Hid (40 ≤ c2) := by show _ ≤ _; omega
        have HDM : Hid (c2 ≤ 9223372036854775807) := by show _ ≤ _; omega
        have HFIT : Hid ((mergeP (putL (ys.take 40) 0 0 (o7.map PD.pl))).length ≤ 4) := by
          obtain ⟨_, _, bs, h, _⟩ := HLAW.out (o6.map PD.pl) (o7.map PD.pl) _ HM6.out HM7.out rfl
          show _ ≤ _
          rw [h]; simp
        have hjc : (40 : Int) ≤ (c2 : Int) := by omega
        go_region_with
          (first
            | (go_at_call 25; refine (GW.put_ok (HV.out.below (by (repeat (first | with_reducible exact (Below.refl _ _) | with_reducible refine Below.drew ?_ | (with_reducible refine Below.set4 ?_ ?side _ _ _ _; case side => (first | omega | (simp; omega) | (simp; done))) | (with_reducible refine Below.setCell ?_ ?side _; case side => (first | omega | (simp; omega) | (simp; done))) | (with_reducible refine Below.alloc ?_ ?side _; case side => (first | omega | (simp; omega) | (simp; done))))))) 0 _ 40 _ (ys.take 40) false (-1) (by rfl) HDL.out HDC.out HDM.out (HDR.out.below (by (repeat (first | with_reducible exact (Below.refl _ _) | with_reducible refine Below.drew ?_ | (with_reducible refine Below.set4 ?_ ?side _ _ _ _; case side => (first | omega | (simp; omega) | (simp; done))) | (with_reducible refine Below.setCell ?_ ?side _; case side => (first | omega | (simp; omega) | (simp; done))) | (with_reducible refine Below.alloc ?_ ?side _; case side => (first | omega | (simp; omega) | (simp; done))))))) (by omega) (by omega) (fun h => absurd h (by decide)) (fun h => absurd h (by decide)) (fun h => by cases h) HFIT.out).mono ?_; rintro e wq ⟨B, m, c', o, rfl, hGW, hOW, hPW, hMP, hbq⟩; have hcq := cell_under hbq; have hfq := frozen_under hbq; have nq : ¬ wq.heap.size = g := (by have := hbq.size; first | omega | (simp at this; omega)); have k0 := hcq g 0 (by first | omega | (simp; omega)); have k1 := hcq g 1 (by first | omega | (simp; omega)); have k2 := hcq g 2 (by first | omega | (simp; omega)); have k3 := hcq g 3 (by first | omega | (simp; omega)); have q0 := hfq g 0 (by first | omega | (simp; omega)); have q1 := hfq g 1 (by first | omega | (simp; omega)); have q2 := hfq g 2 (by first | omega | (simp; omega)); have q3 := hfq g 3 (by first | omega | (simp; omega))))
        all_goals
          go_wp2_with fail
          go_meet
          have hb := HB.out
          have hG := HG.out
          have hs4 := hb.size
          refine ⟨rfl, B, m, c', o, ?_, ?_, hMP, ?_⟩
          · (apply Blk.as; (case h => (repeat (first | with_reducible exact hG | with_reducible apply Blk.drew | with_reducible apply Blk.set4 | with_reducible apply Blk.set_ | (with_reducible apply Blk.far4 (hne := ?side); case side => (first | omega | (simp; omega) | (simp; done))) | (with_reducible apply Blk.far (hp := ?side); case side => (first | omega | (simp; omega) | (simp; done))) | with_reducible apply Blk.alloc | (with_reducible apply Blk.below (hb := hbq) (hg := ?side); case side => (first | omega | (simp; omega) | (simp; done)))))); (case e => (first | with_reducible rfl | (simp; done) | rfl)))
          · refine hGW.re ?_
            first
              | with_reducible exact own4W hOW hPW hgl _ _ _ _
              | (with_reducible refine own4W hOW hPW ?_ _ _ _ _; first | (simp; done) | (simp; omega))
          · (repeat (first | with_reducible exact hb | with_reducible refine Below.drew ?_ | (with_reducible refine Below.set4 ?_ ?side _ _ _ _; case side => (first | omega | (simp; omega) | (simp; done))) | (with_reducible refine Below.setCell ?_ ?side _; case side => (first | omega | (simp; omega) | (simp; done))) | (with_reducible refine Below.alloc ?_ ?side _; case side => (first | omega | (simp; omega) | (simp; done))) | (with_reducible refine Below.trans ?_ (Below.mono hbq ?side); case side => (first | omega | (simp; omega) | (simp; done)))))
      case rest =>
        obtain ⟨rfl, A8, n8, d8, o8, hG, hV, hM8, hb⟩ := hcut
        refine (show ∀ (a : Act) (w : World), Code.wp _ _ _ a w → _ from by assumption) _ _ ?_
        refine wp_world (fun w' => Blk w' g 47 #[.int .i64 0, .slice A8 n8 d8, .int .i64 (-1), .int .i64 60] ∧ GW w' 0 (-1) 60 A8 n8 d8 o8 ∧ Below w2.heap.size w2 w') ⟨hG, hV, hb⟩ ?_
        clear HG HV HB hG hV hb
        rintro x8 ⟨hG, hV, hb⟩
        have HG := Lib.hid hG
        have HV := Lib.hid hV
        have HB := Lib.hid hb
        have HM8 := Lib.hid hM8
        clear hG hV hb hM8
        have HEND := Lib.hid (HLAW.out (o6.map PD.pl) (o7.map PD.pl) (o8.map PD.pl) HM6.out HM7.out HM8.out)
        clear HLAW HM6 HM7 HM8 HM0
        have hG := HG.out
        have FG := hG.facts4
        go_wp2_with fail
        refine (gTake_gen HV.out).mono ?_
        rintro e w8 ⟨d', A', m, c', D, dn, dc, o4, bs, rfl, hd', hbl, hdc, hdm, hD, hGV, hcase, hb8⟩
        obtain ⟨bs', hone, hlen, hbytes⟩ := HEND.out.2.2
        have hbs : bs = bs' := by
          rcases hcase with ⟨_, _, h⟩ | h
          · exact absurd rfl (h _ _ hone)
          · rw [hone] at h
            injection h with h1 _
            injection h1 with _ h1
            exact h1.symm
        subst hbs
        obtain rfl : dn = 40 := by omega
        obtain rfl : d' = 40 := by omega
        have HBL := Lib.hid hlen
        have HBY := Lib.hid hbytes
        have hb9 : Below w2.heap.size w2 w8 := HB.out.trans (hb8.mono HB.out.size)
        have HX8 := Lib.hid (HX.out.below hb9)
        have HY8 := Lib.hid (HY.out.below hb9)
        have HD8 := Lib.hid hD
        have HB8 := Lib.hid (HB02.out.trans (hb9.mono HB02.out.size))
        clear hd' hdc hdm hD hGV hcase hone hlen hbytes HEND hb8 hb9 hbl HX HY HB HB02 HV HG FG hG
        obtain ⟨bd, od, hDa, _⟩ := HD8.out.cell (by rw [HBL.out]; decide)
        subst hDa
        go_upto_region 10 with (fail)
        refine wp_world (fun w' => RdB w' (some ⟨bd, od, none⟩) bs ∧ RdB w' (some ⟨bx, ox, none⟩) xs ∧ RdB w' (some ⟨by_, oy, none⟩) ys ∧ Below w.heap.size w w') ⟨Rd.alloc HD8.out _, Rd.alloc HX8.out _, Rd.alloc HY8.out _, HB8.out.alloc HB8.out.size _⟩ ?_
        rintro w9 ⟨hD, hX, hY, hb⟩
        have HX := Lib.hid hX
        have HY := Lib.hid hY
        have HD := Lib.hid hD
        clear hD hX hY HX8 HY8 HD8 HB8
        go_wp2_with fail
        go_loopw [102] (fun t wr => ∃ p : Nat, p ≤ 40 ∧ t = .int .i64 (p : Int) ∧ Below w9.heap.size w9 wr) (fun t _ => 40 - (intOf t).toNat)
        case atStart => exact ⟨0, by decide, rfl, Below.refl _ _⟩
        case round =>
          obtain ⟨p, hp, rfl, hbr⟩ := hrel
          by_cases hlt : p < 40
          · obtain ⟨_, _, e1, hcd⟩ := (HD.out.below hbr).cell (by rw [HBL.out]; decide)
            injection e1 with e1
            injection e1 with e1 e2
            subst e1 e2
            obtain ⟨_, _, e1, hcx⟩ := (HX.out.below hbr).cell (by rw [HXL.out]; decide)
            injection e1 with e1
            injection e1 with e1 e2
            subst e1 e2
            obtain ⟨_, _, e1, hcy⟩ := (HY.out.below hbr).cell (by rw [HYL.out]; decide)
            injection e1 with e1
            injection e1 with e1 e2
            subst e1 e2
            have c0 := hcd p (by rw [HBL.out]; exact hlt)
            have cx := hcx p (by rw [HXL.out]; exact hlt)
            have cy := hcy p (by rw [HYL.out]; exact hlt)
            have hlaw := HBY.out p hlt
            generalize bs.getD p 0 = vb at *
            generalize xs.getD p 0 = vx at *
            generalize ys.getD p 0 = vy at *
            clear hcd hcx hcy
            have hpi : (p : Int) < 40 := by omega
            have hb2 := hb.trans (hbr.mono hb.size)
            by_cases hpi1 : i ≤ p
            · by_cases hpj : p < j
              · rw [if_pos ⟨hpi1, hpj⟩] at hlaw
                subst hlaw
                have t1 : decide ((i : Int) ≤ (p : Int)) = true := decide_eq_true (by omega)
                have t2 : decide ((p : Int) < (j : Int)) = true := decide_eq_true (by omega)
                have t3 : decide ((p : Int) < (i : Int)) = false := decide_eq_false (by omega)
                have t4 : decide ((j : Int) ≤ (p : Int)) = false := decide_eq_false (by omega)
                have t5 : ((vb.toNat : Int) != (vb.toNat : Int)) = false := by simp
                go_wp2_with fail
                go_roundw
                case rel => exact ⟨p + 1, by omega, by go_num, hbr⟩
                case measure => simp [intOf]; omega
              · rw [if_neg (fun h => hpj h.2)] at hlaw
                subst hlaw
                have t1 : decide ((i : Int) ≤ (p : Int)) = true := decide_eq_true (by omega)
                have t2 : decide ((p : Int) < (j : Int)) = false := decide_eq_false (by omega)
                have t3 : decide ((p : Int) < (i : Int)) = false := decide_eq_false (by omega)
                have t4 : decide ((j : Int) ≤ (p : Int)) = true := decide_eq_true (by omega)
                have t5 : ((vb.toNat : Int) != (vb.toNat : Int)) = false := by simp
                go_wp2_with fail
                go_roundw
                case rel => exact ⟨p + 1, by omega, by go_num, hbr⟩
                case measure => simp [intOf]; omega
            · rw [if_neg (fun h => hpi1 h.1)] at hlaw
              subst hlaw
              have t1 : decide ((i : Int) ≤ (p : Int)) = false := decide_eq_false (by omega)
              have t3 : decide ((p : Int) < (i : Int)) = true := decide_eq_true (by omega)
              have t5 : ((vb.toNat : Int) != (vb.toNat : Int)) = false := by simp
              go_wp2_with fail
              go_roundw
              case rel => exact ⟨p + 1, by omega, by go_num, hbr⟩
              case measure => simp [intOf]; omega
          · obtain rfl : p = 40 := by omega
            have hb2 := hb.trans (hbr.mono hb.size)
            go_wp2_with fail
            refine (gatherTells_any _).mono ?_
            rintro e wz ⟨rfl, hbz⟩
            go_wp2_with fail
            go_ret
            exact ⟨rfl, hb2.trans (hbz.mono hb2.size)⟩
end Go.Proofs.Ytolhlgalhhdkmab
