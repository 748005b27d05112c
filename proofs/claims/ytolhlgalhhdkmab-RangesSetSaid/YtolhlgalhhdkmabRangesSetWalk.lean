/- The walk of the law RangesSet. -/
import Derived.Test.YtolhlgalhhdkmabSetWalk
import Derived.Test.YtolhlgalhhdkmabPickAt
namespace Go.Proofs.Ytolhlgalhhdkmab
open Go.ChangeShapes Go.WideShapes Go.ChangeAt Go.RowKit
set_option linter.unusedVariables false

set_option maxRecDepth 100000 in
set_option maxHeartbeats 4000000 in
theorem rangesSet_walk (A : Option Addr) (len cap : Nat) (rs : List RawD) (a b n : Int) (w : World) (h : IsRaws w A len cap rs) (ha : (Lit.int .i64 a).wf = true) (hb_ : (Lit.int .i64 b).wf = true) (hn : (Lit.int .i64 n).wf = true) :
    Calls Try.prog 4 #[.slice A len cap, .int .i64 a, .int .i64 b, .int .i64 n] w fun e w' => e = .returned (.bool true) ∧ Below w.heap.size w w' := by
  obtain ⟨a0, a1⟩ := i64_bounds' ha
  obtain ⟨b0, b1⟩ := i64_bounds' hb_
  obtain ⟨n0, n1⟩ := i64_bounds' hn
  clear ha hb_ hn
  go_enter Try.func4, Try.ntmps4
  go_wp2_with fail
  refine (set_any A len cap rs w h).mono ?_
  rintro e w1 ⟨S, m, c, xs, rfl, hm, hmc, hcm, hok, hrd, hb⟩
  have hm33 : m ≤ 33 := by have := hok.len (by decide); omega
  have HM := Lib.hid hm
  have HK := Lib.hid hok
  have KS := Lib.hid hrd
  clear h hm hok hrd
  go_wp2_with fail
  refine (picked_ex _ _ a0 a1 (by decide) (by decide) _).mono ?_
  rintro e w' ⟨lo, l0, l1, rfl, rfl⟩
  obtain ⟨d, HD, d0, d1⟩ := mod_ex b 9 (by decide)
  obtain ⟨k, HKn, k0, k1⟩ := mod_ex n 80 (by decide)
  go_upto_region 3 with (fail)
  refine wp_world (fun w' => Blk w' w1.heap.size 37 #[.int .i64 lo, .int .i64 0] ∧ Below w1.heap.size w1 w') ⟨Blk.new _ _ _, (Below.refl _ _).alloc (Nat.le_refl _) _⟩ ?_
  rintro w2 ⟨hB, hq⟩
  have FB := hB.two
  have hwr : IntKind.i64.wrap (lo + d) = lo + d := IntWalk.i64_in _ (by omega)
  go_cut [] (fun wx => Blk wx w1.heap.size 37 #[.int .i64 lo, .int .i64 (lo + d)] ∧ Below w1.heap.size w1 wx)
  case first =>
    go_region_with ((go_at_call 12; refine (picked_at _ _ _ b0 b1 (by decide) (by decide) HD _).mono ?_; rintro e w' ⟨rfl, rfl⟩))
    all_goals
      go_wp2_with fail
      go_meet
      refine ⟨?_, ?_⟩
      · (apply Blk.as; (case h => (repeat (first | with_reducible exact hB | with_reducible apply Blk.drew | with_reducible apply Blk.set4 | with_reducible apply Blk.set_ | (with_reducible apply Blk.far4 (hne := ?side); case side => (first | omega | (simp; omega) | (simp; done))) | (with_reducible apply Blk.far (hp := ?side); case side => (first | omega | (simp; omega) | (simp; done))) | with_reducible apply Blk.alloc))); (case e => (first | with_reducible rfl | (simp; done) | rfl)))
      · (repeat (first | with_reducible exact hq | with_reducible refine Below.drew ?_ | (with_reducible refine Below.set4 ?_ ?side _ _ _ _; case side => (first | omega | (simp; omega) | (simp; done))) | (with_reducible refine Below.setCell ?_ ?side _; case side => (first | omega | (simp; omega) | (simp; done))) | (with_reducible refine Below.alloc ?_ ?side _; case side => (first | omega | (simp; omega) | (simp; done)))))
  case rest =>
    clear hB hq FB hwr
    obtain ⟨hB, hq⟩ := hcut
    have FB := hB.two
    have hbz := hb.trans (hq.mono hb.size)
    have KS_ := Lib.hid (RdX.below KS.out hq)
    clear KS hb hq
    have hb := hbz
    have KS := KS_
    clear hbz KS_
    go_wp2_with fail
    refine (picked_at _ _ _ n0 n1 (by decide) (by decide) HKn _).mono ?_
    rintro e w' ⟨rfl, rfl⟩
    obtain ⟨u, hu⟩ : ∃ u, addR xs (lo, lo + d) false = u := ⟨_, rfl⟩
    obtain ⟨v, hv⟩ : ∃ v, cutR xs (lo, lo + d) = v := ⟨_, rfl⟩
    have hmu : ∀ y, memR u y ↔ memR xs y ∨ (lo ≤ y ∧ y ≤ lo + d) := fun y => by rw [← hu]; exact addR_mem HK.out.1 (lo, lo + d) (show lo ≤ lo + d by omega) y
    have hmv : ∀ y, memR v y ↔ memR xs y ∧ ¬ (lo ≤ y ∧ y ≤ lo + d) := fun y => by rw [← hv]; exact cutR_mem xs (lo, lo + d) (show lo ≤ lo + d by omega) y
    have HKu : SetOk u 80 := by rw [← hu]; exact (HK.out.mono (by decide)).add lo (lo + d) l0 (by omega) (by omega) (by decide)
    have HKv : SetOk v 80 := by rw [← hv]; exact (HK.out.mono (by decide)).cut lo (lo + d) (by omega)
    have HU := Lib.hid hu
    have HV := Lib.hid hv
    have KU := Lib.hid HKu
    have KV := Lib.hid HKv
    clear hu hv HKu HKv
    obtain ⟨bs, hbs⟩ : ∃ bs, hasB xs k = bs := ⟨_, rfl⟩
    have hin : (lo ≤ k ∧ k ≤ lo + d) ∨ (k < lo) ∨ (lo ≤ k ∧ lo + d < k) := by omega
    obtain ⟨bu, bv, hbu, hbv, hcase⟩ : ∃ bu bv, hasB u k = bu ∧ hasB v k = bv ∧ (((lo ≤ k ∧ k ≤ lo + d) ∧ bu = true ∧ bv = false) ∨ ((k < lo) ∧ bs = bu ∧ bs = bv) ∨ ((lo ≤ k ∧ lo + d < k) ∧ bs = bu ∧ bs = bv)) := by
      refine ⟨hasB u k, hasB v k, rfl, rfl, ?_⟩
      rcases hin with h1 | h1 | h1
      · exact .inl ⟨h1, (hasB_iff _ _).2 ((hmu k).2 (.inr h1)), by rw [Bool.eq_false_iff, Ne, hasB_iff, hmv]; exact fun h => h.2 h1⟩
      · exact .inr (.inl ⟨h1, by rw [← hbs]; refine hasB_congr ?_; rw [hmu]; exact (or_iff_left (by omega)).symm, by rw [← hbs]; refine hasB_congr ?_; rw [hmv]; exact (and_iff_left (by omega)).symm⟩)
      · exact .inr (.inr ⟨h1, by rw [← hbs]; refine hasB_congr ?_; rw [hmu]; exact (or_iff_left (by omega)).symm, by rw [← hbs]; refine hasB_congr ?_; rw [hmv]; exact (and_iff_left (by omega)).symm⟩)
    have HBS := Lib.hid hbs
    have HBU := Lib.hid hbu
    have HBV := Lib.hid hbv
    clear hbs hbu hbv hin hmu hmv
    have hlu := KU.out.len (by decide)
    have hlv := KV.out.len (by decide)
    obtain ⟨mu, hlmu⟩ : ∃ mu, u.length = mu := ⟨_, rfl⟩
    obtain ⟨mv, hlmv⟩ : ∃ mv, v.length = mv := ⟨_, rfl⟩
    rw [hlmu] at hlu
    rw [hlmv] at hlv
    have HLU := Lib.hid hlmu
    have HLV := Lib.hid hlmv
    clear hlmu hlmv
    rcases hcase with ⟨⟨i1, i2⟩, rfl, rfl⟩ | ⟨i1, rfl, rfl⟩ | ⟨⟨i1, i2⟩, rfl, rfl⟩
    all_goals
      go_wp2_with fail
      refine (rAdd_rd S m c xs HM.out HK.out.1 hmc hcm (by omega) lo (lo + d) l0 (by omega) (by omega) _ _ HU.out HLU.out _ KS.out).mono ?_
      rintro e w1_ ⟨U, cu, rfl, hcu, hcu2, hrdu, hb1⟩
      have KS_1 := Lib.hid (RdX.below KS.out hb1)
      have hB_1 := hB.carry hb1
      have hz1 := hb.trans (hb1.mono hb.size)
      clear KS hB FB hb1 hb
      have KS := KS_1
      clear KS_1
      have hB := hB_1
      clear hB_1
      have FB := hB.two
      have hb := hz1
      clear hz1
      have KU_ := Lib.hid hrdu
      clear hrdu
      go_wp2_with fail
      refine (rCut_rd S m c xs HM.out HK.out.1 hmc hcm (by omega) lo (lo + d) l0 (by omega) (by omega) _ _ HV.out HLV.out _ KS.out).mono ?_
      rintro e w2_ ⟨V, cv, rfl, hcv, hcv2, hrdv, hb2⟩
      have KS_2 := Lib.hid (RdX.below KS.out hb2)
      have KU__2 := Lib.hid (RdX.below KU_.out hb2)
      have hB_2 := hB.carry hb2
      have hz2 := hb.trans (hb2.mono hb.size)
      clear KS KU_ hB FB hb2 hb
      have KS := KS_2
      clear KS_2
      have KU_ := KU__2
      clear KU__2
      have hB := hB_2
      clear hB_2
      have FB := hB.two
      have hb := hz2
      clear hz2
      have KV_ := Lib.hid hrdv
      clear hrdv
      go_wp2_with fail
      refine (rangesTell_any _).mono ?_
      rintro e w3_ ⟨rfl, hb3⟩
      have KS_3 := Lib.hid (RdX.below KS.out hb3)
      have KU__3 := Lib.hid (RdX.below KU_.out hb3)
      have KV__3 := Lib.hid (RdX.below KV_.out hb3)
      have hB_3 := hB.carry hb3
      have hz3 := hb.trans (hb3.mono hb.size)
      clear KS KU_ KV_ hB FB hb3 hb
      have KS := KS_3
      clear KS_3
      have KU_ := KU__3
      clear KU__3
      have KV_ := KV__3
      clear KV__3
      have hB := hB_3
      clear hB_3
      have FB := hB.two
      have hb := hz3
      clear hz3
      go_wp2_with fail
      refine (rCheck_ok S m c xs HM.out HK.out.1 hmc hcm _ KS.out).mono ?_
      rintro e w4_ ⟨rfl, hb4⟩
      have KS_4 := Lib.hid (RdX.below KS.out hb4)
      have KU__4 := Lib.hid (RdX.below KU_.out hb4)
      have KV__4 := Lib.hid (RdX.below KV_.out hb4)
      have hB_4 := hB.carry hb4
      have hz4 := hb.trans (hb4.mono hb.size)
      clear KS KU_ KV_ hB FB hb4 hb
      have KS := KS_4
      clear KS_4
      have KU_ := KU__4
      clear KU__4
      have KV_ := KV__4
      clear KV__4
      have hB := hB_4
      clear hB_4
      have FB := hB.two
      have hb := hz4
      clear hz4
      go_wp2_with fail
      refine (rCheck_ok U _ cu u HLU.out KU.out.1 hcu hcu2 _ KU_.out).mono ?_
      rintro e w5_ ⟨rfl, hb5⟩
      have KS_5 := Lib.hid (RdX.below KS.out hb5)
      have KU__5 := Lib.hid (RdX.below KU_.out hb5)
      have KV__5 := Lib.hid (RdX.below KV_.out hb5)
      have hB_5 := hB.carry hb5
      have hz5 := hb.trans (hb5.mono hb.size)
      clear KS KU_ KV_ hB FB hb5 hb
      have KS := KS_5
      clear KS_5
      have KU_ := KU__5
      clear KU__5
      have KV_ := KV__5
      clear KV__5
      have hB := hB_5
      clear hB_5
      have FB := hB.two
      have hb := hz5
      clear hz5
      go_wp2_with fail
      refine (rCheck_ok V _ cv v HLV.out KV.out.1 hcv hcv2 _ KV_.out).mono ?_
      rintro e w6_ ⟨rfl, hb6⟩
      have KS_6 := Lib.hid (RdX.below KS.out hb6)
      have KU__6 := Lib.hid (RdX.below KU_.out hb6)
      have KV__6 := Lib.hid (RdX.below KV_.out hb6)
      have hB_6 := hB.carry hb6
      have hz6 := hb.trans (hb6.mono hb.size)
      clear KS KU_ KV_ hB FB hb6 hb
      have KS := KS_6
      clear KS_6
      have KU_ := KU__6
      clear KU__6
      have KV_ := KV__6
      clear KV__6
      have hB := hB_6
      clear hB_6
      have FB := hB.two
      have hb := hz6
      clear hz6
      go_wp2_with fail
      refine (has_any U _ cu u HLU.out KU.out.1 hcu hcu2 k _ HBU.out _ KU_.out).mono ?_
      rintro e w7_ ⟨rfl, hb7⟩
      have KS_7 := Lib.hid (RdX.below KS.out hb7)
      have KU__7 := Lib.hid (RdX.below KU_.out hb7)
      have KV__7 := Lib.hid (RdX.below KV_.out hb7)
      have hB_7 := hB.carry hb7
      have hz7 := hb.trans (hb7.mono hb.size)
      clear KS KU_ KV_ hB FB hb7 hb
      have KS := KS_7
      clear KS_7
      have KU_ := KU__7
      clear KU__7
      have KV_ := KV__7
      clear KV__7
      have hB := hB_7
      clear hB_7
      have FB := hB.two
      have hb := hz7
      clear hz7
      go_wp2_with fail
      refine (has_any S m c xs HM.out HK.out.1 hmc hcm k _ HBS.out _ KS.out).mono ?_
      rintro e w8_ ⟨rfl, hb8⟩
      have KS_8 := Lib.hid (RdX.below KS.out hb8)
      have KU__8 := Lib.hid (RdX.below KU_.out hb8)
      have KV__8 := Lib.hid (RdX.below KV_.out hb8)
      have hB_8 := hB.carry hb8
      have hz8 := hb.trans (hb8.mono hb.size)
      clear KS KU_ KV_ hB FB hb8 hb
      have KS := KS_8
      clear KS_8
      have KU_ := KU__8
      clear KU__8
      have KV_ := KV__8
      clear KV__8
      have hB := hB_8
      clear hB_8
      have FB := hB.two
      have hb := hz8
      clear hz8
      cases bs
      all_goals
        go_wp2_with fail
        refine (has_any V _ cv v HLV.out KV.out.1 hcv hcv2 k _ HBV.out _ KV_.out).mono ?_
        rintro e w9_ ⟨rfl, hb9⟩
        have KS_9 := Lib.hid (RdX.below KS.out hb9)
        have KU__9 := Lib.hid (RdX.below KU_.out hb9)
        have KV__9 := Lib.hid (RdX.below KV_.out hb9)
        have hB_9 := hB.carry hb9
        have hz9 := hb.trans (hb9.mono hb.size)
        clear KS KU_ KV_ hB FB hb9 hb
        have KS := KS_9
        clear KS_9
        have KU_ := KU__9
        clear KU__9
        have KV_ := KV__9
        clear KV__9
        have hB := hB_9
        clear hB_9
        have FB := hB.two
        have hb := hz9
        clear hz9
        go_wp2_with fail
        refine (has_any S m c xs HM.out HK.out.1 hmc hcm k _ HBS.out _ KS.out).mono ?_
        rintro e w10_ ⟨rfl, hb10⟩
        have KS_10 := Lib.hid (RdX.below KS.out hb10)
        have KU__10 := Lib.hid (RdX.below KU_.out hb10)
        have KV__10 := Lib.hid (RdX.below KV_.out hb10)
        have hB_10 := hB.carry hb10
        have hz10 := hb.trans (hb10.mono hb.size)
        clear KS KU_ KV_ hB FB hb10 hb
        have KS := KS_10
        clear KS_10
        have KU_ := KU__10
        clear KU__10
        have KV_ := KV__10
        clear KV__10
        have hB := hB_10
        clear hB_10
        have FB := hB.two
        have hb := hz10
        clear hz10
        go_wp2_with fail
        go_ret
        exact ⟨by first | (simp; done) | (simp; omega), hb⟩
end Go.Proofs.Ytolhlgalhhdkmab
