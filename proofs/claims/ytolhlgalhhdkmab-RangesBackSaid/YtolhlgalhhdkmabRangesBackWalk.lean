/- The walk of the law RangesBack. -/
import Derived.Test.YtolhlgalhhdkmabSetWalk
import Derived.Test.YtolhlgalhhdkmabPickAt
namespace Go.Proofs.Ytolhlgalhhdkmab
open Go.ChangeShapes Go.WideShapes Go.ChangeAt Go.RowKit
set_option linter.unusedVariables false

set_option maxRecDepth 100000 in
set_option maxHeartbeats 4000000 in
theorem rangesBack_walk (A : Option Addr) (len cap : Nat) (rs : List RawD) (a b : Int) (w : World) (h : IsRaws w A len cap rs) (ha : (Lit.int .i64 a).wf = true) (hb_ : (Lit.int .i64 b).wf = true) :
    Calls Try.prog 6 #[.slice A len cap, .int .i64 a, .int .i64 b] w fun e w' => e = .returned (.bool true) ∧ Below w.heap.size w w' := by
  obtain ⟨a0, a1⟩ := i64_bounds' ha
  obtain ⟨b0, b1⟩ := i64_bounds' hb_
  clear ha hb_
  go_enter Try.func6, Try.ntmps6
  go_wp2_with fail
  refine (set_any A len cap rs w h).mono ?_
  rintro e w1 ⟨S, m, c, xs, rfl, hm, hmc, hcm, hok, hrd, hb⟩
  have hm33 : m ≤ 33 := by have := hok.len (by decide); omega
  have HM := Lib.hid hm
  have HK := Lib.hid hok
  have KS := Lib.hid hrd
  clear h hm hok hrd
  go_wp2_with fail
  refine (picked_ex _ _ a0 a1 (by decide) (by decide) _).mono ?_
  rintro e w' ⟨lo, l0, l1, rfl, rfl⟩
  obtain ⟨d, HD, d0, d1⟩ := mod_ex b 9 (by decide)
  go_upto_region 3 with (fail)
  refine wp_world (fun w' => Blk w' w1.heap.size 37 #[.int .i64 lo, .int .i64 0] ∧ Below w1.heap.size w1 w') ⟨Blk.new _ _ _, (Below.refl _ _).alloc (Nat.le_refl _) _⟩ ?_
  rintro w2 ⟨hB, hq⟩
  have FB := hB.two
  have hwr : IntKind.i64.wrap (lo + d) = lo + d := IntWalk.i64_in _ (by omega)
  go_cut [] (fun wx => Blk wx w1.heap.size 37 #[.int .i64 lo, .int .i64 (lo + d)] ∧ Below w1.heap.size w1 wx)
  case first =>
    go_region_with ((go_at_call 12; refine (picked_at _ _ _ b0 b1 (by decide) (by decide) HD _).mono ?_; rintro e w' ⟨rfl, rfl⟩))
    all_goals
      go_wp2_with fail
      go_meet
      refine ⟨?_, ?_⟩
      · (apply Blk.as; (case h => (repeat (first | with_reducible exact hB | with_reducible apply Blk.drew | with_reducible apply Blk.set4 | with_reducible apply Blk.set_ | (with_reducible apply Blk.far4 (hne := ?side); case side => (first | omega | (simp; omega) | (simp; done))) | (with_reducible apply Blk.far (hp := ?side); case side => (first | omega | (simp; omega) | (simp; done))) | with_reducible apply Blk.alloc))); (case e => (first | with_reducible rfl | (simp; done) | rfl)))
      · (repeat (first | with_reducible exact hq | with_reducible refine Below.drew ?_ | (with_reducible refine Below.set4 ?_ ?side _ _ _ _; case side => (first | omega | (simp; omega) | (simp; done))) | (with_reducible refine Below.setCell ?_ ?side _; case side => (first | omega | (simp; omega) | (simp; done))) | (with_reducible refine Below.alloc ?_ ?side _; case side => (first | omega | (simp; omega) | (simp; done)))))
  case rest =>
    clear hB hq FB hwr
    obtain ⟨hB, hq⟩ := hcut
    have FB := hB.two
    have hbz := hb.trans (hq.mono hb.size)
    have KS_ := Lib.hid (RdX.below KS.out hq)
    clear KS hb hq
    have hb := hbz
    have KS := KS_
    clear hbz KS_
    obtain ⟨u, hu⟩ : ∃ u, addR xs (lo, lo + d) false = u := ⟨_, rfl⟩
    have HKu : SetOk u 80 := by rw [← hu]; exact (HK.out.mono (by decide)).add lo (lo + d) l0 (by omega) (by omega) (by decide)
    have hlu := HKu.len (by decide)
    obtain ⟨mu, hlmu⟩ : ∃ mu, u.length = mu := ⟨_, rfl⟩
    rw [hlmu] at hlu
    have HLu := Lib.hid hlmu
    have HEu := Lib.hid hu
    have KOu := Lib.hid HKu
    clear hlmu hu HKu
    obtain ⟨v, hv⟩ : ∃ v, cutR xs (lo, lo + d) = v := ⟨_, rfl⟩
    have HKv : SetOk v 80 := by rw [← hv]; exact (HK.out.mono (by decide)).cut lo (lo + d) (by omega)
    have hlv := HKv.len (by decide)
    obtain ⟨mv, hlmv⟩ : ∃ mv, v.length = mv := ⟨_, rfl⟩
    rw [hlmv] at hlv
    have HLv := Lib.hid hlmv
    have HEv := Lib.hid hv
    have KOv := Lib.hid HKv
    clear hlmv hv HKv
    obtain ⟨x, hx⟩ : ∃ x, addR v (lo, lo + d) false = x := ⟨_, rfl⟩
    have HKx : SetOk x 80 := by rw [← hx]; exact KOv.out.add lo (lo + d) l0 (by omega) (by omega) (by decide)
    have hlx := HKx.len (by decide)
    obtain ⟨mx, hlmx⟩ : ∃ mx, x.length = mx := ⟨_, rfl⟩
    rw [hlmx] at hlx
    have HLx := Lib.hid hlmx
    have HEx := Lib.hid hx
    have KOx := Lib.hid HKx
    clear hlmx hx HKx
    obtain ⟨y, hy⟩ : ∃ y, cutR u (lo, lo + d) = y := ⟨_, rfl⟩
    have HKy : SetOk y 80 := by rw [← hy]; exact KOu.out.cut lo (lo + d) (by omega)
    have hly := HKy.len (by decide)
    obtain ⟨my, hlmy⟩ : ∃ my, y.length = my := ⟨_, rfl⟩
    rw [hlmy] at hly
    have HLy := Lib.hid hlmy
    have HEy := Lib.hid hy
    have KOy := Lib.hid HKy
    clear hlmy hy HKy
    have hux : x = u := by
      refine goodFrom_same KOx.out.1 KOu.out.1 fun n => ?_
      rw [← HEx.out, ← HEu.out, addR_mem KOv.out.1 (lo, lo + d) (show lo ≤ lo + d by omega) n, addR_mem HK.out.1 (lo, lo + d) (show lo ≤ lo + d by omega) n, ← HEv.out, cutR_mem xs (lo, lo + d) (show lo ≤ lo + d by omega) n]
      by_cases h1 : memR xs n <;> by_cases h2 : lo ≤ n ∧ n ≤ lo + d <;> simp [h1, h2]
    have hvy : y = v := by
      refine goodFrom_same KOy.out.1 KOv.out.1 fun n => ?_
      rw [← HEy.out, ← HEv.out, cutR_mem u (lo, lo + d) (show lo ≤ lo + d by omega) n, cutR_mem xs (lo, lo + d) (show lo ≤ lo + d by omega) n, ← HEu.out, addR_mem HK.out.1 (lo, lo + d) (show lo ≤ lo + d by omega) n]
      by_cases h1 : memR xs n <;> by_cases h2 : lo ≤ n ∧ n ≤ lo + d <;> simp [h1, h2]
    subst hux
    subst hvy
    have hmxu : mx = mu := by rw [← HLx.out, ← HLu.out]
    have hmyv : my = mv := by rw [← HLy.out, ← HLv.out]
    subst hmxu
    subst hmyv
    go_wp2_with fail
    refine (rAdd_rd S m c xs HM.out HK.out.1 hmc hcm (by omega) lo (lo + d) l0 (by omega) (by omega) _ _ HEu.out HLu.out _ KS.out).mono ?_
    rintro e w1_ ⟨U, cu, rfl, hcu, hcu2, hrdu, hb1⟩
    have KS_1 := Lib.hid (RdX.below KS.out hb1)
    have hB_1 := hB.carry hb1
    have hz1 := hb.trans (hb1.mono hb.size)
    clear KS hB FB hb1 hb
    have KS := KS_1
    clear KS_1
    have hB := hB_1
    clear hB_1
    have FB := hB.two
    have hb := hz1
    clear hz1
    have KU_ := Lib.hid hrdu
    clear hrdu
    go_wp2_with fail
    refine (rCut_rd S m c xs HM.out HK.out.1 hmc hcm (by omega) lo (lo + d) l0 (by omega) (by omega) _ _ HEv.out HLv.out _ KS.out).mono ?_
    rintro e w2_ ⟨V, cv, rfl, hcv, hcv2, hrdv, hb2⟩
    have KS_2 := Lib.hid (RdX.below KS.out hb2)
    have KU__2 := Lib.hid (RdX.below KU_.out hb2)
    have hB_2 := hB.carry hb2
    have hz2 := hb.trans (hb2.mono hb.size)
    clear KS KU_ hB FB hb2 hb
    have KS := KS_2
    clear KS_2
    have KU_ := KU__2
    clear KU__2
    have hB := hB_2
    clear hB_2
    have FB := hB.two
    have hb := hz2
    clear hz2
    have KV_ := Lib.hid hrdv
    clear hrdv
    go_wp2_with fail
    refine (rAdd_rd V _ cv y HLv.out KOv.out.1 hcv hcv2 (by omega) lo (lo + d) l0 (by omega) (by omega) _ _ HEx.out HLx.out _ KV_.out).mono ?_
    rintro e w3_ ⟨X, cx, rfl, hcx, hcx2, hrdx, hb3⟩
    have KS_3 := Lib.hid (RdX.below KS.out hb3)
    have KU__3 := Lib.hid (RdX.below KU_.out hb3)
    have KV__3 := Lib.hid (RdX.below KV_.out hb3)
    have hB_3 := hB.carry hb3
    have hz3 := hb.trans (hb3.mono hb.size)
    clear KS KU_ KV_ hB FB hb3 hb
    have KS := KS_3
    clear KS_3
    have KU_ := KU__3
    clear KU__3
    have KV_ := KV__3
    clear KV__3
    have hB := hB_3
    clear hB_3
    have FB := hB.two
    have hb := hz3
    clear hz3
    have KX_ := Lib.hid hrdx
    clear hrdx
    go_wp2_with fail
    refine (rCut_rd U _ cu x HLu.out KOu.out.1 hcu hcu2 (by omega) lo (lo + d) l0 (by omega) (by omega) _ _ HEy.out HLy.out _ KU_.out).mono ?_
    rintro e w4_ ⟨Y, cy, rfl, hcy, hcy2, hrdy, hb4⟩
    have KS_4 := Lib.hid (RdX.below KS.out hb4)
    have KU__4 := Lib.hid (RdX.below KU_.out hb4)
    have KV__4 := Lib.hid (RdX.below KV_.out hb4)
    have KX__4 := Lib.hid (RdX.below KX_.out hb4)
    have hB_4 := hB.carry hb4
    have hz4 := hb.trans (hb4.mono hb.size)
    clear KS KU_ KV_ KX_ hB FB hb4 hb
    have KS := KS_4
    clear KS_4
    have KU_ := KU__4
    clear KU__4
    have KV_ := KV__4
    clear KV__4
    have KX_ := KX__4
    clear KX__4
    have hB := hB_4
    clear hB_4
    have FB := hB.two
    have hb := hz4
    clear hz4
    have KY_ := Lib.hid hrdy
    clear hrdy
    go_wp2_with fail
    refine (rangesTell_any _).mono ?_
    rintro e w5_ ⟨rfl, hb5⟩
    have KS_5 := Lib.hid (RdX.below KS.out hb5)
    have KU__5 := Lib.hid (RdX.below KU_.out hb5)
    have KV__5 := Lib.hid (RdX.below KV_.out hb5)
    have KX__5 := Lib.hid (RdX.below KX_.out hb5)
    have KY__5 := Lib.hid (RdX.below KY_.out hb5)
    have hB_5 := hB.carry hb5
    have hz5 := hb.trans (hb5.mono hb.size)
    clear KS KU_ KV_ KX_ KY_ hB FB hb5 hb
    have KS := KS_5
    clear KS_5
    have KU_ := KU__5
    clear KU__5
    have KV_ := KV__5
    clear KV__5
    have KX_ := KX__5
    clear KX__5
    have KY_ := KY__5
    clear KY__5
    have hB := hB_5
    clear hB_5
    have FB := hB.two
    have hb := hz5
    clear hz5
    go_wp2_with fail
    refine (sameRanges_eq U X _ cu cx x HLu.out hcu hcx hcu2 hcx2 _ KU_.out KX_.out).mono ?_
    rintro e w6_ ⟨rfl, hb6⟩
    have KS_6 := Lib.hid (RdX.below KS.out hb6)
    have KU__6 := Lib.hid (RdX.below KU_.out hb6)
    have KV__6 := Lib.hid (RdX.below KV_.out hb6)
    have KX__6 := Lib.hid (RdX.below KX_.out hb6)
    have KY__6 := Lib.hid (RdX.below KY_.out hb6)
    have hB_6 := hB.carry hb6
    have hz6 := hb.trans (hb6.mono hb.size)
    clear KS KU_ KV_ KX_ KY_ hB FB hb6 hb
    have KS := KS_6
    clear KS_6
    have KU_ := KU__6
    clear KU__6
    have KV_ := KV__6
    clear KV__6
    have KX_ := KX__6
    clear KX__6
    have KY_ := KY__6
    clear KY__6
    have hB := hB_6
    clear hB_6
    have FB := hB.two
    have hb := hz6
    clear hz6
    go_wp2_with fail
    refine (sameRanges_eq V Y _ cv cy y HLv.out hcv hcy hcv2 hcy2 _ KV_.out KY_.out).mono ?_
    rintro e w7_ ⟨rfl, hb7⟩
    have KS_7 := Lib.hid (RdX.below KS.out hb7)
    have KU__7 := Lib.hid (RdX.below KU_.out hb7)
    have KV__7 := Lib.hid (RdX.below KV_.out hb7)
    have KX__7 := Lib.hid (RdX.below KX_.out hb7)
    have KY__7 := Lib.hid (RdX.below KY_.out hb7)
    have hB_7 := hB.carry hb7
    have hz7 := hb.trans (hb7.mono hb.size)
    clear KS KU_ KV_ KX_ KY_ hB FB hb7 hb
    have KS := KS_7
    clear KS_7
    have KU_ := KU__7
    clear KU__7
    have KV_ := KV__7
    clear KV__7
    have KX_ := KX__7
    clear KX__7
    have KY_ := KY__7
    clear KY__7
    have hB := hB_7
    clear hB_7
    have FB := hB.two
    have hb := hz7
    clear hz7
    go_wp2_with fail
    go_ret
    exact ⟨rfl, hb⟩
end Go.Proofs.Ytolhlgalhhdkmab
