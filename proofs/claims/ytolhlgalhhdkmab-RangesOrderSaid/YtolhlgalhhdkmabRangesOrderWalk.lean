/- The walk of the law RangesOrder. -/
import Derived.Test.YtolhlgalhhdkmabSetWalk
import Derived.Test.YtolhlgalhhdkmabPickAt
namespace Go.Proofs.Ytolhlgalhhdkmab
open Go.ChangeShapes Go.WideShapes Go.ChangeAt Go.RowKit
set_option linter.unusedVariables false

set_option maxRecDepth 100000 in
set_option maxHeartbeats 4000000 in
theorem rangesOrder_walk (A : Option Addr) (len cap : Nat) (rs : List RawD) (a b c' d' : Int) (w : World) (h : IsRaws w A len cap rs) (ha : (Lit.int .i64 a).wf = true) (hb_ : (Lit.int .i64 b).wf = true) (hc_ : (Lit.int .i64 c').wf = true) (hd_ : (Lit.int .i64 d').wf = true) :
    Calls Try.prog 5 #[.slice A len cap, .int .i64 a, .int .i64 b, .int .i64 c', .int .i64 d'] w fun e w' => e = .returned (.bool true) ∧ Below w.heap.size w w' := by
  obtain ⟨a0, a1⟩ := i64_bounds' ha
  obtain ⟨b0, b1⟩ := i64_bounds' hb_
  obtain ⟨c0, c1⟩ := i64_bounds' hc_
  obtain ⟨d0_, d1_⟩ := i64_bounds' hd_
  clear ha hb_ hc_ hd_
  go_enter Try.func5, Try.ntmps5
  go_wp2_with fail
  refine (set_any A len cap rs w h).mono ?_
  rintro e w1 ⟨S, m, c, xs, rfl, hm, hmc, hcm, hok, hrd, hb⟩
  have hm33 : m ≤ 33 := by have := hok.len (by decide); omega
  have HM := Lib.hid hm
  have HK := Lib.hid hok
  have KS := Lib.hid hrd
  clear h hm hok hrd
  go_wp2_with fail
  refine (picked_ex _ _ a0 a1 (by decide) (by decide) _).mono ?_
  rintro e w' ⟨lo, l0, l1, rfl, rfl⟩
  go_wp2_with fail
  refine (picked_ex _ _ c0 c1 (by decide) (by decide) _).mono ?_
  rintro e w' ⟨lp, p0, p1, rfl, rfl⟩
  obtain ⟨d, HD, d0, d1⟩ := mod_ex b 9 (by decide)
  obtain ⟨f, HF, f0, f1⟩ := mod_ex d' 9 (by decide)
  go_upto_region 3 with (fail)
  refine wp_world (fun w' => Blk w' w1.heap.size 37 #[.int .i64 lo, .int .i64 0] ∧ Blk w' (w1.heap.size + 1) 37 #[.int .i64 lp, .int .i64 0] ∧ Below w1.heap.size w1 w') ⟨(Blk.new _ _ _).alloc _, Blk.new1 _ _ _ _, ((Below.refl _ _).alloc (Nat.le_refl _) _).alloc (by simp) _⟩ ?_
  rintro w2 ⟨hB, hC, hq⟩
  have FB := hB.two
  have FC := hC.two
  have hwr : IntKind.i64.wrap (lo + d) = lo + d := IntWalk.i64_in _ (by omega)
  have hwr2 : IntKind.i64.wrap (lp + f) = lp + f := IntWalk.i64_in _ (by omega)
  go_cut [] (fun wx => Blk wx w1.heap.size 37 #[.int .i64 lo, .int .i64 (lo + d)] ∧ Blk wx (w1.heap.size + 1) 37 #[.int .i64 lp, .int .i64 (lp + f)] ∧ Below w1.heap.size w1 wx)
  case first =>
    go_region_with (first
        | (go_at_call_of 12 (Value.int .i64 b); refine (picked_at _ _ _ b0 b1 (by decide) (by decide) HD _).mono ?_; rintro e w' ⟨rfl, rfl⟩)
        | (go_at_call_of 12 (Value.int .i64 d'); refine (picked_at _ _ _ d0_ d1_ (by decide) (by decide) HF _).mono ?_; rintro e w' ⟨rfl, rfl⟩))
    all_goals
      go_wp2_with fail
      go_meet
      refine ⟨?_, ?_, ?_⟩
      · (apply Blk.as; (case h => (repeat (first | with_reducible exact hB | with_reducible apply Blk.drew | with_reducible apply Blk.set4 | with_reducible apply Blk.set_ | (with_reducible apply Blk.far4 (hne := ?side); case side => (first | omega | (simp; omega) | (simp; done))) | (with_reducible apply Blk.far (hp := ?side); case side => (first | omega | (simp; omega) | (simp; done))) | with_reducible apply Blk.alloc))); (case e => (first | with_reducible rfl | (simp; done) | rfl)))
      · (apply Blk.as; (case h => (repeat (first | with_reducible exact hC | with_reducible apply Blk.drew | with_reducible apply Blk.set4 | with_reducible apply Blk.set_ | (with_reducible apply Blk.far4 (hne := ?side); case side => (first | omega | (simp; omega) | (simp; done))) | (with_reducible apply Blk.far (hp := ?side); case side => (first | omega | (simp; omega) | (simp; done))) | with_reducible apply Blk.alloc))); (case e => (first | with_reducible rfl | (simp; done) | rfl)))
      · (repeat (first | with_reducible exact hq | with_reducible refine Below.drew ?_ | (with_reducible refine Below.set4 ?_ ?side _ _ _ _; case side => (first | omega | (simp; omega) | (simp; done))) | (with_reducible refine Below.setCell ?_ ?side _; case side => (first | omega | (simp; omega) | (simp; done))) | (with_reducible refine Below.alloc ?_ ?side _; case side => (first | omega | (simp; omega) | (simp; done)))))
  case rest =>
    clear hB hC hq FB FC hwr hwr2
    obtain ⟨hB, hC, hq⟩ := hcut
    have FB := hB.two
    have FC := hC.two
    have hbz := hb.trans (hq.mono hb.size)
    have KS_ := Lib.hid (RdX.below KS.out hq)
    clear KS hb hq
    have hb := hbz
    have KS := KS_
    clear hbz KS_
    obtain ⟨p, hp⟩ : ∃ p, addR xs (lo, lo + d) false = p := ⟨_, rfl⟩
    have HKp : SetOk p 80 := by rw [← hp]; exact (HK.out.mono (by decide)).add lo (lo + d) l0 (by omega) (by omega) (by decide)
    have hlp := HKp.len (by decide)
    obtain ⟨mp, hlmp⟩ : ∃ mp, p.length = mp := ⟨_, rfl⟩
    rw [hlmp] at hlp
    have HLp := Lib.hid hlmp
    have HEp := Lib.hid hp
    have KOp := Lib.hid HKp
    clear hlmp hp HKp
    obtain ⟨q, hq⟩ : ∃ q, addR p (lp, lp + f) false = q := ⟨_, rfl⟩
    have HKq : SetOk q 80 := by rw [← hq]; exact KOp.out.add lp (lp + f) p0 (by omega) (by omega) (by decide)
    have hlq := HKq.len (by decide)
    obtain ⟨mq, hlmq⟩ : ∃ mq, q.length = mq := ⟨_, rfl⟩
    rw [hlmq] at hlq
    have HLq := Lib.hid hlmq
    have HEq := Lib.hid hq
    have KOq := Lib.hid HKq
    clear hlmq hq HKq
    obtain ⟨u, hu⟩ : ∃ u, addR xs (lp, lp + f) false = u := ⟨_, rfl⟩
    have HKu : SetOk u 80 := by rw [← hu]; exact (HK.out.mono (by decide)).add lp (lp + f) p0 (by omega) (by omega) (by decide)
    have hlu := HKu.len (by decide)
    obtain ⟨mu, hlmu⟩ : ∃ mu, u.length = mu := ⟨_, rfl⟩
    rw [hlmu] at hlu
    have HLu := Lib.hid hlmu
    have HEu := Lib.hid hu
    have KOu := Lib.hid HKu
    clear hlmu hu HKu
    obtain ⟨v, hv⟩ : ∃ v, addR u (lo, lo + d) false = v := ⟨_, rfl⟩
    have HKv : SetOk v 80 := by rw [← hv]; exact KOu.out.add lo (lo + d) l0 (by omega) (by omega) (by decide)
    have hlv := HKv.len (by decide)
    obtain ⟨mv, hlmv⟩ : ∃ mv, v.length = mv := ⟨_, rfl⟩
    rw [hlmv] at hlv
    have HLv := Lib.hid hlmv
    have HEv := Lib.hid hv
    have KOv := Lib.hid HKv
    clear hlmv hv HKv
    obtain ⟨x, hx⟩ : ∃ x, addR v (lo, lo + d) false = x := ⟨_, rfl⟩
    have HKx : SetOk x 80 := by rw [← hx]; exact KOv.out.add lo (lo + d) l0 (by omega) (by omega) (by decide)
    have hlx := HKx.len (by decide)
    obtain ⟨mx, hlmx⟩ : ∃ mx, x.length = mx := ⟨_, rfl⟩
    rw [hlmx] at hlx
    have HLx := Lib.hid hlmx
    have HEx := Lib.hid hx
    have KOx := Lib.hid HKx
    clear hlmx hx HKx
    have hqv : q = v := by
      refine goodFrom_same KOq.out.1 KOv.out.1 fun n => ?_
      rw [← HEq.out, ← HEv.out, addR_mem KOp.out.1 (lp, lp + f) (show lp ≤ lp + f by omega) n, addR_mem KOu.out.1 (lo, lo + d) (show lo ≤ lo + d by omega) n, ← HEp.out, ← HEu.out, addR_mem HK.out.1 (lo, lo + d) (show lo ≤ lo + d by omega) n, addR_mem HK.out.1 (lp, lp + f) (show lp ≤ lp + f by omega) n, or_assoc, or_assoc, @or_comm (lo ≤ n ∧ n ≤ lo + d)]
    have hxv : x = v := by
      refine goodFrom_same KOx.out.1 KOv.out.1 fun n => ?_
      rw [← HEx.out, addR_mem KOv.out.1 (lo, lo + d) (show lo ≤ lo + d by omega) n]
      refine or_iff_left_of_imp fun h => ?_
      rw [← HEv.out, addR_mem KOu.out.1 (lo, lo + d) (show lo ≤ lo + d by omega) n]; exact .inr h
    subst hqv
    subst hxv
    have hm1 : mv = mq := by rw [← HLv.out, ← HLq.out]
    have hm2 : mx = mq := by rw [← HLx.out, ← HLq.out]
    subst hm1
    subst hm2
    go_wp2_with fail
    refine (rAdd_rd S m c xs HM.out HK.out.1 hmc hcm (by omega) lo (lo + d) l0 (by omega) (by omega) _ _ HEp.out HLp.out _ KS.out).mono ?_
    rintro e w1_ ⟨P, cP, rfl, hcP, hdP, hrdP, hb1⟩
    have KS_1 := Lib.hid (RdX.below KS.out hb1)
    have hB_1 := hB.carry hb1
    have hC_1 := hC.carry hb1
    have hz1 := hb.trans (hb1.mono hb.size)
    clear KS hB hC FB FC hb1 hb
    have KS := KS_1
    clear KS_1
    have hB := hB_1
    clear hB_1
    have FB := hB.two
    have hC := hC_1
    clear hC_1
    have FC := hC.two
    have hb := hz1
    clear hz1
    have KP_ := Lib.hid hrdP
    clear hrdP
    go_wp2_with fail
    refine (rAdd_rd P _ cP p HLp.out KOp.out.1 hcP hdP (by omega) lp (lp + f) p0 (by omega) (by omega) _ _ HEq.out HLq.out _ KP_.out).mono ?_
    rintro e w2_ ⟨Q, cQ, rfl, hcQ, hdQ, hrdQ, hb2⟩
    have KS_2 := Lib.hid (RdX.below KS.out hb2)
    have KP__2 := Lib.hid (RdX.below KP_.out hb2)
    have hB_2 := hB.carry hb2
    have hC_2 := hC.carry hb2
    have hz2 := hb.trans (hb2.mono hb.size)
    clear KS KP_ hB hC FB FC hb2 hb
    have KS := KS_2
    clear KS_2
    have KP_ := KP__2
    clear KP__2
    have hB := hB_2
    clear hB_2
    have FB := hB.two
    have hC := hC_2
    clear hC_2
    have FC := hC.two
    have hb := hz2
    clear hz2
    have KQ_ := Lib.hid hrdQ
    clear hrdQ
    go_wp2_with fail
    refine (rAdd_rd S m c xs HM.out HK.out.1 hmc hcm (by omega) lp (lp + f) p0 (by omega) (by omega) _ _ HEu.out HLu.out _ KS.out).mono ?_
    rintro e w3_ ⟨U, cU, rfl, hcU, hdU, hrdU, hb3⟩
    have KS_3 := Lib.hid (RdX.below KS.out hb3)
    have KP__3 := Lib.hid (RdX.below KP_.out hb3)
    have KQ__3 := Lib.hid (RdX.below KQ_.out hb3)
    have hB_3 := hB.carry hb3
    have hC_3 := hC.carry hb3
    have hz3 := hb.trans (hb3.mono hb.size)
    clear KS KP_ KQ_ hB hC FB FC hb3 hb
    have KS := KS_3
    clear KS_3
    have KP_ := KP__3
    clear KP__3
    have KQ_ := KQ__3
    clear KQ__3
    have hB := hB_3
    clear hB_3
    have FB := hB.two
    have hC := hC_3
    clear hC_3
    have FC := hC.two
    have hb := hz3
    clear hz3
    have KU_ := Lib.hid hrdU
    clear hrdU
    go_wp2_with fail
    refine (rAdd_rd U _ cU u HLu.out KOu.out.1 hcU hdU (by omega) lo (lo + d) l0 (by omega) (by omega) _ _ HEv.out HLv.out _ KU_.out).mono ?_
    rintro e w4_ ⟨V, cV, rfl, hcV, hdV, hrdV, hb4⟩
    have KS_4 := Lib.hid (RdX.below KS.out hb4)
    have KP__4 := Lib.hid (RdX.below KP_.out hb4)
    have KQ__4 := Lib.hid (RdX.below KQ_.out hb4)
    have KU__4 := Lib.hid (RdX.below KU_.out hb4)
    have hB_4 := hB.carry hb4
    have hC_4 := hC.carry hb4
    have hz4 := hb.trans (hb4.mono hb.size)
    clear KS KP_ KQ_ KU_ hB hC FB FC hb4 hb
    have KS := KS_4
    clear KS_4
    have KP_ := KP__4
    clear KP__4
    have KQ_ := KQ__4
    clear KQ__4
    have KU_ := KU__4
    clear KU__4
    have hB := hB_4
    clear hB_4
    have FB := hB.two
    have hC := hC_4
    clear hC_4
    have FC := hC.two
    have hb := hz4
    clear hz4
    have KV_ := Lib.hid hrdV
    clear hrdV
    go_wp2_with fail
    refine (rAdd_rd V _ cV _ HLv.out KOv.out.1 hcV hdV (by omega) lo (lo + d) l0 (by omega) (by omega) _ _ HEx.out HLx.out _ KV_.out).mono ?_
    rintro e w5_ ⟨X, cX, rfl, hcX, hdX, hrdX, hb5⟩
    have KS_5 := Lib.hid (RdX.below KS.out hb5)
    have KP__5 := Lib.hid (RdX.below KP_.out hb5)
    have KQ__5 := Lib.hid (RdX.below KQ_.out hb5)
    have KU__5 := Lib.hid (RdX.below KU_.out hb5)
    have KV__5 := Lib.hid (RdX.below KV_.out hb5)
    have hB_5 := hB.carry hb5
    have hC_5 := hC.carry hb5
    have hz5 := hb.trans (hb5.mono hb.size)
    clear KS KP_ KQ_ KU_ KV_ hB hC FB FC hb5 hb
    have KS := KS_5
    clear KS_5
    have KP_ := KP__5
    clear KP__5
    have KQ_ := KQ__5
    clear KQ__5
    have KU_ := KU__5
    clear KU__5
    have KV_ := KV__5
    clear KV__5
    have hB := hB_5
    clear hB_5
    have FB := hB.two
    have hC := hC_5
    clear hC_5
    have FC := hC.two
    have hb := hz5
    clear hz5
    have KX_ := Lib.hid hrdX
    clear hrdX
    go_wp2_with fail
    refine (rangesTell_any _).mono ?_
    rintro e w6_ ⟨rfl, hb6⟩
    have KS_6 := Lib.hid (RdX.below KS.out hb6)
    have KP__6 := Lib.hid (RdX.below KP_.out hb6)
    have KQ__6 := Lib.hid (RdX.below KQ_.out hb6)
    have KU__6 := Lib.hid (RdX.below KU_.out hb6)
    have KV__6 := Lib.hid (RdX.below KV_.out hb6)
    have KX__6 := Lib.hid (RdX.below KX_.out hb6)
    have hB_6 := hB.carry hb6
    have hC_6 := hC.carry hb6
    have hz6 := hb.trans (hb6.mono hb.size)
    clear KS KP_ KQ_ KU_ KV_ KX_ hB hC FB FC hb6 hb
    have KS := KS_6
    clear KS_6
    have KP_ := KP__6
    clear KP__6
    have KQ_ := KQ__6
    clear KQ__6
    have KU_ := KU__6
    clear KU__6
    have KV_ := KV__6
    clear KV__6
    have KX_ := KX__6
    clear KX__6
    have hB := hB_6
    clear hB_6
    have FB := hB.two
    have hC := hC_6
    clear hC_6
    have FC := hC.two
    have hb := hz6
    clear hz6
    go_wp2_with fail
    refine (sameRanges_eq Q V _ cQ cV _ HLq.out hcQ hcV hdQ hdV _ KQ_.out KV_.out).mono ?_
    rintro e w7_ ⟨rfl, hb7⟩
    have KS_7 := Lib.hid (RdX.below KS.out hb7)
    have KP__7 := Lib.hid (RdX.below KP_.out hb7)
    have KQ__7 := Lib.hid (RdX.below KQ_.out hb7)
    have KU__7 := Lib.hid (RdX.below KU_.out hb7)
    have KV__7 := Lib.hid (RdX.below KV_.out hb7)
    have KX__7 := Lib.hid (RdX.below KX_.out hb7)
    have hB_7 := hB.carry hb7
    have hC_7 := hC.carry hb7
    have hz7 := hb.trans (hb7.mono hb.size)
    clear KS KP_ KQ_ KU_ KV_ KX_ hB hC FB FC hb7 hb
    have KS := KS_7
    clear KS_7
    have KP_ := KP__7
    clear KP__7
    have KQ_ := KQ__7
    clear KQ__7
    have KU_ := KU__7
    clear KU__7
    have KV_ := KV__7
    clear KV__7
    have KX_ := KX__7
    clear KX__7
    have hB := hB_7
    clear hB_7
    have FB := hB.two
    have hC := hC_7
    clear hC_7
    have FC := hC.two
    have hb := hz7
    clear hz7
    go_wp2_with fail
    refine (sameRanges_eq V X _ cV cX _ HLv.out hcV hcX hdV hdX _ KV_.out KX_.out).mono ?_
    rintro e w8_ ⟨rfl, hb8⟩
    have KS_8 := Lib.hid (RdX.below KS.out hb8)
    have KP__8 := Lib.hid (RdX.below KP_.out hb8)
    have KQ__8 := Lib.hid (RdX.below KQ_.out hb8)
    have KU__8 := Lib.hid (RdX.below KU_.out hb8)
    have KV__8 := Lib.hid (RdX.below KV_.out hb8)
    have KX__8 := Lib.hid (RdX.below KX_.out hb8)
    have hB_8 := hB.carry hb8
    have hC_8 := hC.carry hb8
    have hz8 := hb.trans (hb8.mono hb.size)
    clear KS KP_ KQ_ KU_ KV_ KX_ hB hC FB FC hb8 hb
    have KS := KS_8
    clear KS_8
    have KP_ := KP__8
    clear KP__8
    have KQ_ := KQ__8
    clear KQ__8
    have KU_ := KU__8
    clear KU__8
    have KV_ := KV__8
    clear KV__8
    have KX_ := KX__8
    clear KX__8
    have hB := hB_8
    clear hB_8
    have FB := hB.two
    have hC := hC_8
    clear hC_8
    have FC := hC.two
    have hb := hz8
    clear hz8
    go_wp2_with fail
    go_ret
    exact ⟨rfl, hb⟩
end Go.Proofs.Ytolhlgalhhdkmab
