/- The walk of the law RangesHoles. -/
import Derived.Test.YtolhlgalhhdkmabHolesWalk
import Derived.Test.YtolhlgalhhdkmabPickAt
namespace Go.Proofs.Ytolhlgalhhdkmab
open Go.ChangeShapes Go.WideShapes Go.ChangeAt Go.RowKit
set_option linter.unusedVariables false

theorem memR_take (l : List Rng) (j : Nat) (hj : j < l.length) (n : Int) : memR (l.take (j + 1)) n ↔ memR (l.take j) n ∨ ((l.getD j (0, 0)).1 ≤ n ∧ n ≤ (l.getD j (0, 0)).2) := by
  rw [List.take_succ_eq_append_getElem hj, memR_append, memR_cons]
  simp [List.getD, hj, memR_nil]
theorem take_not {l : List Rng} (hg : goodFrom 0 l) (j : Nat) (hj : j < l.length) (n : Int) (h1 : (l.getD j (0, 0)).1 ≤ n) (h2 : n ≤ (l.getD j (0, 0)).2) : ¬ memR (l.take j) n ∧ memR l n := by
  have hx : l.getD j (0, 0) = l[j] := by simp [List.getD, hj]
  rw [hx] at h1 h2
  have hm : memR (l.drop j) n := by rw [List.drop_eq_getElem_cons hj, memR_cons]; exact .inl ⟨h1, h2⟩
  refine ⟨fun ht => ?_, memR_drop hm⟩
  have hg2 : goodFrom 0 (l.take j ++ l.drop j) := by rw [List.take_append_drop]; exact hg
  have := goodFrom_apart hg2 n n ht hm
  omega

set_option maxRecDepth 100000 in
set_option maxHeartbeats 4000000 in
theorem rangesHoles_walk (A : Option Addr) (len cap : Nat) (rs : List RawD) (a b n : Int) (w : World) (h : IsRaws w A len cap rs) (ha : (Lit.int .i64 a).wf = true) (hb_ : (Lit.int .i64 b).wf = true) (hn : (Lit.int .i64 n).wf = true) :
    Calls Try.prog 7 #[.slice A len cap, .int .i64 a, .int .i64 b, .int .i64 n] w fun e w' => e = .returned (.bool true) ∧ Below w.heap.size w w' := by
  obtain ⟨a0, a1⟩ := i64_bounds' ha
  obtain ⟨b0, b1⟩ := i64_bounds' hb_
  obtain ⟨n0, n1⟩ := i64_bounds' hn
  clear ha hb_ hn
  go_enter Try.func7, Try.ntmps7
  go_wp2_with fail
  refine (set_any A len cap rs w h).mono ?_
  rintro e w1 ⟨S, m, c, xs, rfl, hm, hmc, hcm, hok, hrd, hb⟩
  have hm33 : m ≤ 33 := by have := hok.len (by decide); omega
  have HM := Lib.hid hm
  have HK := Lib.hid hok
  have KS := Lib.hid hrd
  clear h hm hok hrd
  go_wp2_with fail
  refine (picked_ex _ _ a0 a1 (by decide) (by decide) _).mono ?_
  rintro e w' ⟨lo, l0, l1, rfl, rfl⟩
  obtain ⟨d, HD, d0, d1⟩ := mod_ex b 30 (by decide)
  go_upto_region 3 with (fail)
  refine wp_world (fun w' => Blk w' w1.heap.size 37 #[.int .i64 lo, .int .i64 0] ∧ Below w1.heap.size w1 w') ⟨Blk.new _ _ _, (Below.refl _ _).alloc (Nat.le_refl _) _⟩ ?_
  rintro w2 ⟨hB, hq⟩
  have FB := hB.two
  have hwr : IntKind.i64.wrap (lo + d) = lo + d := IntWalk.i64_in _ (by omega)
  go_cut [] (fun wx => Blk wx w1.heap.size 37 #[.int .i64 lo, .int .i64 (lo + d)] ∧ Below w1.heap.size w1 wx)
  case first =>
    go_region_with ((go_at_call 12; refine (picked_at _ _ _ b0 b1 (by decide) (by decide) HD _).mono ?_; rintro e w' ⟨rfl, rfl⟩))
    all_goals
      go_wp2_with fail
      go_meet
      refine ⟨?_, ?_⟩
      · (apply Blk.as; (case h => (repeat (first | with_reducible exact hB | with_reducible apply Blk.drew | with_reducible apply Blk.set4 | with_reducible apply Blk.set_ | (with_reducible apply Blk.far4 (hne := ?side); case side => (first | omega | (simp; omega) | (simp; done))) | (with_reducible apply Blk.far (hp := ?side); case side => (first | omega | (simp; omega) | (simp; done))) | with_reducible apply Blk.alloc))); (case e => (first | with_reducible rfl | (simp; done) | rfl)))
      · (repeat (first | with_reducible exact hq | with_reducible refine Below.drew ?_ | (with_reducible refine Below.set4 ?_ ?side _ _ _ _; case side => (first | omega | (simp; omega) | (simp; done))) | (with_reducible refine Below.setCell ?_ ?side _; case side => (first | omega | (simp; omega) | (simp; done))) | (with_reducible refine Below.alloc ?_ ?side _; case side => (first | omega | (simp; omega) | (simp; done)))))
  case rest =>
    clear hB hq FB hwr
    obtain ⟨hB, hq⟩ := hcut
    have FB := hB.two
    have hbz := hb.trans (hq.mono hb.size)
    have KS_ := Lib.hid (RdX.below KS.out hq)
    clear KS hb hq
    have hb := hbz
    have KS := KS_
    clear hbz KS_
    go_wp2_with fail
    refine (picked_ex _ _ n0 n1 (by decide) (by decide) _).mono ?_
    rintro e w' ⟨k, k0, k1, rfl, rfl⟩
    have hgm : ∀ i, memR [(lo, lo + d)] i ↔ lo ≤ i ∧ i ≤ lo + d := fun i => by rw [memR_cons]; simp [memR_nil]
    have hs0 : SetOk [(lo, lo + d)] 93 := ⟨⟨l0, by show lo ≤ lo + d; omega, by show lo + d ≤ _; omega, trivial⟩, fun i hi => by have := (hgm i).1 hi; omega⟩
    obtain ⟨H, hH⟩ : ∃ H, holesR xs [(lo, lo + d)] = H := ⟨_, rfl⟩
    have hHk : SetOk H 93 := by rw [← hH]; exact holesR_ok xs hs0 (good_each HK.out.1)
    have hHm : ∀ i, memR H i ↔ (lo ≤ i ∧ i ≤ lo + d) ∧ ¬ memR xs i := fun i => by rw [← hH, holesR_mem xs _ (good_each HK.out.1), hgm]
    obtain ⟨q, hq⟩ : ∃ q, H.length = q := ⟨_, rfl⟩
    have hq50 : q ≤ 50 := by have := hHk.len (by decide); omega
    have HH := Lib.hid hH
    have HHK := Lib.hid hHk
    have HHM := Lib.hid hHm
    have HQ := Lib.hid hq
    have HS0 := Lib.hid hs0
    have HGM := Lib.hid hgm
    clear hH hHk hHm hq hs0 hgm
    go_wp2_with fail
    refine (rHoles_rd S m c xs HM.out HK.out.1 hmc hcm lo (lo + d) l0 (by omega) (by omega) H q HH.out HQ.out _ KS.out).mono ?_
    rintro e w1_ ⟨X, cx, rfl, hcx, hcx2, hrdx, hb1⟩
    have KS_1 := Lib.hid (RdX.below KS.out hb1)
    have hB_1 := hB.carry hb1
    have hz1 := hb.trans (hb1.mono hb.size)
    clear KS hB FB hb1 hb
    have KS := KS_1
    clear KS_1
    have hB := hB_1
    clear hB_1
    have FB := hB.two
    have hb := hz1
    clear hz1
    have KX := Lib.hid hrdx
    clear hrdx
    go_wp2_with fail
    go_loopw [9, 45] (fun s i wr => ∃ (j : Nat) (A' : Option Addr) (p c' : Nat) (ys : List Rng), j ≤ q ∧ i = .int .i64 j ∧ s = .slice A' p c' ∧ ys.length = p ∧ p ≤ c' ∧ c' ≤ 9223372036854775807 ∧ SetOk ys 93 ∧
        Hid (∀ i, memR ys i ↔ memR xs i ∨ memR (H.take j) i) ∧ RdX rcells 2 wr A' ys ∧ RdX rcells 2 wr X H ∧ Blk wr w1.heap.size 37 #[.int .i64 lo, .int .i64 (lo + d)] ∧ Below w.heap.size w wr) (fun _ i _ => q - (intOf i).toNat)
    case atStart => exact ⟨0, S, m, c, xs, Nat.zero_le _, rfl, rfl, HM.out, hmc, hcm, HK.out.mono (by decide), (fun i => by simp [memR_nil]), KS.out, KX.out, hB, hb⟩
    case round =>
      clear KS KX hB FB hb
      obtain ⟨j, A', p, c', ys, hj, rfl, rfl, hp, hpc, hc', hok, HY, hrd, hrx, hB, hb⟩ := hrel
      have hp50 : p ≤ 50 := by have := hok.len (by decide); omega
      have HP := Lib.hid hp
      have HO := Lib.hid hok
      have KY := Lib.hid hrd
      have KX := Lib.hid hrx
      clear hp hok hrd hrx
      have FB := hB.two
      have hgl := hB.lt
      by_cases hlt : j < q
      · have hlen := HQ.out
        obtain ⟨b_, off, rfl, hcell⟩ := KX.out.rcell (by omega)
        obtain ⟨c0, c1⟩ := hcell j (by omega)
        obtain ⟨g0, g1, g2⟩ := goodFrom_at HHK.out.1 (by decide) j (by omega)
        have ht1 := take_not HHK.out.1 j (by omega) _ (Int.le_refl _) g1
        have ht2 := take_not HHK.out.1 j (by omega) _ g1 (Int.le_refl _)
        have hm1 := (HHM.out _).1 ht1.2
        have hm2 := (HHM.out _).1 ht2.2
        have hn1 : hasB ys (H.getD j (0, 0)).1 = false := by rw [Bool.eq_false_iff, Ne, hasB_iff, HY.out]; exact fun h => h.elim hm1.2 ht1.1
        have hn2 : hasB ys (H.getD j (0, 0)).2 = false := by rw [Bool.eq_false_iff, Ne, hasB_iff, HY.out]; exact fun h => h.elim hm2.2 ht2.1
        have hmt := memR_take H j (by omega)
        obtain ⟨x1, x2, hx⟩ : ∃ x1 x2, H.getD j (0, 0) = (x1, x2) := ⟨_, _, rfl⟩
        rw [hx] at c0 c1 g0 g1 g2 hn1 hn2 hm1 hm2
        have hmt2 : ∀ n, memR (H.take (j + 1)) n ↔ memR (H.take j) n ∨ (x1 ≤ n ∧ n ≤ x2) := fun n => by have := hmt n; rwa [hx] at this
        replace g0 : 0 ≤ x1 := g0
        replace g1 : x1 ≤ x2 := g1
        have g3 : x2 ≤ 93 := by have : lo ≤ x2 ∧ x2 ≤ lo + d := hm2.1; omega
        have HN1 := Lib.hid hn1
        have HN2 := Lib.hid hn2
        have HT := Lib.hid hmt2
        clear hx hlen hcell ht1 ht2 hm1 hm2 hn1 hn2 hmt hmt2
        obtain ⟨zs, hz⟩ : ∃ zs, addR ys (x1, x2) false = zs := ⟨_, rfl⟩
        have hzk : SetOk zs 93 := by rw [← hz]; exact HO.out.add x1 x2 g0 g1 g3 (by decide)
        have hzm : ∀ i, memR zs i ↔ memR xs i ∨ memR (H.take (j + 1)) i := fun i => by rw [← hz, addR_mem HO.out.1 (x1, x2) g1 i, HY.out i, HT.out i, or_assoc]
        obtain ⟨pz, hpz⟩ : ∃ pz, zs.length = pz := ⟨_, rfl⟩
        have HZ := Lib.hid hz
        have HZK := Lib.hid hzk
        have HZM := Lib.hid hzm
        have HPZ := Lib.hid hpz
        clear hz hzk hzm hpz HY HT
        go_upto_region 9 with (fail)
        refine wp_world (fun w' => Blk w' wr.heap.size 37 #[.int .i64 x1, .int .i64 x2] ∧ Blk w' w1.heap.size 37 #[.int .i64 lo, .int .i64 (lo + d)] ∧ RdX rcells 2 w' A' ys ∧ RdX rcells 2 w' (some ⟨b_, off, none⟩) H ∧ Below w.heap.size w w') ⟨Blk.new _ _ _, hB.alloc _, KY.out.alloc _, KX.out.alloc _, hb.alloc hb.size _⟩ ?_
        clear hB FB KY KX hb c0 c1
        rintro w3_ ⟨hC, hB, hy, hx, hb⟩
        have KY := Lib.hid hy
        have KX := Lib.hid hx
        have FB := hB.two
        have FC := hC.two
        clear hx hy
        go_wp2_with fail
        refine (rAdd_rd A' p c' ys HP.out HO.out.1 hpc hc' (by omega) x1 x2 g0 g1 (by omega) zs pz HZ.out HPZ.out _ KY.out).mono ?_
        rintro e w2_ ⟨Z, cz, rfl, hcz, hcz2, hrdz, hb2⟩
        have KY_2 := Lib.hid (RdX.below KY.out hb2)
        have KX_2 := Lib.hid (RdX.below KX.out hb2)
        have hB_2 := hB.carry hb2
        have hC_2 := hC.carry hb2
        have hz2 := hb.trans (hb2.mono hb.size)
        clear KY KX hB hC FB FC hb2 hb
        have KY := KY_2
        clear KY_2
        have KX := KX_2
        clear KX_2
        have hB := hB_2
        clear hB_2
        have FB := hB.two
        have hC := hC_2
        clear hC_2
        have FC := hC.two
        have hb := hz2
        clear hz2
        have KZ := Lib.hid hrdz
        clear hrdz
        go_wp2_with fail
        refine (has_any A' p c' ys HP.out HO.out.1 hpc hc' x1 false HN1.out _ KY.out).mono ?_
        rintro e w3_ ⟨rfl, hb3⟩
        have KY_3 := Lib.hid (RdX.below KY.out hb3)
        have KX_3 := Lib.hid (RdX.below KX.out hb3)
        have KZ_3 := Lib.hid (RdX.below KZ.out hb3)
        have hB_3 := hB.carry hb3
        have hC_3 := hC.carry hb3
        have hz3 := hb.trans (hb3.mono hb.size)
        clear KY KX KZ hB hC FB FC hb3 hb
        have KY := KY_3
        clear KY_3
        have KX := KX_3
        clear KX_3
        have KZ := KZ_3
        clear KZ_3
        have hB := hB_3
        clear hB_3
        have FB := hB.two
        have hC := hC_3
        clear hC_3
        have FC := hC.two
        have hb := hz3
        clear hz3
        go_wp2_with fail
        refine (has_any A' p c' ys HP.out HO.out.1 hpc hc' x2 false HN2.out _ KY.out).mono ?_
        rintro e w4_ ⟨rfl, hb4⟩
        have KY_4 := Lib.hid (RdX.below KY.out hb4)
        have KX_4 := Lib.hid (RdX.below KX.out hb4)
        have KZ_4 := Lib.hid (RdX.below KZ.out hb4)
        have hB_4 := hB.carry hb4
        have hC_4 := hC.carry hb4
        have hz4 := hb.trans (hb4.mono hb.size)
        clear KY KX KZ hB hC FB FC hb4 hb
        have KY := KY_4
        clear KY_4
        have KX := KX_4
        clear KX_4
        have KZ := KZ_4
        clear KZ_4
        have hB := hB_4
        clear hB_4
        have FB := hB.two
        have hC := hC_4
        clear hC_4
        have FC := hC.two
        have hb := hz4
        clear hz4
        go_wp2_with fail
        go_roundw
        case rel => exact ⟨j + 1, Z, pz, cz, zs, by omega, by go_num, rfl, HPZ.out, hcz, hcz2, HZK.out, HZM.out, KZ.out, KX.out, hB, hb⟩
        case measure => simp [intOf]; omega
      · obtain rfl : j = q := by omega
        have htk : H.take j = H := List.take_of_length_le (by have := HQ.out; omega)
        have hym : ∀ i, memR ys i ↔ memR xs i ∨ memR H i := fun i => by have := HY.out i; rwa [htk] at this
        have hle : holesR ys [(lo, lo + d)] = [] := by
          refine good_empty (b := 0) (holesR_ok ys HS0.out (good_each HO.out.1)).1 fun i hi => ?_
          rw [holesR_mem ys _ (good_each HO.out.1), HGM.out, hym, HHM.out] at hi
          exact hi.2 (by by_cases hx : memR xs i <;> simp [hx, hi.1])
        have HLE := Lib.hid hle
        clear htk hym hle
        obtain ⟨bh, hbh⟩ : ∃ bh, hasB H k = bh := ⟨_, rfl⟩
        have hbi : bh = true → lo ≤ k ∧ k ≤ lo + d := fun h => ((HHM.out k).1 ((hasB_iff H k).1 (hbh.trans h))).1
        have HBH := Lib.hid hbh
        have HBI := Lib.hid hbi
        clear hbh hbi
        go_wp2_with fail
        refine (rHoles_rd A' p c' ys HP.out HO.out.1 hpc hc' lo (lo + d) l0 (by omega) (by omega) [] 0 HLE.out rfl _ KY.out).mono ?_
        rintro e w5_ ⟨L, cl, rfl, hcl, hcl2, hrdl, hb5⟩
        have KY_5 := Lib.hid (RdX.below KY.out hb5)
        have KX_5 := Lib.hid (RdX.below KX.out hb5)
        have hB_5 := hB.carry hb5
        have hz5 := hb.trans (hb5.mono hb.size)
        clear KY KX hB FB hb5 hb
        have KY := KY_5
        clear KY_5
        have KX := KX_5
        clear KX_5
        have hB := hB_5
        clear hB_5
        have FB := hB.two
        have hb := hz5
        clear hz5
        clear hrdl
        go_wp2_with fail
        refine (rangesTell_any _).mono ?_
        rintro e w6_ ⟨rfl, hb6⟩
        have KY_6 := Lib.hid (RdX.below KY.out hb6)
        have KX_6 := Lib.hid (RdX.below KX.out hb6)
        have hB_6 := hB.carry hb6
        have hz6 := hb.trans (hb6.mono hb.size)
        clear KY KX hB FB hb6 hb
        have KY := KY_6
        clear KY_6
        have KX := KX_6
        clear KX_6
        have hB := hB_6
        clear hB_6
        have FB := hB.two
        have hb := hz6
        clear hz6
        go_wp2_with fail
        refine (rCheck_ok X j cx H HQ.out HHK.out.1 hcx hcx2 _ KX.out).mono ?_
        rintro e w7_ ⟨rfl, hb7⟩
        have KY_7 := Lib.hid (RdX.below KY.out hb7)
        have KX_7 := Lib.hid (RdX.below KX.out hb7)
        have hB_7 := hB.carry hb7
        have hz7 := hb.trans (hb7.mono hb.size)
        clear KY KX hB FB hb7 hb
        have KY := KY_7
        clear KY_7
        have KX := KX_7
        clear KX_7
        have hB := hB_7
        clear hB_7
        have FB := hB.two
        have hb := hz7
        clear hz7
        cases bh
        · skip
          go_wp2_with fail
          refine (has_any X j cx H HQ.out HHK.out.1 hcx hcx2 k false HBH.out _ KX.out).mono ?_
          rintro e w8_ ⟨rfl, hb8⟩
          have KY_8 := Lib.hid (RdX.below KY.out hb8)
          have KX_8 := Lib.hid (RdX.below KX.out hb8)
          have hB_8 := hB.carry hb8
          have hz8 := hb.trans (hb8.mono hb.size)
          clear KY KX hB FB hb8 hb
          have KY := KY_8
          clear KY_8
          have KX := KX_8
          clear KX_8
          have hB := hB_8
          clear hB_8
          have FB := hB.two
          have hb := hz8
          clear hz8
          go_wp2_with fail
          go_ret
          exact ⟨by simp, hb⟩
        · obtain ⟨i1, i2⟩ := HBI.out rfl
          go_wp2_with fail
          refine (has_any X j cx H HQ.out HHK.out.1 hcx hcx2 k true HBH.out _ KX.out).mono ?_
          rintro e w9_ ⟨rfl, hb9⟩
          have KY_9 := Lib.hid (RdX.below KY.out hb9)
          have KX_9 := Lib.hid (RdX.below KX.out hb9)
          have hB_9 := hB.carry hb9
          have hz9 := hb.trans (hb9.mono hb.size)
          clear KY KX hB FB hb9 hb
          have KY := KY_9
          clear KY_9
          have KX := KX_9
          clear KX_9
          have hB := hB_9
          clear hB_9
          have FB := hB.two
          have hb := hz9
          clear hz9
          go_wp2_with fail
          go_ret
          exact ⟨by first | (simp; done) | (simp; omega), hb⟩
end Go.Proofs.Ytolhlgalhhdkmab
