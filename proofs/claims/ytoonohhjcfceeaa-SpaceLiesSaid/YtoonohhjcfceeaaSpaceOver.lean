/- The contract of space.Overdue. -/
import Derived.Test.YtoonohhjcfceeaaSpaceLeap0
import Derived.Laws.EntriesVeiled
namespace Go.Proofs.Ytoonohhjcfceeaa
open Go.ChangeShapes Go.WideShapes Go.ChangeAt Go.RowKit
set_option linter.unusedVariables false


/-- Was a packet sent so long ago? -/
def lateP (now age : Int) (p : Pcl) : Bool := decide (age ≤ wrap64 (now - p.2.1))
set_option maxRecDepth 100000 in
set_option maxHeartbeats 2000000 in
theorem spLate_any (p : Pcl) (g g2 : Nat) (now age : Int) (w : World) (hg : Blk w g 3 #[.int .i64 now]) (hg2 : Blk w g2 3 #[.int .i64 age]) :
    Calls Try.prog 47 #[.agg #[.int .i64 p.1, .int .i64 p.2.1, .int .i64 p.2.2, .slice none 0 0], .pointer (some ⟨g, 0, none⟩), .pointer (some ⟨g2, 0, none⟩)] w fun e w' => e = .returned (.bool (lateP now age p)) ∧ Below w.heap.size w w' := by
  have hfc : w.cell? ⟨g, 0, none⟩ = some (.int .i64 now) := by rw [hg.cell]; rfl
  have hfc2 : w.cell? ⟨g2, 0, none⟩ = some (.int .i64 age) := by rw [hg2.cell]; rfl
  have hgl := hg.lt
  have hgl2 := hg2.lt
  go_enter Try.func47, Try.ntmps47
  go_wp2_with fail
  go_ret
  exact ⟨rfl, (Below.refl _ _).alloc (Nat.le_refl _) _⟩
theorem SpOk.part {nx : Int} {ps : List Pcl} {top : Int} {hs : List Rng} {ks : List Int} (h : SpOk nx ps top hs ks) (f : Pcl → Bool) : SpOk nx (ps.filter f) top hs ks :=
  ⟨h.n0, h.n1, h.t0, h.t1, Nat.le_trans (List.length_filter_le _ _) h.pl, h.hl, h.kl, h.hg, ⟨h.pk.1.filter f, fun p hp => h.pk.2 p (List.mem_filter.1 hp).1⟩, h.kk, h.tk⟩

set_option maxRecDepth 100000 in
set_option maxHeartbeats 4000000 in
theorem spSplitC (g g2 : Nat) (f : Pcl → Bool) (A : Option Addr) (n c : Nat) (ps : List Pcl) (hn : ps.length = n) (hn24 : n ≤ 24) (hnc : n ≤ c) (hcm : c ≤ 9223372036854775807) (w : World) (hr : RdX pcells 4 w A ps)
    (hcall : ∀ (p : Pcl) (w' : World), Below w.heap.size w w' → Calls Try.prog 47 #[.agg #[.int .i64 p.1, .int .i64 p.2.1, .int .i64 p.2.2, .slice none 0 0], .pointer (some ⟨g, 0, none⟩), .pointer (some ⟨g2, 0, none⟩)] w' fun e w'' => e = .returned (.bool (f p)) ∧ Below w'.heap.size w' w'') :
    Calls Try.prog 32 #[.slice A n c, .func (.func 47) #[] #[.pointer (some ⟨g, 0, none⟩), .pointer (some ⟨g2, 0, none⟩)]] w fun e w' => ∃ (Y : Option Addr) (y cy : Nat) (N : Option Addr) (z cz : Nat), e = .returned (.tuple #[.slice Y y cy, .slice N z cz]) ∧
      (ps.filter f).length = y ∧ y ≤ cy ∧ cy ≤ 9223372036854775807 ∧ (ps.filter fun p => !f p).length = z ∧ z ≤ cz ∧ cz ≤ 9223372036854775807 ∧ OwnX pcells 4 w' w.heap.size 39 Y cy (ps.filter f) ∧ OwnX pcells 4 w' w.heap.size 39 N cz (ps.filter fun p => !f p) ∧ Below w.heap.size w w' := by
  have HN := Lib.hid hn
  have HR := Lib.hid hr
  have HC := Lib.hid hcall
  clear hn hr hcall
  go_enter Try.func32, Try.ntmps32
  go_wp2_with fail
  go_loopw [4, 5, 10] (fun s4 s5 i wr => ∃ (j : Nat) (Y : Option Addr) (y cy : Nat) (N : Option Addr) (z cz : Nat), j ≤ n ∧ i = .int .i64 (j : Int) ∧ s4 = .slice Y y cy ∧ s5 = .slice N z cz ∧ ((ps.take j).filter f).length = y ∧ y ≤ j ∧ y ≤ cy ∧ cy ≤ 9223372036854775807 ∧ ((ps.take j).filter fun p => !f p).length = z ∧ z ≤ j ∧ z ≤ cz ∧ cz ≤ 9223372036854775807 ∧ OwnX pcells 4 wr w.heap.size 39 Y cy ((ps.take j).filter f) ∧ OwnX pcells 4 wr w.heap.size 39 N cz ((ps.take j).filter fun p => !f p) ∧ (∀ q, Y.map (fun y : Addr => y.block) = some q → N.map (fun y : Addr => y.block) ≠ some q) ∧ Below w.heap.size w wr) (fun _ _ i _ => n - (intOf i).toNat)
  case atStart => exact ⟨0, none, 0, 0, none, 0, 0, Nat.zero_le _, rfl, rfl, rfl, rfl, Nat.le_refl _, Nat.le_refl _, by decide, rfl, Nat.le_refl _, Nat.le_refl _, by decide, OwnX.nil _ _ _, OwnX.nil _ _ _, (fun q h => by cases h), Below.refl _ _⟩
  case round =>
    obtain ⟨j, Y, y, cy, N, z, cz, hj, rfl, rfl, rfl, hyl, hyj, hyc, hym, hzl, hzj, hzc, hzm, hY, hN, hne, hb⟩ := hrel
    have HYL := Lib.hid hyl
    have HZL := Lib.hid hzl
    have HY := Lib.hid hY
    have HNN := Lib.hid hN
    have HNE := Lib.hid hne
    have HB := Lib.hid hb
    by_cases hlt : j < n
    · obtain ⟨b, off, rfl, hcell⟩ := (RdX.below HR.out hb).pcl (by have := HN.out; omega)
      obtain ⟨c0, c1, c2, c3⟩ := hcell j (by have := HN.out; omega)
      have HF1 := Lib.hid (filter_take ps j pcln f (by have := HN.out; omega))
      have HF2 := Lib.hid (filter_take ps j pcln (fun p => !f p) (by have := HN.out; omega))
      have hs := hb.size
      generalize ps.getD j pcln = p at *
      obtain ⟨pn, pt, pz⟩ := p
      simp only at c0 c1 c2
      clear hcell hY hN hne hb hyl hzl
      go_upto_region 4 with (fail)
      refine wp_world (fun w' => Blk w' wr.heap.size 39 #[.int .i64 pn, .int .i64 pt, .int .i64 pz, .slice none 0 0] ∧ OwnX pcells 4 w' w.heap.size 39 Y cy ((ps.take j).filter f) ∧ OwnX pcells 4 w' w.heap.size 39 N cz ((ps.take j).filter fun p => !f p) ∧ Below w.heap.size w w') ⟨Blk.new _ _ _, HY.out.alloc _, HNN.out.alloc _, HB.out.alloc HB.out.size _⟩ ?_
      clear c0 c1 c2 c3 HY HNN HB
      generalize wr.heap.size = tb at *
      rintro w1 ⟨hP, hY, hN, hb⟩
      have FP := hP.facts4
      go_wp2_with fail
      refine (HC.out (pn, pt, pz) _ hb).mono ?_
      rintro e w2 ⟨rfl, hb2⟩
      have hP2 := hP.carry hb2
      have HY := Lib.hid (show OwnX pcells 4 w2 w.heap.size 39 Y cy ((ps.take j).filter f) from own_carry hY hb2)
      have HNN := Lib.hid (show OwnX pcells 4 w2 w.heap.size 39 N cz ((ps.take j).filter fun p => !f p) from own_carry hN hb2)
      have HB := Lib.hid (hb.trans (hb2.mono hb.size))
      have htb := hP2.lt
      clear FP hP hY hN hb hb2
      have FP := hP2.facts4
      have hb3 := HB.out.size
      obtain ⟨r, hr⟩ : ∃ r, f (pn, pt, pz) = r := ⟨_, rfl⟩
      rw [hr]
      rw [hr] at HF1 HF2
      clear hr
      cases r with
      | true =>
        have hw3 : w.heap.size ≤ w2.heap.size + 1 := by omega
        go_wp2_with (at_builtin
                     refine wpList_appL pcells 4 pcells_one _ rfl (.tmp 17) (.tmp 19) _ rfl w.heap.size 39 _ 48 Try.underlying22 pclInfo rfl (by decide) (by decide) Y y cy ((ps.take j).filter f) rfl HYL.out (HY.out.alloc _) _ 1 1 [(pn, pt, pz)] rfl rfl (RdX.oneH _ _ (pn, pt, pz) _ rfl rfl (by simp)) _ rfl (y + 1) rfl (by omega) (by simp; omega) ?_
                     intro A6 c6 w6 hO6 hc6 hc6' hb6 hgr6 hat6)
        go_roundw
        case rel =>
          have hlt2 : ∀ q, N.map (fun y : Addr => y.block) = some q → q < w2.heap.size := fun q hq => (HNN.out.lt (n := 0) q (by rw [slice_own]; exact hq)).2
          refine ⟨j + 1, A6, y + 1, c6, N, z, cz, by omega, by go_num, rfl, rfl, ?_, by omega, hc6, hc6', ?_, by omega, hzc, hzm, ?_, ?_, ?_, ?_⟩
          · rw [HF1.out]; simp [HYL.out]
          · rw [HF2.out]; simp [HZL.out]
          · rw [HF1.out]; simpa using hO6
          · rw [HF2.out]
            simp only [Bool.not_true, Bool.false_eq_true, if_false, List.append_nil]
            exact OwnX.grown (HNN.out.alloc _) hgr6 (apart_of HNE.out)
          · intro q hq e
            rcases hat6 with h | h
            · exact HNE.out q (h.symm.trans hq) e
            · have h2 := hlt2 q e
              rw [h] at hq
              injection hq with hq
              simp at hq
              omega
          · exact (HB.out.alloc HB.out.size _).trans (hb6.mono (by first | exact Nat.le_refl _ | (simp; done) | (simp; omega)))
        case measure => simp [intOf]; omega
      | false =>
        have hw3 : w.heap.size ≤ w2.heap.size + 1 := by omega
        go_wp2_with (at_builtin
                     refine wpList_appL pcells 4 pcells_one _ rfl (.tmp 21) (.tmp 23) _ rfl w.heap.size 39 _ 48 Try.underlying22 pclInfo rfl (by decide) (by decide) N z cz ((ps.take j).filter fun p => !f p) rfl HZL.out (HNN.out.alloc _) _ 1 1 [(pn, pt, pz)] rfl rfl (RdX.oneH _ _ (pn, pt, pz) _ rfl rfl (by simp)) _ rfl (z + 1) rfl (by omega) (by simp; omega) ?_
                     intro A6 c6 w6 hO6 hc6 hc6' hb6 hgr6 hat6)
        go_roundw
        case rel =>
          have hlt2 : ∀ q, Y.map (fun y : Addr => y.block) = some q → q < w2.heap.size := fun q hq => (HY.out.lt (n := 0) q (by rw [slice_own]; exact hq)).2
          refine ⟨j + 1, Y, y, cy, A6, z + 1, c6, by omega, by go_num, rfl, rfl, ?_, by omega, hyc, hym, ?_, by omega, hc6, hc6', ?_, ?_, ?_, ?_⟩
          · rw [HF1.out]; simp [HYL.out]
          · rw [HF2.out]; simp [HZL.out]
          · rw [HF1.out]
            simp only [Bool.false_eq_true, if_false, List.append_nil]
            exact OwnX.grown (HY.out.alloc _) hgr6 (apart_of fun q h1 h2 => HNE.out q h2 h1)
          · rw [HF2.out]; simpa using hO6
          · intro q hq e
            rcases hat6 with h | h
            · exact HNE.out q hq (h.symm.trans e)
            · have h2 := hlt2 q hq
              rw [h] at e
              injection e with e
              simp at e
              omega
          · exact (HB.out.alloc HB.out.size _).trans (hb6.mono (by first | exact Nat.le_refl _ | (simp; done) | (simp; omega)))
        case measure => simp [intOf]; omega
    · obtain rfl : j = n := by omega
      have ht : ps.take j = ps := List.take_of_length_le (by have := HN.out; omega)
      rw [ht] at hyl hzl hY hN
      clear HY HNN HYL HZL HNE HB hne
      have HY := Lib.hid hY
      have HNN := Lib.hid hN
      clear hY hN ht
      go_wp2_with fail
      go_ret2
      exact ⟨Y, y, cy, N, z, cz, rfl, hyl, hyc, hym, hzl, hzc, hzm, HY.out, HNN.out, hb⟩

/-- What Overdue leaves. -/
def OverOut (nx top now age : Int) (m k : Nat) (ps : List Pcl) (hs : List Rng) (ks : List Int) (w : World) (e' : Ending) (w' : World) : Prop :=
  ∃ (A' : Option Addr) (n' c' : Nat) (B' : Option Addr) (d' : Nat) (C' : Option Addr) (k' : Nat) (T : Option Addr) (nt ct : Nat),
    e' = .returned (.tuple #[.agg #[.int .i64 nx, .slice A' n' c', .int .i64 top, .slice B' m d', .slice C' k k'], .slice T nt ct, .int .i64 0]) ∧
    SpKeep w w' (fun W => SpV W nx A' n' c' top B' m d' C' k k' (ps.filter fun p => !lateP now age p) hs ks ∧ RdX pcells 4 W T (ps.filter (lateP now age))) ∧
    (ps.filter (lateP now age)).length = nt ∧ nt ≤ ct ∧ ct ≤ 9223372036854775807 ∧ Below w.heap.size w w'

set_option maxRecDepth 100000 in
set_option maxHeartbeats 4000000 in
theorem spOverdue_ok (nx : Int) (A : Option Addr) (n c : Nat) (top : Int) (B : Option Addr) (m d : Nat) (C : Option Addr) (k e : Nat) (ps : List Pcl) (hs : List Rng) (ks : List Int) (now age : Int) (h0 : 0 ≤ now ∧ now ≤ 1099511627776) (h1 : 0 ≤ age ∧ age ≤ 1099511627776) (w : World) (h : SpV w nx A n c top B m d C k e ps hs ks) :
    Calls Try.prog 36 #[.agg #[.int .i64 nx, .slice A n c, .int .i64 top, .slice B m d, .slice C k e], .int .i64 now, .int .i64 age] w (OverOut nx top now age m k ps hs ks w) := by
  obtain ⟨h00, h01⟩ := h0
  obtain ⟨h10, h11⟩ := h1
  have HV := Lib.hid h
  clear h
  go_enter Try.func36, Try.ntmps36
  go_upto_region 1 with (fail)
  refine wp_world (fun w' => Blk w' w.heap.size 26 #[.int .i64 nx, .slice A n c, .int .i64 top, .slice B m d, .slice C k e] ∧ Blk w' (w.heap.size + 1) 3 #[.int .i64 now] ∧ Blk w' (w.heap.size + 1 + 1) 3 #[.int .i64 age] ∧ Blk w' (w.heap.size + 1 + 1 + 1) 26 #[.int .i64 0, .slice none 0 0, .int .i64 0, .slice none 0 0, .slice none 0 0] ∧ Below w.heap.size w w')
    ⟨(((Blk.new _ _ _).alloc _).alloc _).alloc _, ((Blk.new1 _ _ _ _).alloc _).alloc _, (Blk.new2 _ _ _ _ _).alloc _, by (have h := Blk.new (((w.alloc (.cells #[.int .i64 nx, .slice A n c, .int .i64 top, .slice B m d, .slice C k e] 26)).alloc (.cells #[.int .i64 now] 3)).alloc (.cells #[.int .i64 age] 3)) 26 #[.int .i64 0, .slice none 0 0, .int .i64 0, .slice none 0 0, .slice none 0 0]; simpa using h), ((((Below.refl _ _).alloc (Nat.le_refl _) _).alloc (by simp) _).alloc (by simp; omega) _).alloc (by simp; omega) _⟩ ?_
  rintro w1 ⟨hS, hN, hG, hZ, hb⟩
  have FS := hS.facts5
  have HV1 := Lib.hid (HV.out.below hb)
  go_wp2_with fail
  refine (HV1.out.check).mono ?_
  rintro e1 w2 ⟨rfl, hb2⟩
  have hS := hS.carry hb2
  have hN := hN.carry hb2
  have hG := hG.carry hb2
  have hZ := hZ.carry hb2
  have hb := hb.trans (hb2.mono hb.size)
  have HV2 := Lib.hid (HV1.out.below hb2)
  have hgz := hZ.lt
  clear FS HV1 hb2
  have FS := hS.facts5
  have FN : w2.cell? ⟨w.heap.size + 1, 0, none⟩ = some (.int .i64 now) := by rw [hN.cell]; rfl
  have FG : w2.cell? ⟨w.heap.size + 1 + 1, 0, none⟩ = some (.int .i64 age) := by rw [hG.cell]; rfl
  go_wp2_with fail
  refine (HV2.out.fresh).mono ?_
  rintro e2 w3 ⟨A3, c3, B3, d3, C3, k3, M, rfl, ⟨hc3, hc3m⟩, ⟨hd3, hd3m⟩, ⟨hk3, hk3m⟩, hM0, hM1, hAM, hO, hOB, hOC, hb3⟩
  have hS := hS.carry hb3
  have hN := hN.carry hb3
  have hG := hG.carry hb3
  have hZ := hZ.carry hb3
  have hb := hb.trans (hb3.mono hb.size)
  clear FS FN FG hb3
  have FS := hS.facts5
  have HO := Lib.hid hO
  have HOB := Lib.hid hOB
  have HOC := Lib.hid hOC
  clear hO hOB hOC hAM
  go_upto_region 7 with (fail)
  refine wp_world (fun w' => Blk w' w.heap.size 26 #[.int .i64 nx, .slice A3 n c3, .int .i64 top, .slice B3 m d3, .slice C3 k k3] ∧ Blk w' (w.heap.size + 1) 3 #[.int .i64 now] ∧ Blk w' (w.heap.size + 1 + 1) 3 #[.int .i64 age] ∧ Blk w' (w.heap.size + 1 + 1 + 1) 26 #[.int .i64 0, .slice none 0 0, .int .i64 0, .slice none 0 0, .slice none 0 0] ∧ OwnX pcells 4 w' w2.heap.size 39 A3 c3 ps ∧ OwnX rcells 2 w' M 35 B3 d3 hs ∧ OwnX icells 1 w' M 3 C3 k3 ks ∧ M ≤ w'.heap.size ∧ Below w.heap.size w w')
    ⟨(((((hS.set_ 0 _).set_ 1 _).set_ 2 _).set_ 3 _).set_ 4 _).as (by rfl), by (apply Blk.as; (case h => (repeat (first | with_reducible exact hN | with_reducible apply Blk.drew | with_reducible apply Blk.set4 | with_reducible apply Blk.set_ | (with_reducible apply Blk.far4 (hne := ?side); case side => (first | omega | (simp; omega) | (simp; done))) | (with_reducible apply Blk.far (hp := ?side); case side => (first | omega | (simp; omega) | (simp; done))) | with_reducible apply Blk.alloc))); (case e => (first | with_reducible rfl | (simp; done) | rfl))), by (apply Blk.as; (case h => (repeat (first | with_reducible exact hG | with_reducible apply Blk.drew | with_reducible apply Blk.set4 | with_reducible apply Blk.set_ | (with_reducible apply Blk.far4 (hne := ?side); case side => (first | omega | (simp; omega) | (simp; done))) | (with_reducible apply Blk.far (hp := ?side); case side => (first | omega | (simp; omega) | (simp; done))) | with_reducible apply Blk.alloc))); (case e => (first | with_reducible rfl | (simp; done) | rfl))), by (apply Blk.as; (case h => (repeat (first | with_reducible exact hZ | with_reducible apply Blk.drew | with_reducible apply Blk.set4 | with_reducible apply Blk.set_ | (with_reducible apply Blk.far4 (hne := ?side); case side => (first | omega | (simp; omega) | (simp; done))) | (with_reducible apply Blk.far (hp := ?side); case side => (first | omega | (simp; omega) | (simp; done))) | with_reducible apply Blk.alloc))); (case e => (first | with_reducible rfl | (simp; done) | rfl))), ?_, ?_, ?_, by first | exact hM1 | (simp; omega), by (repeat (first | with_reducible exact hb | with_reducible refine Below.drew ?_ | (with_reducible refine Below.set4 ?_ ?side _ _ _ _; case side => (first | omega | (simp; omega) | (simp; done))) | (with_reducible refine Below.setCell ?_ ?side _; case side => (first | omega | (simp; omega) | (simp; done))) | (with_reducible refine Below.alloc ?_ ?side _; case side => (first | omega | (simp; omega) | (simp; done)))))⟩ ?_
  · (repeat (first | with_reducible exact HO.out | (with_reducible refine OwnX.set_below ?_ ?side _; case side => (first | omega | (simp; omega)))))
  · (repeat (first | with_reducible exact HOB.out | (with_reducible refine OwnX.set_below ?_ ?side _; case side => (first | omega | (simp; omega)))))
  · (repeat (first | with_reducible exact HOC.out | (with_reducible refine OwnX.set_below ?_ ?side _; case side => (first | omega | (simp; omega)))))
  clear FS hS hN hG hZ hb HO HOB HOC hM1
  rintro w4 ⟨hS, hN, hG, hZ, hO, hOB, hOC, hM1, hb⟩
  have FS := hS.facts5
  have HOB := Lib.hid hOB
  have HOC := Lib.hid hOC
  clear hOB hOC
  go_wp2_with fail
  refine (spSplitC (w.heap.size + 1) (w.heap.size + 1 + 1) (lateP now age) A3 n c3 ps HV2.out.hn HV2.out.n24 hc3 hc3m _ hO.rd (fun p w' hb' => spLate_any p (w.heap.size + 1) (w.heap.size + 1 + 1) now age w' (hN.carry hb') (hG.carry hb'))).mono ?_
  rintro e4 w9 ⟨T, nt, ct, L2, nl, cl, rfl, htl, htc, htm, hll, hlc, hlm, hOT, hOL, hb9⟩
  have hS := hS.carry hb9
  have hZ := hZ.carry hb9
  have hb := hb.trans (hb9.mono hb.size)
  have HOB := Lib.hid (show OwnX rcells 2 w9 M 35 B3 d3 hs from own_carry HOB.out hb9)
  have HOC := Lib.hid (show OwnX icells 1 w9 M 3 C3 k3 ks from own_carry HOC.out hb9)
  have HOT := Lib.hid (show OwnX pcells 4 w9 w4.heap.size 39 T ct (ps.filter (lateP now age)) from hOT)
  have HOL := Lib.hid (show OwnX pcells 4 w9 w4.heap.size 39 L2 cl (ps.filter fun p => !lateP now age p) from hOL)
  have HTL := Lib.hid (show (ps.filter (lateP now age)).length = nt from htl)
  have HLL := Lib.hid (show (ps.filter fun p => !lateP now age p).length = nl from hll)
  have hz9 := hb9.size
  clear FS hN hG hO hOT hOL htl hll hb9
  have FS := hS.facts5
  go_upto_region 9 with (fail)
  refine wp_world (fun w' => Blk w' w.heap.size 26 #[.int .i64 nx, .slice L2 nl cl, .int .i64 top, .slice B3 m d3, .slice C3 k k3] ∧ Blk w' (w.heap.size + 1 + 1 + 1) 26 #[.int .i64 0, .slice none 0 0, .int .i64 0, .slice none 0 0, .slice none 0 0] ∧ OwnX rcells 2 w' M 35 B3 d3 hs ∧ OwnX icells 1 w' M 3 C3 k3 ks ∧ OwnX pcells 4 w' w4.heap.size 39 T ct (ps.filter (lateP now age)) ∧ OwnX pcells 4 w' w4.heap.size 39 L2 cl (ps.filter fun p => !lateP now age p) ∧ Below w.heap.size w w')
    ⟨(hS.set_ 1 _).as (by rfl), by (apply Blk.as; (case h => (repeat (first | with_reducible exact hZ | with_reducible apply Blk.drew | with_reducible apply Blk.set4 | with_reducible apply Blk.set_ | (with_reducible apply Blk.far4 (hne := ?side); case side => (first | omega | (simp; omega) | (simp; done))) | (with_reducible apply Blk.far (hp := ?side); case side => (first | omega | (simp; omega) | (simp; done))) | with_reducible apply Blk.alloc))); (case e => (first | with_reducible rfl | (simp; done) | rfl))), ?_, ?_, ?_, ?_, by (repeat (first | with_reducible exact hb | with_reducible refine Below.drew ?_ | (with_reducible refine Below.set4 ?_ ?side _ _ _ _; case side => (first | omega | (simp; omega) | (simp; done))) | (with_reducible refine Below.setCell ?_ ?side _; case side => (first | omega | (simp; omega) | (simp; done))) | (with_reducible refine Below.alloc ?_ ?side _; case side => (first | omega | (simp; omega) | (simp; done)))))⟩ ?_
  · (repeat (first | with_reducible exact HOB.out | (with_reducible refine OwnX.set_below ?_ ?side _; case side => (first | omega | (simp; omega)))))
  · (repeat (first | with_reducible exact HOC.out | (with_reducible refine OwnX.set_below ?_ ?side _; case side => (first | omega | (simp; omega)))))
  · (repeat (first | with_reducible exact HOT.out | (with_reducible refine OwnX.set_below ?_ ?side _; case side => (first | omega | (simp; omega)))))
  · (repeat (first | with_reducible exact HOL.out | (with_reducible refine OwnX.set_below ?_ ?side _; case side => (first | omega | (simp; omega)))))
  clear FS hS hZ hb HOB HOC HOT HOL
  rintro w10 ⟨hS, hZ, hOB, hOC, hOT, hOL, hb⟩
  have FS := hS.facts5
  have FZ := hZ.facts5
  have HOB := Lib.hid hOB
  have HOC := Lib.hid hOC
  have HOT := Lib.hid hOT
  have HOL := Lib.hid hOL
  clear hOB hOC hOT hOL
  have FIN : ∀ wf, OwnX rcells 2 wf M 35 B3 d3 hs → OwnX icells 1 wf M 3 C3 k3 ks → OwnX pcells 4 wf w4.heap.size 39 T ct (ps.filter (lateP now age)) → OwnX pcells 4 wf w4.heap.size 39 L2 cl (ps.filter fun p => !lateP now age p) → Below w.heap.size w wf → OverOut nx top now age m k ps hs ks w (.returned (.tuple #[.agg #[.int .i64 nx, .slice L2 nl cl, .int .i64 top, .slice B3 m d3, .slice C3 k k3], .slice T nt ct, .int .i64 0])) wf := fun wf h1 h2 h4 h5 h6 => by
    refine ⟨L2, nl, cl, B3, d3, C3, k3, T, nt, ct, rfl, fun W hW => ?_, HTL.out, htc, htm, h6⟩
    have g1 := ownx_agree (W := W) h1 fun q q1 q2 => hW q (by omega) q2
    have g2 := ownx_agree (W := W) h2 fun q q1 q2 => hW q (by omega) q2
    have g4 := ownx_agree (W := W) h4 fun q q1 q2 => hW q (by omega) q2
    have g5 := ownx_agree (W := W) h5 fun q q1 q2 => hW q (by omega) q2
    exact ⟨⟨HLL.out, HV2.out.hm, HV2.out.hk, hlc, hlm, hd3, hd3m, hk3, hk3m, HV2.out.ok.part _, g5.rd, g1.rd, g2.rd⟩, g4.rd⟩
  have HFN := Lib.hid FIN
  clear FIN
  go_wp2_with fail
  refine bodyPost_ret (v := .tuple #[.agg #[.int .i64 nx, .slice L2 nl cl, .int .i64 top, .slice B3 m d3, .slice C3 k k3], .slice T nt ct, .int .i64 0]) ?_ rfl (HFN.out _ ?_ ?_ ?_ ?_ ?_)
  · simp [results, Try.results36, go_sem, FZ] <;> first | rfl | omega
  · (repeat (first | with_reducible exact HOB.out | (with_reducible refine OwnX.set_below ?_ ?side _; case side => (first | omega | (simp; omega)))))
  · (repeat (first | with_reducible exact HOC.out | (with_reducible refine OwnX.set_below ?_ ?side _; case side => (first | omega | (simp; omega)))))
  · (repeat (first | with_reducible exact HOT.out | (with_reducible refine OwnX.set_below ?_ ?side _; case side => (first | omega | (simp; omega)))))
  · (repeat (first | with_reducible exact HOL.out | (with_reducible refine OwnX.set_below ?_ ?side _; case side => (first | omega | (simp; omega)))))
  · (repeat (first | with_reducible exact hb | with_reducible refine Below.drew ?_ | (with_reducible refine Below.set4 ?_ ?side _ _ _ _; case side => (first | omega | (simp; omega) | (simp; done))) | (with_reducible refine Below.setCell ?_ ?side _; case side => (first | omega | (simp; omega) | (simp; done))) | (with_reducible refine Below.alloc ?_ ?side _; case side => (first | omega | (simp; omega) | (simp; done)))))
end Go.Proofs.Ytoonohhjcfceeaa
