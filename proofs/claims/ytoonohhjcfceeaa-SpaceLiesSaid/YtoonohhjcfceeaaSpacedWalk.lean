/- The contract of spaced. -/
import Derived.Test.YtoonohhjcfceeaaSpdIn
namespace Go.Proofs.Ytoonohhjcfceeaa
open Go.ChangeShapes Go.WideShapes Go.ChangeAt Go.RowKit
open Go.Maps (Keyed int_keyed keyOf_int_mk)
set_option linter.unusedVariables false

set_option maxRecDepth 100000 in
set_option maxHeartbeats 100000000 in
theorem spaced_any (Ar : Option Addr) (len cap : Nat) (rs : List RawD) (w : World) (h : IsRaws w Ar len cap rs) :
    Calls Try.prog 14 #[.slice Ar len cap] w (SpacedOut w) := by
  have hlc := h.2.2.1
  have hcm := h.2.2.2.1
  unfold maxLen at hcm
  obtain ⟨K, hk⟩ : ∃ k : Nat, min (len : Int) 30 = k := ⟨(min (len : Int) 30).toNat, by omega⟩
  have hk30 : K ≤ 30 := by omega
  have hkl : K ≤ len := by omega
  have HK := Lib.hid (some_any Ar len cap K 30 hlc hcm (by decide) (by decide) hk)
  have HRS := Lib.hid (h.front K hkl)
  clear h hk
  have hmm := @run_makeMap Try.prog
  go_enter Try.func14, Try.ntmps14
  go_wp2_with fail
  refine (spBegin_ok _).mono ?_
  rintro e0 w1 ⟨rfl, hb1⟩
  have hR0 := (Blk.new w 26 #[.int .i64 0, .slice none 0 0, .int .i64 0, .slice none 0 0, .slice none 0 0]).carry hb1
  have hbw : Below w.heap.size w w1 := ((Below.refl _ _).alloc (Nat.le_refl _) _).trans (hb1.mono (by simp))
  have hgs1 : w.heap.size < w1.heap.size := hR0.lt
  go_wp2_with fail
  refine (HK.out _).mono ?_
  rintro e1 w' ⟨rfl, rfl⟩
  have HR0 := Lib.hid hR0
  have HBW := Lib.hid hbw
  have hM0 : ∀ W : World, MapM (W.alloc (.map #[] 0)) W.heap.size 0 (.map []) := fun W => World.ownsMap_made W _ _ _
  have HM0 := Lib.hid hM0
  clear hb1 hR0 hbw hM0
  go_wp2_with fail
  go_loopw [7, 32] (fun s7 iv wr => ∃ (i : Nat) (now : Int), i ≤ K ∧ iv = .int .i64 (i : Int) ∧ s7 = .int .i64 now ∧ Spd w wr w1.heap.size (w1.heap.size + 1) i now) (fun _ iv _ => K - (intOf iv).toNat)
  case atStart =>
    refine ⟨0, 0, Nat.zero_le _, rfl, rfl, 0, none, 0, 0, -1, none, 0, 0, none, 0, 0, [], [], [], 0, .map [], ?_, SpK.none _ _, ?_, EndsOk.none, ⟨by omega, by omega, by omega, by omega⟩, ?_, ⟨hgs1, by omega⟩, ?_⟩
    · exact (Blk.new _ _ _).alloc _
    · have h := HM0.out (w1.alloc (.cells #[.int .i64 0, .slice none 0 0, .int .i64 (-1), .slice none 0 0, .slice none 0 0] 26))
      simpa using h
    · exact (HR0.out.alloc _).alloc _
    · exact (HBW.out.alloc HBW.out.size _).alloc (by have := HBW.out.size; simp; omega) _
  case round =>
    obtain ⟨i, now, hi, rfl, rfl, nx, A, n, c, top, B, m, d, C, k, e, ps, hs, ks, cnt, D, hS, hV, hM, hE, ⟨hnx, hcnt, hn0, hn1⟩, hR, ⟨hg1, hg2⟩, hb⟩ := hrel
    generalize w1.heap.size = gS at *
    have HS := Lib.hid hS
    have HV := Lib.hid hV
    have HM := Lib.hid hM
    have HE := Lib.hid hE
    have HR := Lib.hid hR
    have HB := Lib.hid hb
    have hnN := hV.here.ok.n0
    clear hS hV hM hE hR hb HR0 HBW HM0
    by_cases hlt : i < K
    · obtain ⟨b, off, rfl, hcell⟩ := (HRS.out.keep HB.out).at_ (by omega)
      obtain ⟨c0, c1, c2, c3⟩ := hcell i hlt
      have hro := HRS.out.2.2.2.2 i hlt
      generalize rs.take K = rs' at *
      generalize rs'.getD i rawNone = r at *
      obtain ⟨o0, o1, o2, o3⟩ := hro
      have hi0 : (0 : Int) ≤ (i : Int) := by omega
      have hiK : (i : Int) < (K : Int) := by omega
      obtain ⟨t, HT, t0, t1⟩ := mod_ex r.b 3 (by decide)
      obtain ⟨kd, HKD, kd0, kd1⟩ := mod_ex r.kind 6 (by decide)
      have hnw : IntKind.i64.wrap (now + t) = now + t := IntWalk.i64_in _ (by omega)
      clear hcell
      go_upto_block 1 with (fail)
      go_cut [7] (fun s7 wx => s7 = .int .i64 (now + t) ∧ Spd w wx gS (gS + 1) (i + 1) (now + t))
      case first =>
        go_upto_region 7 with (fail)
        refine wp_world (fun w' => Blk w' wr.heap.size 71 #[.int .i64 r.kind, .int .i64 r.a, .int .i64 r.b, .string r.text] ∧ Below wr.heap.size wr w') ⟨Blk.new _ _ _, (Below.refl _ _).alloc (Nat.le_refl _) _⟩ ?_
        rintro w2 ⟨hQ, hq⟩
        have FQ := hQ.facts4
        clear c0 c1 c2 c3
        go_wp2_with fail
        refine (picked_at r.b 3 t o2.1 o2.2 (by decide) (by decide) HT _).mono ?_
        rintro e2 w' ⟨rfl, rfl⟩
        go_wp2_with fail
        refine (picked_at r.kind 6 kd o0.1 o0.2 (by decide) (by decide) HKD _).mono ?_
        rintro e2 w' ⟨rfl, rfl⟩
        have HS := Lib.hid (HS.out.carry hq)
        have HV := Lib.hid (HV.out.below hq)
        have HM := Lib.hid (HM.out.below hq)
        have HR := Lib.hid (HR.out.carry hq)
        have HB := Lib.hid (HB.out.trans (hq.mono HB.out.size))
        generalize wr.heap.size = gQ at *
        have HQ := Lib.hid hQ
        clear hQ hq
        have hgS2 : gS < w2.heap.size := HS.out.lt
        have hgQ2 : gQ < w2.heap.size := HQ.out.lt
        have hgM2 : gS + 1 < w2.heap.size := HM.out.lt
        have hgR2 : w.heap.size < w2.heap.size := HR.out.lt
        rcases (show (kd = 0 ∨ kd = 1 ∨ kd = 2) ∨ kd = 3 ∨ kd = 4 ∨ kd = 5 by omega) with hk | rfl | rfl | rfl
        · obtain ⟨z, HZA, z0, z1⟩ := mod_ex r.a 100 (by decide)
          have FS := HS.out.facts5
          by_cases h24 : n = 24
          · subst h24
            rcases hk with rfl | rfl | rfl
            all_goals
              -- [[sendfull
              as_aux_lemma =>
                go_upto_region 21 with (fail)
                go_region_held3 (fun w' => w'.cell? ⟨gS, 0, none⟩ = some (.int .i64 nx) ∧ w'.cell? ⟨gS, 1, none⟩ = some (.slice A 24 c) ∧ w'.cell? ⟨gS, 2, none⟩ = some (.int .i64 top) ∧ w'.cell? ⟨gS, 3, none⟩ = some (.slice B m d) ∧ w'.cell? ⟨gS, 4, none⟩ = some (.slice C k e) ∧ w'.cell? ⟨gQ, 1, none⟩ = some (.int .i64 r.a)) (go_keep)
                  (first
                    | (go_at_call 10; refine (picked_at r.a 100 z o1.1 o1.2 (by decide) (by decide) HZA _).mono ?_; rintro e3 w' ⟨rfl, rfl⟩)
                    | (go_at_call 11; refine Calls.mono (spSend_full nx A c top B m d C k e ps hs ks (now + t) z ⟨by omega, by omega⟩ ⟨by omega, by omega⟩ _ (SpK.below HV.out (by (repeat (first | with_reducible exact (Below.refl _ _) | with_reducible refine Below.drew ?_ | (with_reducible refine Below.set4 ?_ ?side _ _ _ _; case side => (first | omega | (simp; omega) | (simp; done))) | (with_reducible refine Below.setCell ?_ ?side _; case side => (first | omega | (simp; omega) | (simp; done))) | (with_reducible refine Below.alloc ?_ ?side _; case side => (first | omega | (simp; omega) | (simp; done))))))).here) ?_; rintro e3 w5 ⟨rfl, hb5⟩; have hbx : Below w2.heap.size w2 w5 := Below.trans (by (repeat (first | with_reducible exact (Below.refl _ _) | with_reducible refine Below.drew ?_ | (with_reducible refine Below.set4 ?_ ?side _ _ _ _; case side => (first | omega | (simp; omega) | (simp; done))) | (with_reducible refine Below.setCell ?_ ?side _; case side => (first | omega | (simp; omega) | (simp; done))) | (with_reducible refine Below.alloc ?_ ?side _; case side => (first | omega | (simp; omega) | (simp; done)))))) (hb5.mono (by simp)); have FS := (HS.out.carry hbx).facts5; have FQ := (HQ.out.carry hbx).facts4; have hcq := cell_under hb5; have hfq := frozen_under hb5; have hsq := hb5.size; (try simp at hsq); (try have hs1 : w2.heap.size < w5.heap.size := by omega); have HN1 : (¬ w2.heap.size = gS ∧ ¬ gS = w2.heap.size) ∧ (¬ w5.heap.size = gS ∧ ¬ gS = w5.heap.size) ∧ (¬ w2.heap.size = gQ ∧ ¬ gQ = w2.heap.size) ∧ (¬ w5.heap.size = gQ ∧ ¬ gQ = w5.heap.size) := (by refine ⟨⟨?_, ?_⟩, ⟨?_, ?_⟩, ⟨?_, ?_⟩, ?_, ?_⟩ <;> omega)))
                all_goals
                  clear HN1 hcq hfq
                  go_wp2_with fail
                  go_meet
                  refine ⟨by first | rfl | simp, ?_⟩
                  refine Spd.keep HS.out HV.out HM.out HE.out ⟨by omega, by omega, by omega, by omega⟩ HR.out ⟨hg1, hg2⟩ HB.out ?_
                  have h := hbx
                  (repeat (first | with_reducible exact h | with_reducible refine Below.drew ?_ | (with_reducible refine Below.set4 ?_ ?side _ _ _ _; case side => (first | omega | (simp; omega) | (simp; done))) | (with_reducible refine Below.setCell ?_ ?side _; case side => (first | omega | (simp; omega) | (simp; done))) | (with_reducible refine Below.alloc ?_ ?side _; case side => (first | omega | (simp; omega) | (simp; done)))))
              -- ]]sendfull
          · have hn24 : n < 24 := by have := HV.out.here.n24; omega
            rcases hk with rfl | rfl | rfl
            all_goals
              go_upto_region 21 with (fail)
              go_cut [10, 11, 12] (fun s10 s11 s12 wx => s11 = .int .i64 nx ∧ s12 = .int .i64 0 ∧ ∃ (g10 : Nat) (A5 : Option Addr) (c5 : Nat) (B5 : Option Addr) (d5 : Nat) (C5 : Option Addr) (k5 : Nat), s10 = .pointer (some ⟨g10, 0, none⟩) ∧ gS + 1 < g10 ∧ Blk wx g10 26 #[.int .i64 (nx + 1), .slice A5 (n + 1) c5, .int .i64 top, .slice B5 m d5, .slice C5 k k5] ∧ SpK (gS + 1) wx (nx + 1) A5 (n + 1) c5 top B5 m d5 C5 k k5 (ps ++ [(nx, now + t, z)]) hs ks ∧ Below w2.heap.size w2 wx)
              case first =>
                -- [[sendfirst
                as_aux_lemma =>
                  go_region_held3 (fun w' => w'.cell? ⟨gS, 0, none⟩ = some (.int .i64 nx) ∧ w'.cell? ⟨gS, 1, none⟩ = some (.slice A n c) ∧ w'.cell? ⟨gS, 2, none⟩ = some (.int .i64 top) ∧ w'.cell? ⟨gS, 3, none⟩ = some (.slice B m d) ∧ w'.cell? ⟨gS, 4, none⟩ = some (.slice C k e) ∧ w'.cell? ⟨gQ, 1, none⟩ = some (.int .i64 r.a)) (go_keep)
                    (first
                      | (go_at_call 10; refine (picked_at r.a 100 z o1.1 o1.2 (by decide) (by decide) HZA _).mono ?_; rintro e3 w' ⟨rfl, rfl⟩)
                      | (go_at_call 11; refine Calls.mono (spSend_ok nx A n c top B m d C k e ps hs ks (now + t) z ⟨by omega, by omega⟩ ⟨by omega, by omega⟩ hn24 (by omega) _ (SpK.below HV.out (by (repeat (first | with_reducible exact (Below.refl _ _) | with_reducible refine Below.drew ?_ | (with_reducible refine Below.set4 ?_ ?side _ _ _ _; case side => (first | omega | (simp; omega) | (simp; done))) | (with_reducible refine Below.setCell ?_ ?side _; case side => (first | omega | (simp; omega) | (simp; done))) | (with_reducible refine Below.alloc ?_ ?side _; case side => (first | omega | (simp; omega) | (simp; done))))))).here) ?_; rintro e3 w5 ⟨A5, c5, B5, d5, C5, k5, rfl, hK5, hb5⟩; have hbx : Below w2.heap.size w2 w5 := Below.trans (by (repeat (first | with_reducible exact (Below.refl _ _) | with_reducible refine Below.drew ?_ | (with_reducible refine Below.set4 ?_ ?side _ _ _ _; case side => (first | omega | (simp; omega) | (simp; done))) | (with_reducible refine Below.setCell ?_ ?side _; case side => (first | omega | (simp; omega) | (simp; done))) | (with_reducible refine Below.alloc ?_ ?side _; case side => (first | omega | (simp; omega) | (simp; done)))))) (hb5.mono (by simp)); have FS := (HS.out.carry hbx).facts5; have FQ := (HQ.out.carry hbx).facts4; have hcq := cell_under hb5; have hfq := frozen_under hb5; have hsq := hb5.size; (try simp at hsq); (try have hs1 : w2.heap.size < w5.heap.size := by omega); (try have hPre : Blk w5 w2.heap.size 26 #[.int .i64 0, .slice none 0 0, .int .i64 0, .slice none 0 0, .slice none 0 0] := Blk.below (by first | with_reducible exact Blk.new _ _ _ | (with_reducible apply Blk.drew; with_reducible exact Blk.new _ _ _)) hb5 (by simp)); have HK5 := Lib.hid hK5; have HN1 : (¬ w2.heap.size = gS ∧ ¬ gS = w2.heap.size) ∧ (¬ w5.heap.size = gS ∧ ¬ gS = w5.heap.size) ∧ (¬ w2.heap.size = gQ ∧ ¬ gQ = w2.heap.size) ∧ (¬ w5.heap.size = gQ ∧ ¬ gQ = w5.heap.size) := (by refine ⟨⟨?_, ?_⟩, ⟨?_, ?_⟩, ⟨?_, ?_⟩, ?_, ?_⟩ <;> omega)))
                  all_goals
                    clear HN1 hcq hfq
                    go_wp2_with fail
                    go_meet
                    refine ⟨rfl, rfl, _, A5, c5, B5, d5, C5, k5, rfl, ?_, ?_, ?_, ?_⟩
                    · omega
                    · first | with_reducible exact Blk.new _ _ _ | exact (((((hPre.set_ 0 _).set_ 1 _).set_ 2 _).set_ 3 _).set_ 4 _).as (by rfl)
                    · first
                      | (refine SpK.mono (g := w2.heap.size) ?_ (by omega); have hq := SpKeep.spK (g := w2.heap.size) HK5.out (by simp); (repeat (first | with_reducible exact hq | ((with_reducible refine SpK.set ?_ ?side _); case side => exact Nat.le_refl _))); done)
                      | (have hq := SpKeep.spK (g := gS + 1) HK5.out (by simp; omega); exact hq.below ((Below.refl _ _).alloc (Nat.le_refl _) _))
                    · have h := hbx
                      (repeat (first | with_reducible exact h | with_reducible refine Below.drew ?_ | (with_reducible refine Below.set4 ?_ ?side _ _ _ _; case side => (first | omega | (simp; omega) | (simp; done))) | (with_reducible refine Below.setCell ?_ ?side _; case side => (first | omega | (simp; omega) | (simp; done))) | (with_reducible refine Below.alloc ?_ ?side _; case side => (first | omega | (simp; omega) | (simp; done)))))
                -- ]]sendfirst
              case rest =>
                obtain ⟨rfl, rfl, g10, A5, c5, B5, d5, C5, k5, rfl, hg10, hN, hV5, hbx⟩ := hcut
                have FN := hN.facts5
                have HS5 := Lib.hid (HS.out.carry hbx)
                have HM5 := Lib.hid (HM.out.below hbx)
                have HR5 := Lib.hid (HR.out.carry hbx)
                have HB5 := Lib.hid (HB.out.trans (hbx.mono HB.out.size))
                have HV5 := Lib.hid hV5
                clear FS HS HM HR HB HV HQ FQ hV5
                have FS := HS5.out.facts5
                -- [[sendrest
                as_aux_lemma =>
                  go_upto_region 24 with (fail)
                  refine wp_world (fun w' => Blk w' gS 26 #[.int .i64 (nx + 1), .slice A5 (n + 1) c5, .int .i64 top, .slice B5 m d5, .slice C5 k k5] ∧ SpK (gS + 1) w' (nx + 1) A5 (n + 1) c5 top B5 m d5 C5 k k5 (ps ++ [(nx, now + t, z)]) hs ks ∧ MapM w' (gS + 1) cnt D ∧ Blk w' w.heap.size 26 #[.int .i64 0, .slice none 0 0, .int .i64 0, .slice none 0 0, .slice none 0 0] ∧ Below w.heap.size w w') ⟨(((((HS5.out.set_ 0 _).set_ 1 _).set_ 2 _).set_ 3 _).set_ 4 _).as (by rfl), ?_, ?_, ?_, ?_⟩ ?_
                  · have hV := HV5.out
                    (repeat (first | with_reducible exact hV | ((with_reducible refine SpK.set ?_ ?side _); case side => (show gS ≤ gS + 1; omega))))
                  · have hM := HM5.out
                    (repeat (first | with_reducible exact hM | ((with_reducible refine MapM.set ?_ ?side _); case side => (show gS + 1 ≠ gS; omega))))
                  · have hR := HR5.out
                    (apply Blk.as; (case h => (repeat (first | with_reducible exact hR | with_reducible apply Blk.drew | with_reducible apply Blk.set4 | with_reducible apply Blk.set_ | (with_reducible apply Blk.far4 (hne := ?side); case side => (first | omega | (simp; omega) | (simp; done))) | (with_reducible apply Blk.far (hp := ?side); case side => (first | omega | (simp; omega) | (simp; done))) | with_reducible apply Blk.alloc))); (case e => (first | with_reducible rfl | (simp; done) | rfl)))
                  · have h := HB5.out
                    (repeat (first | with_reducible exact h | with_reducible refine Below.drew ?_ | (with_reducible refine Below.set4 ?_ ?side _ _ _ _; case side => (first | omega | (simp; omega) | (simp; done))) | (with_reducible refine Below.setCell ?_ ?side _; case side => (first | omega | (simp; omega) | (simp; done))) | (with_reducible refine Below.alloc ?_ ?side _; case side => (first | omega | (simp; omega) | (simp; done)))))
                  rintro w6 ⟨hS6, hV6, hM6, hR6, hB6⟩
                  have HS6 := Lib.hid hS6
                  have HV6 := Lib.hid hV6
                  have HM6 := Lib.hid hM6
                  have HR6 := Lib.hid hR6
                  have HB6 := Lib.hid hB6
                  clear HS5 HV5 HM5 HR5 HB5 FS FN hbx hN hS6 hV6 hM6 hR6 hB6
                  have hwn : (Lit.int .i64 nx).wf = true := wf_i64 nx (by omega) (by omega)
                  go_wp2_with (at_mapUpdate; refine wpList_mapUpdate_own _ rfl _ _ _ 42 rfl 3 3 lawI Try.underlying42 _ (gS + 1) cnt D rfl HM6.out (by unfold maxLen; omega) _ _ _ rfl rfl (keyOf_int_mk Try.underlying3 hwn) _ [] (plainElem_int Try.underlying3 (by decide)) ?_; intro w7 hM7 hg7)
                  go_meet
                  refine ⟨by first | rfl | simp, ?_⟩
                  exact Spd.keep (HS6.out.map_grown HM6.out hg7) (HV6.out.map hg7) hM7 ((HE.out.put hnN).congr fun q => (onWay_snoc ps (nx, now + t, z) q).symm) ⟨by omega, by omega, by omega, by omega⟩ (HR6.out.map_grown HM6.out hg7) ⟨hg1, hg2⟩ (HB6.out.grown hg7 HB6.out.size (fun j hj => by cases hj; omega)) (Below.refl _ _)
                -- ]]sendrest
        · -- [[leap
          as_aux_lemma =>
            have FS := HS.out.facts5
            go_wp2_with fail
            refine (spLeap_ok nx A n c top B m d C k e ps hs ks (by omega) _ HV.out.here).mono ?_
            rintro e3 w5 ⟨A5, c5, B5, d5, C5, k5, e5, rfl, hK5, hb5⟩
            have HV5 := Lib.hid (SpKeep.spK (g := gS + 1) hK5 hgM2)
            have HS5 := Lib.hid (HS.out.carry hb5)
            have HM5 := Lib.hid (HM.out.below hb5)
            have HR5 := Lib.hid (HR.out.carry hb5)
            have HB5 := Lib.hid (HB.out.trans (hb5.mono HB.out.size))
            have hz5 := hb5.size
            clear FS hK5 hb5 HS HV HM HR HB HQ FQ
            have FS := HS5.out.facts5
            go_upto_region 27 with (fail)
            refine wp_world (fun w' => Blk w' w5.heap.size 26 #[.int .i64 (nx + 1), .slice A5 n c5, .int .i64 top, .slice B5 m d5, .slice C5 k5 e5] ∧ Below w5.heap.size w5 w') ⟨Blk.new _ _ _, (Below.refl _ _).alloc (Nat.le_refl _) _⟩ ?_
            rintro w6 ⟨hN, hq6⟩
            have FN := hN.facts5
            have HS6 := Lib.hid (HS5.out.carry hq6)
            have HV6 := Lib.hid (HV5.out.below hq6)
            have HM6 := Lib.hid (HM5.out.below hq6)
            have HR6 := Lib.hid (HR5.out.carry hq6)
            have HB6 := Lib.hid (HB5.out.trans (hq6.mono HB5.out.size))
            clear FS
            have FS := HS6.out.facts5
            clear HS5 HV5 HM5 HR5 HB5 hq6 hN
            go_wp2_with fail
            go_meet
            refine ⟨by first | rfl | simp, nx + 1, A5, n, c5, top, B5, m, d5, C5, k5, e5, ps, hs, leapK nx ks, cnt, D, (((((HS6.out.set_ 0 _).set_ 1 _).set_ 2 _).set_ 3 _).set_ 4 _).as (by rfl), ?_, ?_, HE.out.up, ⟨by omega, by omega, by omega, by omega⟩, ?_, ⟨hg1, hg2⟩, ?_⟩
            · have hV := HV6.out
              (repeat (first | with_reducible exact hV | ((with_reducible refine SpK.set ?_ ?side _); case side => (show gS ≤ gS + 1; omega))))
            · have hM := HM6.out
              (repeat (first | with_reducible exact hM | ((with_reducible refine MapM.set ?_ ?side _); case side => (show gS + 1 ≠ gS; omega))))
            · have hR := HR6.out
              (apply Blk.as; (case h => (repeat (first | with_reducible exact hR | with_reducible apply Blk.drew | with_reducible apply Blk.set4 | with_reducible apply Blk.set_ | (with_reducible apply Blk.far4 (hne := ?side); case side => (first | omega | (simp; omega) | (simp; done))) | (with_reducible apply Blk.far (hp := ?side); case side => (first | omega | (simp; omega) | (simp; done))) | with_reducible apply Blk.alloc))); (case e => (first | with_reducible rfl | (simp; done) | rfl)))
            · have h := HB6.out
              (repeat (first | with_reducible exact h | with_reducible refine Below.drew ?_ | (with_reducible refine Below.set4 ?_ ?side _ _ _ _; case side => (first | omega | (simp; omega) | (simp; done))) | (with_reducible refine Below.setCell ?_ ?side _; case side => (first | omega | (simp; omega) | (simp; done))) | (with_reducible refine Below.alloc ?_ ?side _; case side => (first | omega | (simp; omega) | (simp; done)))))
          -- ]]leap
        -- [[acked
        · obtain ⟨lo, HLO, lo0, lo1⟩ := mod_ex r.a 30 (by decide)
          obtain ⟨x, HX, xx0, xx1⟩ := mod_ex r.b 5 (by decide)
          have hlx : IntKind.i64.wrap (lo + x) = lo + x := IntWalk.i64_in _ (by omega)
          have FS := HS.out.facts5
          go_wp2_with fail
          refine (picked_at r.a 30 lo o1.1 o1.2 (by decide) (by decide) HLO _).mono ?_
          rintro e3 w' ⟨rfl, rfl⟩
          go_upto_region 32 with (fail)
          go_cut [16, 17, 18, 19] (fun s16 s17 s18 s19 wx => AckCut gS nx lo (lo + x) m k ps hs ks w2 s16 s17 s18 s19 wx)
          case first =>
            -- [[ackfirst
            as_aux_lemma =>
              go_region_held3 (fun w' => w'.cell? ⟨gS, 0, none⟩ = some (.int .i64 nx) ∧ w'.cell? ⟨gS, 1, none⟩ = some (.slice A n c) ∧ w'.cell? ⟨gS, 2, none⟩ = some (.int .i64 top) ∧ w'.cell? ⟨gS, 3, none⟩ = some (.slice B m d) ∧ w'.cell? ⟨gS, 4, none⟩ = some (.slice C k e) ∧ w'.cell? ⟨gQ, 2, none⟩ = some (.int .i64 r.b)) (go_keep)
                (first
                  | (go_at_call 10; refine (picked_at r.b 5 x o2.1 o2.2 (by decide) (by decide) HX _).mono ?_; rintro e3 w' ⟨rfl, rfl⟩)
                  | (go_at_call 12; refine Calls.mono (spAcked_any nx A n c top B m d C k e ps hs ks lo (lo + x) (by omega) (by omega) (by omega) _ 0 1 (Nat.le_refl _) (by decide) _ (SpK.below HV.out (by (repeat (first | with_reducible exact (Below.refl _ _) | with_reducible refine Below.drew ?_ | (with_reducible refine Below.set4 ?_ ?side _ _ _ _; case side => (first | omega | (simp; omega) | (simp; done))) | (with_reducible refine Below.setCell ?_ ?side _; case side => (first | omega | (simp; omega) | (simp; done))) | (with_reducible refine Below.alloc ?_ ?side _; case side => (first | omega | (simp; omega) | (simp; done))))))).here (rngBlk (by (repeat (first | with_reducible exact blkN (by first | (simp; done) | (simp; omega)) | with_reducible apply Blk.drew | with_reducible apply Blk.alloc))))) ?_; rintro e3 w5 ⟨x0, A', n', c', x2, B', m', d', C', k', e2, H, nh, ch, T, nt, ct, code, rfl, hb5, hor⟩; have hbx : Below w2.heap.size w2 w5 := Below.trans (by (repeat (first | with_reducible exact (Below.refl _ _) | with_reducible refine Below.drew ?_ | (with_reducible refine Below.set4 ?_ ?side _ _ _ _; case side => (first | omega | (simp; omega) | (simp; done))) | (with_reducible refine Below.setCell ?_ ?side _; case side => (first | omega | (simp; omega) | (simp; done))) | (with_reducible refine Below.alloc ?_ ?side _; case side => (first | omega | (simp; omega) | (simp; done)))))) (hb5.mono (by first | (simp; done) | (simp; omega))); have FS := (HS.out.carry hbx).facts5; have FQ := (HQ.out.carry hbx).facts4; have hcq := cell_under hb5; have hfq := frozen_under hb5; have hsq := hb5.size; (try simp at hsq); (try have hs1 : w2.heap.size < w5.heap.size := by omega); (try have hs2 : w2.heap.size + 1 < w5.heap.size := by omega); (try have hPre : Blk w5 w2.heap.size 26 #[.int .i64 0, .slice none 0 0, .int .i64 0, .slice none 0 0, .slice none 0 0] := Blk.below (by first | (with_reducible apply Blk.alloc; with_reducible exact Blk.new _ _ _) | (with_reducible apply Blk.drew; with_reducible apply Blk.alloc; with_reducible exact Blk.new _ _ _) | (with_reducible apply Blk.drew; with_reducible apply Blk.alloc; with_reducible apply Blk.drew; with_reducible exact Blk.new _ _ _) | (with_reducible apply Blk.alloc; with_reducible apply Blk.drew; with_reducible exact Blk.new _ _ _)) hb5 (by first | (simp; done) | (simp; omega))); (try have hPre1 : Blk w5 (w2.heap.size + 1) 26 #[.int .i64 0, .slice none 0 0, .int .i64 0, .slice none 0 0, .slice none 0 0] := Blk.below (by first | with_reducible exact blkN (by first | (simp; done) | (simp; omega)) | (with_reducible apply Blk.drew; with_reducible exact blkN (by first | (simp; done) | (simp; omega)))) hb5 (by first | (simp; done) | (simp; omega))); have HOR := Lib.hid hor; clear hor; have HN1 : (¬ w2.heap.size = gS ∧ ¬ gS = w2.heap.size) ∧ (¬ w2.heap.size + 1 = gS ∧ ¬ gS = w2.heap.size + 1) ∧ (¬ w5.heap.size = gS ∧ ¬ gS = w5.heap.size) ∧ (¬ w2.heap.size = gQ ∧ ¬ gQ = w2.heap.size) ∧ (¬ w2.heap.size + 1 = gQ ∧ ¬ gQ = w2.heap.size + 1) ∧ (¬ w5.heap.size = gQ ∧ ¬ gQ = w5.heap.size) := (by refine ⟨⟨?_, ?_⟩, ⟨?_, ?_⟩, ⟨?_, ?_⟩, ⟨?_, ?_⟩, ⟨?_, ?_⟩, ?_, ?_⟩ <;> omega)))
              all_goals
                clear HN1 hcq hfq
                go_wp2_with fail
                go_meet
                refine ⟨_, x0, A', n', c', x2, B', m', d', C', k', e2, H, nh, ch, T, nt, ct, code, rfl, rfl, rfl, rfl, ?_, ?_, ?_, HOR.out.imp id ?_⟩
                · omega
                · first | with_reducible exact Blk.new _ _ _ | ((with_reducible refine Blk.as (((((hPre.set_ 0 _).set_ 1 _).set_ 2 _).set_ 3 _).set_ 4 _) ?e1); (case e1 => rfl)) | ((with_reducible refine Blk.as (((((hPre1.set_ 0 _).set_ 1 _).set_ 2 _).set_ 3 _).set_ 4 _) ?e1); (case e1 => rfl))
                · have h := hbx
                  (repeat (first | with_reducible exact h | with_reducible refine Below.drew ?_ | (with_reducible refine Below.set4 ?_ ?side _ _ _ _; case side => (first | omega | (simp; omega) | (simp; done))) | (with_reducible refine Below.setCell ?_ ?side _; case side => (first | omega | (simp; omega) | (simp; done))) | (with_reducible refine Below.alloc ?_ ?side _; case side => (first | omega | (simp; omega) | (simp; done)))))
                · rintro ⟨a1, a2, a3, a4, hK5, a5⟩
                  refine ⟨a1, a2, a3, a4, ?_, a5⟩
                  first
                  | (refine KeptB.mono (g := w2.heap.size + 1) ?_ (by omega); have hq := SpKeep.keptB (g := w2.heap.size + 1) hK5 (by first | (simp; done) | (simp; omega)); (repeat (first | with_reducible exact hq | ((with_reducible refine KeptB.set ?_ ?side _); case side => (first | (simp; done) | (show (_ : Nat) ≤ _; omega))))); done)
                  | (have hq := SpKeep.keptB (g := gS + 1) hK5 (by first | (simp; done) | (simp; omega)); exact hq.below ((Below.refl _ _).alloc (Nat.le_refl _) _))
            -- ]]ackfirst
          case rest =>
            -- [[ackrest
            as_aux_lemma =>
              obtain ⟨g16, x0, A', n', c', x2, B', m', d', C', k', e2, H, nh, ch, T, nt, ct, code, rfl, rfl, rfl, rfl, hg16, hN, hbx, hor⟩ := hcut
              have HS5 := Lib.hid (HS.out.carry hbx)
              have HM5 := Lib.hid (HM.out.below hbx)
              have HR5 := Lib.hid (HR.out.carry hbx)
              have HB5 := Lib.hid (HB.out.trans (hbx.mono HB.out.size))
              have HV5 := Lib.hid (HV.out.below hbx)
              have hz5 := hbx.size
              have HPT0 := Lib.hid HV.out.here.ok.pk
              have HPL := Lib.hid HV.out.here.ok.pl
              clear FS HS HM HR HB HV HQ FQ hbx
              rcases hor with rfl | ⟨rfl, hx0, hm0, hk0, hK5, hl1, hl2, hl3, hl4, hl5, hl6⟩
              · clear hN
                go_wp2_with fail
                go_meet
                refine ⟨by first | rfl | simp, ?_⟩
                exact Spd.keep HS5.out HV5.out HM5.out HE.out ⟨by omega, by omega, by omega, by omega⟩ HR5.out ⟨hg1, hg2⟩ HB5.out (Below.refl _ _)
              · subst x0
                subst m'
                subst k'
                have FN := hN.facts5
                have FS := HS5.out.facts5
                have HK5 := Lib.hid hK5
                have HL1 := Lib.hid hl1
                have HL4 := Lib.hid hl4
                clear hK5 hN hl1 hl4 HV5
                go_upto_region 35 with (fail)
                refine wp_world (fun w' => Blk w' gS 26 #[.int .i64 nx, .slice A' n' c', .int .i64 x2, .slice B' m d', .slice C' k e2] ∧ KeptB (gS + 1) w' (fun W => SpV W nx A' n' c' x2 B' m d' C' k e2 (leftOf x2 (restOf lo (lo + x) ps)) hs ks ∧ RdX pcells 4 W H (heardOf lo (lo + x) ps) ∧ RdX pcells 4 W T (lostOf x2 (restOf lo (lo + x) ps))) ∧ MapM w' (gS + 1) cnt D ∧ Blk w' w.heap.size 26 #[.int .i64 0, .slice none 0 0, .int .i64 0, .slice none 0 0, .slice none 0 0] ∧ Below w.heap.size w w') ⟨(((((HS5.out.set_ 0 _).set_ 1 _).set_ 2 _).set_ 3 _).set_ 4 _).as (by rfl), ?_, ?_, ?_, ?_⟩ ?_
                · have hV := HK5.out
                  (repeat (first | with_reducible exact hV | ((with_reducible refine KeptB.set ?_ ?side _); case side => (show gS ≤ gS + 1; omega))))
                · have hM := HM5.out
                  (repeat (first | with_reducible exact hM | ((with_reducible refine MapM.set ?_ ?side _); case side => (show gS + 1 ≠ gS; omega))))
                · have hR := HR5.out
                  (apply Blk.as; (case h => (repeat (first | with_reducible exact hR | with_reducible apply Blk.drew | with_reducible apply Blk.set4 | with_reducible apply Blk.set_ | (with_reducible apply Blk.far4 (hne := ?side); case side => (first | omega | (simp; omega) | (simp; done))) | (with_reducible apply Blk.far (hp := ?side); case side => (first | omega | (simp; omega) | (simp; done))) | with_reducible apply Blk.alloc))); (case e => (first | with_reducible rfl | (simp; done) | rfl)))
                · have h := HB5.out
                  (repeat (first | with_reducible exact h | with_reducible refine Below.drew ?_ | (with_reducible refine Below.set4 ?_ ?side _ _ _ _; case side => (first | omega | (simp; omega) | (simp; done))) | (with_reducible refine Below.setCell ?_ ?side _; case side => (first | omega | (simp; omega) | (simp; done))) | (with_reducible refine Below.alloc ?_ ?side _; case side => (first | omega | (simp; omega) | (simp; done)))))
                rintro w6 ⟨hS6, hK6, hM6, hR6, hB6⟩
                have hg6 : gS + 1 < w6.heap.size := hM6.lt
                have HS6 := Lib.hid hS6
                have HK6 := Lib.hid hK6
                have HM6 := Lib.hid hM6
                have HR6 := Lib.hid hR6
                have HB6 := Lib.hid hB6
                have HH6 := Lib.hid hK6.here.2.1
                have HT6 := Lib.hid hK6.here.2.2
                clear HS5 HK5 HM5 HR5 HB5 FS FN hS6 hK6 hM6 hR6 hB6
                obtain ⟨qs, hqs⟩ : ∃ qs, heardOf lo (lo + x) ps ++ lostOf x2 (restOf lo (lo + x) ps) = qs := ⟨_, rfl⟩
                obtain ⟨nq, hnq⟩ : ∃ nq, nh + nt = nq := ⟨_, rfl⟩
                have HQL : Hid (qs.length = nq) := Lib.hid (by rw [← hqs, ← hnq, List.length_append, HL1.out, HL4.out])
                have HPT : Hid (Parts ps qs (leftOf x2 (restOf lo (lo + x) ps))) := Lib.hid (by rw [← hqs]; exact ackParts HPT0.out.1)
                have HPB : Hid (∀ p ∈ ps, 0 ≤ p.1 ∧ p.1 < nx) := Lib.hid fun p hp => ⟨(HPT0.out.2 p hp).1, (HPT0.out.2 p hp).2.1⟩
                have hnq24 : nq ≤ 24 := by have h1 := HPT.out.len; have h2 := HPL.out; have h3 := HQL.out; omega
                have hnh : nh ≤ nq := by omega
                have HQS := Lib.hid hqs
                have HNQ := Lib.hid hnq
                clear hqs hnq
                go_wp2_with (first
                  | (at_builtin; refine wpList_appL pcells 4 pcells_one _ rfl (.tmp 128) (.tmp 129) _ rfl w6.heap.size 39 _ 48 Try.underlying22 pclInfo rfl (by decide) (by decide) _ nh _ (heardOf lo (lo + x) ps) rfl HL1.out HO7.out _ nt ct (lostOf x2 (restOf lo (lo + x) ps)) rfl HL4.out (RdX.below HT6.out hb67) qs HQS.out nq HNQ.out (by have := HNQ.out; omega) (by have := hb67.size; omega) ?_; intro A8 c8 w8 hO8 hc8 hm8 hb8 hgr8 hat8; have HO8 := Lib.hid hO8; have HB8 := Lib.hid (hb67.trans hb8); clear hO8 hb8 hgr8 hat8 hb67 HO7)
                  | (at_builtin; refine wpList_appL pcells 4 pcells_one _ rfl (.tmp 126) (.tmp 127) _ rfl w6.heap.size 39 _ 48 Try.underlying22 pclInfo rfl (by decide) (by decide) _ 0 _ [] rfl rfl (OwnX.madeH pcells 4 _ _ _ (Nat.le_refl _) (by first | rfl | (simp; done))) H nh ch (heardOf lo (lo + x) ps) rfl HL1.out (RdX.alloc HH6.out _) (heardOf lo (lo + x) ps) rfl nh (by omega) (by omega) (by simp) ?_; intro A7 c7 w7 hO7 hc7 hm7 hb7 hgr7 hat7; have HO7 := Lib.hid hO7; have hb67 : Below w6.heap.size w6 w7 := ((Below.refl _ _).alloc (Nat.le_refl _) _).trans hb7; clear hO7 hb7 hgr7 hat7))
                have HK8 : Hid (Strk w w8 gS nx A' n' c' x2 B' m d' C' k e2 (leftOf x2 (restOf lo (lo + x) ps)) hs ks A8 qs (cnt + 0) D) := Lib.hid ⟨HS6.out.carry HB8.out, fun W hW => ⟨((HK6.out.below HB8.out) W hW).1, (KeptB.own HO8.out hg6) W hW⟩, HM6.out.below HB8.out, HR6.out.carry HB8.out, HB6.out.trans (HB8.out.mono HB6.out.size)⟩
                clear HS6 HK6 HM6 HR6 HB6 HH6 HT6 HB8 HO8 HL1 HL4 HQS HNQ hl2 hl3 hl5 hl6
                go_loopw [132] (fun iv wr => ∃ (j : Nat) (D' : MapD), j ≤ nq ∧ iv = .int .i64 (j : Int) ∧ EndsOk D' nx (fun q => onWay ps q && !onWay (qs.take j) q) ∧ Strk w wr gS nx A' n' c' x2 B' m d' C' k e2 (leftOf x2 (restOf lo (lo + x) ps)) hs ks A8 qs (cnt + j) D') (fun iv _ => nq - (intOf iv).toNat)
                case atStart => exact ⟨0, D, Nat.zero_le _, rfl, HE.out.congr (fun q => by simp [onWay]), HK8.out⟩
                case round =>
                  obtain ⟨j, D', hj, rfl, hE9, hK9⟩ := hrel
                  have HE9 := Lib.hid hE9
                  have HK9 := Lib.hid hK9
                  clear hE9 hK9 HK8 HE
                  by_cases hlt : j < nq
                  · obtain ⟨b9, off9, hT, hcell⟩ := HK9.out.rd.pcl (by have := HQL.out; omega)
                    obtain ⟨c0, c1, c2, c3⟩ := hcell j (by have := HQL.out; omega)
                    obtain ⟨⟨p0, p1⟩, hat, hE10⟩ := strikeAt HPT.out j (by have := HQL.out; omega) HE9.out HPB.out
                    have HE10 := Lib.hid hE10
                    have HAT := Lib.hid hat
                    clear hcell hE10 hat HE9
                    generalize qs.getD j pcln = p at *
                    obtain ⟨pn, pt, pz⟩ := p
                    simp only at c0 c1 c2 p0 p1
                    have hwn : (Lit.int .i64 pn).wf = true := wf_i64 pn (by omega) (by omega)
                    subst hT
                    go_upto_region 38 with (fail)
                    refine wp_world (fun w' => Blk w' wr.heap.size 39 #[.int .i64 pn, .int .i64 pt, .int .i64 pz, .slice none 0 0] ∧ Strk w w' gS nx A' n' c' x2 B' m d' C' k e2 (leftOf x2 (restOf lo (lo + x) ps)) hs ks (some ⟨b9, off9, none⟩) qs (cnt + j) D') ⟨Blk.new _ _ _, HK9.out.below ((Below.refl _ _).alloc (Nat.le_refl _) _)⟩ ?_
                    clear c0 c1 c2 c3 HK9
                    generalize wr.heap.size = tb at *
                    rintro w9 ⟨hP, hK9⟩
                    have FP := hP.facts4
                    have HK9 := Lib.hid hK9
                    clear hK9 hP
                    go_wp2_with (first
                      | (at_lookup; refine wpList_lookup_own_int _ rfl _ _ 42 rfl 3 3 .i64 lawI Try.underlying42 Try.underlying3 (zeroI _) (gS + 1) (cnt + j) D' rfl HK9.out.maps _ _ rfl (keyOf_int_mk Try.underlying3 hwn) ?_; intro cc hat2 hwc; have hcc : cc = 1 := (num_at HAT.out hat2); subst hcc; clear hat2 hwc)
                      | (at_mapUpdate; refine wpList_mapUpdate_own _ rfl _ _ _ 42 rfl 3 3 lawI Try.underlying42 _ (gS + 1) (cnt + j) D' rfl HK9.out.maps (by unfold maxLen; omega) _ _ _ rfl rfl (keyOf_int_mk Try.underlying3 hwn) _ [] (plainElem_int Try.underlying3 (by decide)) ?_; intro w10 hM10 hg10_))
                    go_roundw
                    case rel => exact ⟨j + 1, D'.put (.int .i64 pn) (num64 2), by omega, by go_num, HE10.out, HK9.out.map hM10 hg10_ (by omega)⟩
                    case measure => first | (simp [intOf]; done) | (simp [intOf]; omega)
                  · obtain rfl : j = nq := by omega
                    go_wp2_with fail
                    go_meet
                    refine ⟨by first | rfl | simp, ?_⟩
                    have hql := HQL.out
                    refine HK9.out.spd (all := ps) (by rw [hql]; exact HE9.out) HPT.out ⟨by omega, by omega, by omega, by omega⟩ ⟨hg1, by omega⟩
            -- ]]ackrest
        -- ]]acked
        -- [[over
        · obtain ⟨y, HY, y0, y1⟩ := mod_ex r.a 9 (by decide)
          have hly : IntKind.i64.wrap (5 + y) = 5 + y := IntWalk.i64_in _ (by omega)
          have FS := HS.out.facts5
          go_upto_region 9 with (fail)
          go_cut [22, 23, 24] (fun s22 s23 s24 wx => OverCut gS nx top (now + t) (5 + y) m k ps hs ks w2 s22 s23 s24 wx)
          case first =>
            -- [[overfirst
            as_aux_lemma =>
              go_region_held3 (fun w' => w'.cell? ⟨gS, 0, none⟩ = some (.int .i64 nx) ∧ w'.cell? ⟨gS, 1, none⟩ = some (.slice A n c) ∧ w'.cell? ⟨gS, 2, none⟩ = some (.int .i64 top) ∧ w'.cell? ⟨gS, 3, none⟩ = some (.slice B m d) ∧ w'.cell? ⟨gS, 4, none⟩ = some (.slice C k e) ∧ w'.cell? ⟨gQ, 1, none⟩ = some (.int .i64 r.a)) (go_keep)
                (first
                  | (go_at_call 10; refine (picked_at r.a 9 y o1.1 o1.2 (by decide) (by decide) HY _).mono ?_; rintro e3 w' ⟨rfl, rfl⟩)
                  | (go_at_call 36; refine Calls.mono (spOverdue_ok nx A n c top B m d C k e ps hs ks (now + t) (5 + y) ⟨by omega, by omega⟩ ⟨by omega, by omega⟩ _ (SpK.below HV.out (by (repeat (first | with_reducible exact (Below.refl _ _) | with_reducible refine Below.drew ?_ | (with_reducible refine Below.set4 ?_ ?side _ _ _ _; case side => (first | omega | (simp; omega) | (simp; done))) | (with_reducible refine Below.setCell ?_ ?side _; case side => (first | omega | (simp; omega) | (simp; done))) | (with_reducible refine Below.alloc ?_ ?side _; case side => (first | omega | (simp; omega) | (simp; done))))))).here) ?_; rintro e3 w5 ⟨A', n', c', B', d', C', k', T, nt, ct, rfl, hK5, hl1, hl2, hl3, hb5⟩; have hbx : Below w2.heap.size w2 w5 := Below.trans (by (repeat (first | with_reducible exact (Below.refl _ _) | with_reducible refine Below.drew ?_ | (with_reducible refine Below.set4 ?_ ?side _ _ _ _; case side => (first | omega | (simp; omega) | (simp; done))) | (with_reducible refine Below.setCell ?_ ?side _; case side => (first | omega | (simp; omega) | (simp; done))) | (with_reducible refine Below.alloc ?_ ?side _; case side => (first | omega | (simp; omega) | (simp; done)))))) (hb5.mono (by simp)); have FS := (HS.out.carry hbx).facts5; have FQ := (HQ.out.carry hbx).facts4; have hcq := cell_under hb5; have hfq := frozen_under hb5; have hsq := hb5.size; (try simp at hsq); (try have hs1 : w2.heap.size < w5.heap.size := by omega); (try have hPre : Blk w5 w2.heap.size 26 #[.int .i64 0, .slice none 0 0, .int .i64 0, .slice none 0 0, .slice none 0 0] := Blk.below (by first | with_reducible exact Blk.new _ _ _ | (with_reducible apply Blk.drew; with_reducible exact Blk.new _ _ _)) hb5 (by simp)); have HK5 := Lib.hid hK5; clear hK5; have HN1 : (¬ w2.heap.size = gS ∧ ¬ gS = w2.heap.size) ∧ (¬ w5.heap.size = gS ∧ ¬ gS = w5.heap.size) ∧ (¬ w2.heap.size = gQ ∧ ¬ gQ = w2.heap.size) ∧ (¬ w5.heap.size = gQ ∧ ¬ gQ = w5.heap.size) := (by refine ⟨⟨?_, ?_⟩, ⟨?_, ?_⟩, ⟨?_, ?_⟩, ?_, ?_⟩ <;> omega)))
              all_goals
                clear HN1 hcq hfq
                go_wp2_with fail
                go_meet
                refine ⟨_, A', n', c', B', d', C', k', T, nt, ct, rfl, rfl, rfl, ?_, ?_, ?_, ?_, hl1, hl2, hl3⟩
                · omega
                · first | with_reducible exact Blk.new _ _ _ | exact (((((hPre.set_ 0 _).set_ 1 _).set_ 2 _).set_ 3 _).set_ 4 _).as (by rfl)
                · have h := hbx
                  (repeat (first | with_reducible exact h | with_reducible refine Below.drew ?_ | (with_reducible refine Below.set4 ?_ ?side _ _ _ _; case side => (first | omega | (simp; omega) | (simp; done))) | (with_reducible refine Below.setCell ?_ ?side _; case side => (first | omega | (simp; omega) | (simp; done))) | (with_reducible refine Below.alloc ?_ ?side _; case side => (first | omega | (simp; omega) | (simp; done)))))
                · first
                  | (refine KeptB.mono (g := w2.heap.size) ?_ (by omega); have hq := SpKeep.keptB (g := w2.heap.size) HK5.out (by simp); (repeat (first | with_reducible exact hq | ((with_reducible refine KeptB.set ?_ ?side _); case side => exact Nat.le_refl _))); done)
                  | (have hq := SpKeep.keptB (g := gS + 1) HK5.out (by simp; omega); exact hq.below ((Below.refl _ _).alloc (Nat.le_refl _) _))
            -- ]]overfirst
          case rest =>
            -- [[overrest
            as_aux_lemma =>
              obtain ⟨g22, A', n', c', B', d', C', k', T, nq, ct, rfl, rfl, rfl, hg22, hN, hbx, hK5, hl1, hl2, hl3⟩ := hcut
              have HS5 := Lib.hid (HS.out.carry hbx)
              have HM5 := Lib.hid (HM.out.below hbx)
              have HR5 := Lib.hid (HR.out.carry hbx)
              have HB5 := Lib.hid (HB.out.trans (hbx.mono HB.out.size))
              have HPT0 := Lib.hid HV.out.here.ok.pk
              have HPL := Lib.hid HV.out.here.ok.pl
              have FN := hN.facts5
              have HK5 := Lib.hid hK5
              clear FS HS HM HR HB HV HQ FQ hbx hN hK5
              have FS := HS5.out.facts5
              obtain ⟨qs, hqs⟩ : ∃ qs, ps.filter (lateP (now + t) (5 + y)) = qs := ⟨_, rfl⟩
              have HPT : Hid (Parts ps qs (ps.filter fun p => !lateP (now + t) (5 + y) p)) := Lib.hid (by rw [← hqs]; exact lateParts HPT0.out.1)
              rw [hqs] at HK5 hl1
              have HQL := Lib.hid hl1
              have HPB : Hid (∀ p ∈ ps, 0 ≤ p.1 ∧ p.1 < nx) := Lib.hid fun p hp => ⟨(HPT0.out.2 p hp).1, (HPT0.out.2 p hp).2.1⟩
              have hnq24 : nq ≤ 24 := by have h1 := HPT.out.len; have h2 := HPL.out; omega
              clear hl1 hqs HPT0 HPL
              go_upto_region 13 with (fail)
              refine wp_world (fun w' => Strk w w' gS nx A' n' c' top B' m d' C' k k' (ps.filter fun p => !lateP (now + t) (5 + y) p) hs ks T qs (cnt + 0) D) ⟨(((((HS5.out.set_ 0 _).set_ 1 _).set_ 2 _).set_ 3 _).set_ 4 _).as (by rfl), ?_, ?_, ?_, ?_⟩ ?_
              · have hV := HK5.out
                (repeat (first | with_reducible exact hV | ((with_reducible refine KeptB.set ?_ ?side _); case side => (show gS ≤ gS + 1; omega))))
              · have hM : MapM wc (gS + 1) (cnt + 0) D := HM5.out
                (repeat (first | with_reducible exact hM | ((with_reducible refine MapM.set ?_ ?side _); case side => (show gS + 1 ≠ gS; omega))))
              · have hR := HR5.out
                (apply Blk.as; (case h => (repeat (first | with_reducible exact hR | with_reducible apply Blk.drew | with_reducible apply Blk.set4 | with_reducible apply Blk.set_ | (with_reducible apply Blk.far4 (hne := ?side); case side => (first | omega | (simp; omega) | (simp; done))) | (with_reducible apply Blk.far (hp := ?side); case side => (first | omega | (simp; omega) | (simp; done))) | with_reducible apply Blk.alloc))); (case e => (first | with_reducible rfl | (simp; done) | rfl)))
              · have h := HB5.out
                (repeat (first | with_reducible exact h | with_reducible refine Below.drew ?_ | (with_reducible refine Below.set4 ?_ ?side _ _ _ _; case side => (first | omega | (simp; omega) | (simp; done))) | (with_reducible refine Below.setCell ?_ ?side _; case side => (first | omega | (simp; omega) | (simp; done))) | (with_reducible refine Below.alloc ?_ ?side _; case side => (first | omega | (simp; omega) | (simp; done)))))
              rintro w8 hK8
              have HK8 := Lib.hid hK8
              clear HS5 HK5 HM5 HR5 HB5 FS FN hK8
              go_wp2_with fail
              go_loopw [62] (fun iv wr => ∃ (j : Nat) (D' : MapD), j ≤ nq ∧ iv = .int .i64 (j : Int) ∧ EndsOk D' nx (fun q => onWay ps q && !onWay (qs.take j) q) ∧ Strk w wr gS nx A' n' c' top B' m d' C' k k' (ps.filter fun p => !lateP (now + t) (5 + y) p) hs ks T qs (cnt + j) D') (fun iv _ => nq - (intOf iv).toNat)
              case atStart => exact ⟨0, D, Nat.zero_le _, rfl, HE.out.congr (fun q => by simp [onWay]), HK8.out⟩
              case round =>
                obtain ⟨j, D', hj, rfl, hE9, hK9⟩ := hrel
                have HE9 := Lib.hid hE9
                have HK9 := Lib.hid hK9
                clear hE9 hK9 HK8 HE
                by_cases hlt : j < nq
                · obtain ⟨b9, off9, hT, hcell⟩ := HK9.out.rd.pcl (by have := HQL.out; omega)
                  obtain ⟨c0, c1, c2, c3⟩ := hcell j (by have := HQL.out; omega)
                  obtain ⟨⟨p0, p1⟩, hat, hE10⟩ := strikeAt HPT.out j (by have := HQL.out; omega) HE9.out HPB.out
                  have HE10 := Lib.hid hE10
                  have HAT := Lib.hid hat
                  clear hcell hE10 hat HE9
                  generalize qs.getD j pcln = p at *
                  obtain ⟨pn, pt, pz⟩ := p
                  simp only at c0 c1 c2 p0 p1
                  have hwn : (Lit.int .i64 pn).wf = true := wf_i64 pn (by omega) (by omega)
                  subst hT
                  go_upto_region 16 with (fail)
                  refine wp_world (fun w' => Blk w' wr.heap.size 39 #[.int .i64 pn, .int .i64 pt, .int .i64 pz, .slice none 0 0] ∧ Strk w w' gS nx A' n' c' top B' m d' C' k k' (ps.filter fun p => !lateP (now + t) (5 + y) p) hs ks (some ⟨b9, off9, none⟩) qs (cnt + j) D') ⟨Blk.new _ _ _, HK9.out.below ((Below.refl _ _).alloc (Nat.le_refl _) _)⟩ ?_
                  clear c0 c1 c2 c3 HK9
                  generalize wr.heap.size = tb at *
                  rintro w9 ⟨hP, hK9⟩
                  have FP := hP.facts4
                  have HK9 := Lib.hid hK9
                  clear hK9 hP
                  go_wp2_with (first
                    | (at_lookup; refine wpList_lookup_own_int _ rfl _ _ 42 rfl 3 3 .i64 lawI Try.underlying42 Try.underlying3 (zeroI _) (gS + 1) (cnt + j) D' rfl HK9.out.maps _ _ rfl (keyOf_int_mk Try.underlying3 hwn) ?_; intro cc hat2 hwc; have hcc : cc = 1 := (num_at HAT.out hat2); subst hcc; clear hat2 hwc)
                    | (at_mapUpdate; refine wpList_mapUpdate_own _ rfl _ _ _ 42 rfl 3 3 lawI Try.underlying42 _ (gS + 1) (cnt + j) D' rfl HK9.out.maps (by unfold maxLen; omega) _ _ _ rfl rfl (keyOf_int_mk Try.underlying3 hwn) _ [] (plainElem_int Try.underlying3 (by decide)) ?_; intro w10 hM10 hg10_))
                  go_roundw
                  case rel => exact ⟨j + 1, D'.put (.int .i64 pn) (num64 2), by omega, by go_num, HE10.out, HK9.out.map hM10 hg10_ (by omega)⟩
                  case measure => first | (simp [intOf]; done) | (simp [intOf]; omega)
                · obtain rfl : j = nq := by omega
                  go_wp2_with fail
                  go_meet
                  refine ⟨by first | rfl | simp, ?_⟩
                  have hql := HQL.out
                  refine HK9.out.spd (all := ps) (by rw [hql]; exact HE9.out) HPT.out ⟨by omega, by omega, by omega, by omega⟩ ⟨hg1, by omega⟩
            -- ]]overrest
        -- ]]over
      case rest =>
        clear HS HV HM HE HR HB c0 c1 c2 c3
        obtain ⟨rfl, hcut⟩ := hcut
        go_wp2_with fail
        go_roundw
        case rel => exact ⟨i + 1, now + t, by omega, by first | (go_num; done) | rfl, by first | rfl | simp, hcut⟩
        case measure => first | (simp [intOf]; done) | (simp [intOf]; omega)
    · obtain rfl : i = K := by omega
      have FS := HS.out.facts5
      have FR := HR.out.facts5
      go_wp2_with fail
      refine bodyPost_ret (v := .tuple #[.agg #[.int .i64 nx, .slice A n c, .int .i64 top, .slice B m d, .slice C k e], .map (some (gS + 1)), .bool true]) ?_ rfl ⟨gS + 1, nx, A, n, c, top, B, m, d, C, k, e, ps, hs, ks, cnt, D, rfl, ?_, ?_, HE.out, by omega, by omega, ?_⟩
      · simp [results, Try.results14, go_sem, FR] <;> rfl
      · refine SpK.here (g := gS + 1) ?_
        have hV := HV.out
        (repeat (first | with_reducible exact hV | ((with_reducible refine SpK.set ?_ ?side _); case side => (show w.heap.size ≤ gS + 1; omega))))
      · have hM := HM.out
        (repeat (first | with_reducible exact hM | ((with_reducible refine MapM.set ?_ ?side _); case side => (show gS + 1 ≠ w.heap.size; omega))))
      · have h := HB.out
        (repeat (first | with_reducible exact h | with_reducible refine Below.drew ?_ | (with_reducible refine Below.set4 ?_ ?side _ _ _ _; case side => (first | omega | (simp; omega) | (simp; done))) | (with_reducible refine Below.setCell ?_ ?side _; case side => (first | omega | (simp; omega) | (simp; done))) | (with_reducible refine Below.alloc ?_ ?side _; case side => (first | omega | (simp; omega) | (simp; done)))))
end Go.Proofs.Ytoonohhjcfceeaa
