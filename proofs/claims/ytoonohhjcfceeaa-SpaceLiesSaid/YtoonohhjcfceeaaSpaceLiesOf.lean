/- What SpaceLies answers, where spaced answers as it does. -/
import Derived.Test.YtoonohhjcfceeaaSpdIn
import Derived.Test.YtoonohhjcfceeaaSpaceQuiet
namespace Go.Proofs.Ytoonohhjcfceeaa
open Go.ChangeShapes Go.WideShapes Go.ChangeAt Go.RowKit
set_option linter.unusedVariables false

set_option maxRecDepth 100000 in
set_option maxHeartbeats 8000000 in
theorem spaceLies_of (HSP : SpacedAll) (a : Option Addr) (len cap : Nat) (rs : List RawD) (far : Int) (w : World) (h : IsRaws w a len cap rs) (hf : (Lit.int .i64 far).wf = true) :
    Calls Try.prog 7 #[.slice a len cap, .int .i64 far] w fun e' w' => e' = .returned (.bool true) ∧ Below w.heap.size w w' := by
  obtain ⟨ff0, ff1⟩ := i64_bounds' hf
  clear hf
  have HSA := Lib.hid (HSP a len cap rs w h)
  clear h HSP
  go_enter Try.func7, Try.ntmps7
  go_wp2_with fail
  refine (HSA.out).mono ?_
  rintro e0 w1 ⟨gM, nx, A, n, c, top, B, m, d, C, k, e, ps, hs, ks, cnt, D, rfl, hV, _, _, hnx, _, hb1⟩
  clear HSA
  have hnN := hV.ok.n0
  have HV := Lib.hid hV
  have HB := Lib.hid hb1
  clear hV hb1
  go_upto_region 2 with (fail)
  refine wp_world (fun w' => Blk w' w1.heap.size 26 #[.int .i64 nx, .slice A n c, .int .i64 top, .slice B m d, .slice C k e] ∧ SpV w' nx A n c top B m d C k e ps hs ks ∧ Below w.heap.size w w') ⟨Blk.new _ _ _, HV.out.below ((Below.refl _ _).alloc (Nat.le_refl _) _), HB.out.alloc HB.out.size _⟩ ?_
  rintro w2 ⟨hS2, hV2, hB2⟩
  have HS := Lib.hid hS2
  have HV2 := Lib.hid hV2
  have HB2 := Lib.hid hB2
  have hgS2 := hS2.lt
  generalize w1.heap.size = gS at *
  clear hS2 hV2 hB2 HV HB
  obtain ⟨x, HX, x0, x1⟩ := mod_ex far 9 (by decide)
  have hlx : IntKind.i64.wrap (nx + x) = nx + x := IntWalk.i64_in _ (by omega)
  have FS := HS.out.facts5
  -- [[far
  go_cut [11] (fun s11 wx => s11 = .int .i64 13 ∧ Below w2.heap.size w2 wx)
  case first =>
    go_region_held3 (fun w' => w'.cell? ⟨gS, 0, none⟩ = some (.int .i64 nx) ∧ w'.cell? ⟨gS, 1, none⟩ = some (.slice A n c) ∧ w'.cell? ⟨gS, 2, none⟩ = some (.int .i64 top) ∧ w'.cell? ⟨gS, 3, none⟩ = some (.slice B m d) ∧ w'.cell? ⟨gS, 4, none⟩ = some (.slice C k e)) (go_keep)
      (first
        | (go_at_call 10; refine (picked_at far 9 x ff0 ff1 (by decide) (by decide) HX _).mono ?_; rintro e3 w' ⟨rfl, rfl⟩)
        | (go_at_call 12; refine Calls.mono (spAcked_far nx A n c top B m d C k e ps hs ks nx (nx + x) (by omega) (by omega) (by omega) (by omega) _ 0 1 (Nat.le_refl _) (by decide) _ (HV2.out.below (by (repeat (first | with_reducible exact (Below.refl _ _) | with_reducible refine Below.drew ?_ | (with_reducible refine Below.set4 ?_ ?side _ _ _ _; case side => (first | omega | (simp; omega) | (simp; done))) | (with_reducible refine Below.setCell ?_ ?side _; case side => (first | omega | (simp; omega) | (simp; done))) | (with_reducible refine Below.alloc ?_ ?side _; case side => (first | omega | (simp; omega) | (simp; done))))))) (rngBlk (by (repeat (first | with_reducible exact blkN (by first | (simp; done) | (simp; omega)) | with_reducible apply Blk.drew | with_reducible apply Blk.alloc))))) ?_; rintro e3 w5 ⟨rfl, hb5⟩; have hbx : Below w2.heap.size w2 w5 := Below.trans (by (repeat (first | with_reducible exact (Below.refl _ _) | with_reducible refine Below.drew ?_ | (with_reducible refine Below.set4 ?_ ?side _ _ _ _; case side => (first | omega | (simp; omega) | (simp; done))) | (with_reducible refine Below.setCell ?_ ?side _; case side => (first | omega | (simp; omega) | (simp; done))) | (with_reducible refine Below.alloc ?_ ?side _; case side => (first | omega | (simp; omega) | (simp; done)))))) (hb5.mono (by first | (simp; done) | (simp; omega))); have FS := (HS.out.carry hbx).facts5; have hcq := cell_under hb5; have hfq := frozen_under hb5; have hsq := hb5.size; (try simp at hsq); (try have hs1 : w2.heap.size < w5.heap.size := by omega); (try have hs2 : w2.heap.size + 1 < w5.heap.size := by omega); have HN1 : (¬ w2.heap.size = gS ∧ ¬ gS = w2.heap.size) ∧ (¬ w2.heap.size + 1 = gS ∧ ¬ gS = w2.heap.size + 1) ∧ (¬ w5.heap.size = gS ∧ ¬ gS = w5.heap.size) := (by refine ⟨⟨?_, ?_⟩, ⟨?_, ?_⟩, ?_, ?_⟩ <;> omega)))
    all_goals
      clear HN1 hcq hfq
      go_wp2_with fail
      go_meet
      refine ⟨rfl, ?_⟩
      have h := hbx
      (repeat (first | with_reducible exact h | with_reducible refine Below.drew ?_ | (with_reducible refine Below.set4 ?_ ?side _ _ _ _; case side => (first | omega | (simp; omega) | (simp; done))) | (with_reducible refine Below.setCell ?_ ?side _; case side => (first | omega | (simp; omega) | (simp; done))) | (with_reducible refine Below.alloc ?_ ?side _; case side => (first | omega | (simp; omega) | (simp; done)))))
  -- ]]far
  case rest =>
    obtain ⟨rfl, hbx⟩ := hcut
    have hz := hbx.size
    have HS3 := Lib.hid (HS.out.carry hbx)
    have HV3 := Lib.hid (HV2.out.below hbx)
    have HB3 := Lib.hid (HB2.out.trans (hbx.mono HB2.out.size))
    clear FS HS HV2 HB2 hbx
    have FS := HS3.out.facts5
    go_wp2_with fail
    refine (spLeap_ok nx A n c top B m d C k e ps hs ks (by omega) _ HV3.out).mono ?_
    rintro e3 w5 ⟨A5, c5, B5, d5, C5, k5, e5, rfl, hK5, hb5⟩
    have HV5 := Lib.hid hK5.here
    have HB5 := Lib.hid (HB3.out.trans (hb5.mono HB3.out.size))
    have HPX : Hid (∀ p ∈ ps, p.1 < nx) := Lib.hid fun p hp => (HV3.out.ok.pk.2 p hp).2.1
    have HTOP : Hid (top < nx) := Lib.hid HV3.out.ok.t1
    have HKK := Lib.hid (leapK_has nx ks (by have := HV3.out.k6; rw [HV3.out.hk]; exact this))
    have HKL : Hid (∀ y ∈ leapK nx ks, y ≤ nx) := Lib.hid fun y hy => by
      rcases leapK_mem hy with h1 | rfl
      · have := (HV3.out.ok.kk.2 y h1).2; omega
      · exact Int.le_refl _
    clear FS HS3 HV3 HB3 hK5 hb5
    go_upto_region 4 with (fail)
    refine wp_world (fun w' => Blk w' w5.heap.size 26 #[.int .i64 (nx + 1), .slice A5 n c5, .int .i64 top, .slice B5 m d5, .slice C5 k5 e5] ∧ SpV w' (nx + 1) A5 n c5 top B5 m d5 C5 k5 e5 ps hs (leapK nx ks) ∧ Below w.heap.size w w') ⟨Blk.new _ _ _, HV5.out.below ((Below.refl _ _).alloc (Nat.le_refl _) _), HB5.out.alloc HB5.out.size _⟩ ?_
    rintro w6 ⟨hT, hV6, hB6⟩
    generalize w5.heap.size = gT at *
    have HT := Lib.hid hT
    have HV6 := Lib.hid hV6
    have HB6 := Lib.hid hB6
    have FT := hT.facts5
    clear HV5 HB5 hT hV6 hB6
    have hl1 : IntKind.i64.wrap (nx + 1 - 1) = nx := by rw [IntWalk.i64_in _ (by omega)]; omega
    go_wp2_with fail
    refine (spAcked_skip (nx + 1) A5 n c5 top B5 m d5 C5 k5 e5 ps hs (leapK nx ks) 0 nx (Int.le_refl _) (by omega) (by omega) ⟨nx, HKK.out, by simp [inR]; omega⟩ w6.heap.size 0 1 (Nat.le_refl _) (by decide) _ (HV6.out.below ((Below.refl _ _).alloc (Nat.le_refl _) _)) (rngBlk (Blk.new _ _ _))).mono ?_
    rintro e7 w7 ⟨rfl, hb7⟩
    have hbx : Below w6.heap.size w6 w7 := ((Below.refl _ _).alloc (Nat.le_refl _) _).trans (hb7.mono (by simp))
    have HT7 := Lib.hid (HT.out.carry hbx)
    have HV7 := Lib.hid (HV6.out.below hbx)
    have HB7 := Lib.hid (HB6.out.trans (hbx.mono HB6.out.size))
    have hgT7 := HT7.out.lt
    clear FT HT HV6 HB6 hbx hb7
    go_upto_region 5 with (fail)
    refine wp_world (fun w' => Below w7.heap.size w7 w') ((Below.refl _ _).alloc (Nat.le_refl _) _) ?_
    rintro w8 hb8
    have HT8 := Lib.hid (HT7.out.carry hb8)
    have HV8 := Lib.hid (HV7.out.below hb8)
    have HB8 := Lib.hid (HB7.out.trans (hb8.mono HB7.out.size))
    clear HT7 HV7 HB7 hb8
    have FT := HT8.out.facts5
    go_wp2_with fail
    refine (spQuiet_ok (nx + 1) A5 n c5 top B5 m d5 C5 k5 e5 ps hs (leapK nx ks) (by omega) _ HV8.out).mono ?_
    rintro e9 w9 ⟨A9, c9, B9, d9, C9, k9, rfl, hK9, hb9⟩
    have HV9 := Lib.hid hK9.here
    have HT9 := Lib.hid (HT8.out.carry hb9)
    have HB9 := Lib.hid (HB8.out.trans (hb9.mono HB8.out.size))
    have hgT9 := HT9.out.lt
    clear FT HT8 HV8 HB8 hK9 hb9
    go_upto_region 6 with (fail)
    refine wp_world (fun w' => Blk w' w9.heap.size 26 #[.int .i64 (nx + 1 + 1), .slice A9 n c9, .int .i64 top, .slice B9 m d9, .slice C9 k5 k9] ∧ Below w9.heap.size w9 w') ⟨Blk.new _ _ _, (Below.refl _ _).alloc (Nat.le_refl _) _⟩ ?_
    rintro w10 ⟨hU, hb10⟩
    have HT10 := Lib.hid (HT9.out.carry hb10)
    have HV10 := Lib.hid (HV9.out.below hb10)
    have HB10 := Lib.hid (HB9.out.trans (hb10.mono HB9.out.size))
    generalize w9.heap.size = gU at *
    have FU := hU.facts5
    clear HT9 HV9 HB9 hb10
    have hgT10 := HT10.out.lt
    go_wp2_with fail
    refine (spAcked_one (nx + 1 + 1) A9 n c9 top B9 m d9 C9 k5 k9 ps hs (leapK nx ks) (nx + 1) (nx + 1) (by omega) (Int.le_refl _) (by omega) (fun y hy => by have := HKL.out y hy; simp [inR]; omega) w10.heap.size 0 1 (Nat.le_refl _) (by decide) _ (HV10.out.below ((Below.refl _ _).alloc (Nat.le_refl _) _)) (rngBlk (Blk.new _ _ _))).mono ?_
    rintro e11 w11 hA11
    unfold AckOut at hA11
    rw [if_pos (show top < nx + 1 by have := HTOP.out; omega)] at hA11
    obtain ⟨A11, n11, c11, B11, d11, C11, k11, H, nh, ch, T, nt, ct, rfl, hK11, hlh, _, _, _, _, _, hb11⟩ := hA11
    have hnh : nh = 0 := by
      have h2 : heardOf (nx + 1) (nx + 1) ps = [] := by
        unfold heardOf
        refine List.filter_eq_nil_iff.2 fun p hp => ?_
        simp [inR]
        have := HPX.out p hp
        omega
      rw [h2] at hlh; simpa using hlh.symm
    subst hnh
    have hbx : Below w10.heap.size w10 w11 := ((Below.refl _ _).alloc (Nat.le_refl _) _).trans (hb11.mono (by simp))
    have HT11 := Lib.hid (HT10.out.carry hbx)
    have HB11 := Lib.hid (HB10.out.trans (hbx.mono HB10.out.size))
    have hgT11 := HT11.out.lt
    clear FU HT10 HV10 HB10 hU hK11 hb11 hbx hlh
    go_upto_region 7 with (fail)
    refine wp_world (fun w' => Below w11.heap.size w11 w') ((Below.refl _ _).alloc (Nat.le_refl _) _) ?_
    rintro w12 hb12
    have HT12 := Lib.hid (HT11.out.carry hb12)
    have HB12 := Lib.hid (HB11.out.trans (hb12.mono HB11.out.size))
    clear HT11 HB11 hb12
    go_wp2_with fail
    refine (spaceTells_any _).mono ?_
    rintro e13 w13 ⟨rfl, hb13⟩
    have FT := (HT12.out.carry hb13).facts5
    have hB13 := HB12.out.trans (hb13.mono HB12.out.size)
    clear HT12 HB12 hb13
    go_wp2_with fail
    go_ret
    exact ⟨rfl, hB13⟩
end Go.Proofs.Ytoonohhjcfceeaa
