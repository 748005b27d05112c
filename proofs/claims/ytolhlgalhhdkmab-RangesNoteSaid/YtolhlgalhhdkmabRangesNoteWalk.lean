/- The walk of the law RangesNote. -/
import Derived.Test.YtolhlgalhhdkmabNoteWalk
import Derived.Test.YtolhlgalhhdkmabInts
namespace Go.Proofs.Ytolhlgalhhdkmab
open Go.ChangeShapes Go.WideShapes Go.ChangeAt Go.RowKit
set_option linter.unusedVariables false

theorem not_has_high {l : List Rng} {M : Int} (h : SetOk l M) (v : Int) (hv : M < v) : hasB l v = false := by
  rw [Bool.eq_false_iff, Ne, hasB_iff]; exact fun hm => by have := h.2 v hm; omega

set_option maxRecDepth 100000 in
set_option maxHeartbeats 2000000 in
theorem rangesNote_walk (A : Option Addr) (len cap : Nat) (zs : List Int) (t : Int) (w : World) (h : IsRow .i64 w A len cap zs) (ht : (Lit.int .i64 t).wf = true) :
    Calls Try.prog 3 #[.slice A len cap, .int .i64 t] w fun e w' => e = .returned (.bool true) ∧ Below w.heap.size w w' := by
  obtain ⟨t0, t1⟩ := i64_bounds' ht
  obtain ⟨ns, hns, hR, hbd, hlc, hcm⟩ := h.ints
  have HR := Lib.hid hR
  have HBD := Lib.hid hbd
  have HNS := Lib.hid hns
  clear h hns hR hbd ht
  obtain ⟨K, hK⟩ : ∃ K : Nat, K = min len 30 := ⟨_, rfl⟩
  have hKl : K ≤ len := by omega
  have hK30 : K ≤ 30 := by omega
  have hmin : (if (30 : Int) < (len : Int) then (30 : Int) else (len : Int)) = (K : Int) := by split <;> omega
  clear hK
  go_enter Try.func3, Try.ntmps3
  go_wp2_with fail
  go_loopw [5, 26] (fun s i wr => ∃ (k : Nat) (A' : Option Addr) (m c' : Nat) (xs : List Rng), k ≤ K ∧ i = .int .i64 k ∧ s = .slice A' m c' ∧ xs.length = m ∧ m ≤ 6 ∧ m ≤ c' ∧ c' ≤ 9223372036854775807 ∧ SetOk xs 49 ∧ RdX rcells 2 wr A' xs ∧ Below w.heap.size w wr) (fun _ i _ => K - (intOf i).toNat)
  case atStart => exact ⟨0, none, 0, 0, [], Nat.zero_le _, rfl, rfl, rfl, by decide, Nat.le_refl _, by decide, SetOk.nil _, RdX.nil, Below.refl _ _⟩
  case round =>
    obtain ⟨k, A', m, c', xs, hk, rfl, rfl, hm, hm6, hmc, hc', hok, hrd, hb⟩ := hrel
    have HM := Lib.hid hm
    have HK := Lib.hid hok
    have HRD := Lib.hid hrd
    clear hm hok hrd
    by_cases hlt : k < K
    · have hR := HR.out
      have hlen := HNS.out
      obtain ⟨b, off, rfl, hcell⟩ := hR.cell (by omega)
      have c := cell_keep (Below.mono hb (Nat.le_refl _)) (hcell k (by omega))
      obtain ⟨x0, x1⟩ := HBD.out k (by omega)
      generalize ns.getD k 0 = x at *
      clear hcell hR hlen
      go_wp2_with fail
      refine (picked_ex _ _ x0 x1 (by decide) (by decide) _).mono ?_
      rintro e w' ⟨v, v0, v1, rfl, rfl⟩
      obtain ⟨B, hB⟩ : ∃ B, hasB xs v = B := ⟨_, rfl⟩
      have HB := Lib.hid hB
      clear hB
      go_wp2_with fail
      refine (has_any A' m c' xs HM.out HK.out.1 hmc hc' v B HB.out _ HRD.out).mono ?_
      rintro e w2 ⟨rfl, hb2⟩
      have HRD2 := Lib.hid (RdX.below HRD.out hb2)
      have hbz := hb.trans (hb2.mono hb.size)
      obtain ⟨q, hq⟩ : ∃ q, (noteR xs v).length = q := ⟨_, rfl⟩
      have hq6 : q ≤ 6 := by rw [← hq]; exact noteR_len xs v
      have hok3 := noteR_ok HK.out v v0 (by omega) (by decide)
      have HQ := Lib.hid hq
      have HK3 := Lib.hid hok3
      clear hq hok3 hb hb2 HRD c
      go_wp2_with fail
      refine (rNote_own A' m c' xs HM.out 49 HK.out (by decide) (by decide) hmc hc' (by omega) v v0 (by omega) B HB.out _ q rfl HQ.out _ HRD2.out).mono ?_
      rintro e w3 ⟨A3, c3, rfl, h1, h2, hO, hb3⟩
      have HRD3 := Lib.hid hO.rd
      have hby := hbz.trans (hb3.mono hbz.size)
      clear hO hbz hb3 HRD2
      generalize noteR xs v = ys at *
      cases B
      all_goals
        go_wp2_with fail
        refine (rCheck_ok A3 q c3 ys HQ.out HK3.out.1 h1 h2 _ HRD3.out).mono ?_
        rintro e w4 ⟨rfl, hb4⟩
        have HRD4 := Lib.hid (RdX.below HRD3.out hb4)
        have hbx := hby.trans (hb4.mono hby.size)
        clear hby hb4 HRD3
        go_wp2_with fail
        go_roundw
        case rel => exact ⟨k + 1, A3, q, c3, ys, by omega, by go_num, rfl, HQ.out, hq6, h1, h2, HK3.out, HRD4.out, hbx⟩
        case measure => simp [intOf]; omega
    · go_wp2_with fail
      refine (picked_ex _ _ t0 t1 (by decide) (by decide) _).mono ?_
      rintro e w' ⟨d, d0, d1, rfl, rfl⟩
      have hnh := not_has_high HK.out (60 + d) (by omega)
      have hoku := noteR_ok (HK.out.mono (show (49 : Int) ≤ 68 by decide)) (60 + d) (by omega) (by omega) (by decide)
      have htop := noteR_top (HK.out.mono (show (49 : Int) ≤ 60 + d by omega)) (60 + d) (by omega) (Int.le_refl _) (by omega)
      have hu6 := noteR_len xs (60 + d)
      obtain ⟨u, hu⟩ : ∃ u, noteR xs (60 + d) = u := ⟨_, rfl⟩
      rw [hu] at hoku htop hu6
      have hag := noteR_again hoku (60 + d) (by omega) (by omega) htop hu6
      obtain ⟨q, hq⟩ : ∃ q, u.length = q := ⟨_, rfl⟩
      rw [hq] at hu6
      have HU := Lib.hid hu
      have HQ := Lib.hid hq
      have HNH := Lib.hid hnh
      have HOK := Lib.hid hoku
      have HTOP := Lib.hid ((hasB_iff _ _).2 htop)
      have HAG := Lib.hid hag
      clear hu hq hnh hoku htop hag
      go_wp2_with fail
      refine (rNote_own A' m c' xs HM.out 49 HK.out (by decide) (by decide) hmc hc' (by omega) (60 + d) (by omega) (by omega) false HNH.out u q HU.out HQ.out _ HRD.out).mono ?_
      rintro e w3 ⟨A3, c3, rfl, h1, h2, hO, hb3⟩
      have HRD3 := Lib.hid hO.rd
      have hby := hb.trans (hb3.mono hb.size)
      clear hO hb hb3 HRD
      go_wp2_with fail
      refine (rNote_own A3 q c3 u HQ.out 68 HOK.out (by decide) (by decide) h1 h2 (by omega) (60 + d) (by omega) (by omega) true HTOP.out u q HAG.out HQ.out _ HRD3.out).mono ?_
      rintro e w4 ⟨A4, c4, rfl, h3, h4, hO, hb4⟩
      have HRD4 := Lib.hid hO.rd
      have HRE := Lib.hid (RdX.below HRD3.out hb4)
      have hbx := hby.trans (hb4.mono hby.size)
      clear hO hby hb4 HRD3
      go_wp2_with fail
      refine (rangesTell_any _).mono ?_
      rintro e w5 ⟨rfl, hb5⟩
      have HRD5 := Lib.hid (RdX.below HRD4.out hb5)
      have HRE5 := Lib.hid (RdX.below HRE.out hb5)
      have hby := hbx.trans (hb5.mono hbx.size)
      clear hbx hb5 HRD4 HRE
      go_wp2_with fail
      refine (has_any A3 q c3 u HQ.out HOK.out.1 h1 h2 (60 + d) true HTOP.out _ HRE5.out).mono ?_
      rintro e w6 ⟨rfl, hb6⟩
      have HRD6 := Lib.hid (RdX.below HRD5.out hb6)
      have HRE6 := Lib.hid (RdX.below HRE5.out hb6)
      have hbx := hby.trans (hb6.mono hby.size)
      clear hby hb6 HRD5 HRE5
      go_wp2_with fail
      refine (sameRanges_eq A3 A4 q c3 c4 u HQ.out h1 h3 h2 h4 _ HRE6.out HRD6.out).mono ?_
      rintro e w7 ⟨rfl, hb7⟩
      go_wp2_with fail
      go_ret
      exact ⟨by simp, hbx.trans (hb7.mono hbx.size)⟩
end Go.Proofs.Ytolhlgalhhdkmab
