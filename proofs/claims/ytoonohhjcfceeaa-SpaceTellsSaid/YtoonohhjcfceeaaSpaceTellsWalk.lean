/- The walk of the law SpaceTells. -/
import Derived.Test.YtoonohhjcfceeaaSpaceHear
import Derived.Test.YtoonohhjcfceeaaSpaceTell
namespace Go.Proofs.Ytoonohhjcfceeaa
open Go.ChangeShapes Go.WideShapes Go.ChangeAt Go.RowKit
set_option linter.unusedVariables false

theorem heap5T {w : World} {g q : Nat} (h : q ≠ g) (v0 v1 v2 v3 v4 : Value) : (((((w.setCell ⟨g, 0, none⟩ v0).setCell ⟨g, 1, none⟩ v1).setCell ⟨g, 2, none⟩ v2).setCell ⟨g, 3, none⟩ v3).setCell ⟨g, 4, none⟩ v4).heap[q]? = w.heap[q]? := by
  rw [Below.heap_setCell _ ⟨g, 4, none⟩ _ _ h, Below.heap_setCell _ ⟨g, 3, none⟩ _ _ h, Below.heap_setCell _ ⟨g, 2, none⟩ _ _ h, Below.heap_setCell _ ⟨g, 1, none⟩ _ _ h, Below.heap_setCell _ ⟨g, 0, none⟩ _ _ h]
theorem rev_getD (hs : List Rng) (k : Nat) (h : k < hs.length) : hs.reverse.getD k (0, 0) = hs.getD (hs.length - 1 - k) (0, 0) := by
  simp [List.getD, h, show hs.length - 1 - k < hs.length by omega]
/-- The highest one is the top. -/
theorem HInv.last {hs : List Rng} {top : Int} (h : HInv hs top) (hn : 0 < hs.length) : (hs.getD (hs.length - 1) (0, 0)).2 = top ∧ 0 ≤ top := by
  have h1 := goodFrom_at h.good (Int.le_refl _) (hs.length - 1) (by omega)
  have hm : memR hs (hs.getD (hs.length - 1) (0, 0)).2 := ⟨hs.getD (hs.length - 1) (0, 0), by simp [List.getD, show hs.length - 1 < hs.length by omega], h1.2.1, Int.le_refl _⟩
  have h2 := h.le _ hm
  rcases h.st with ⟨_, h3⟩ | ⟨h3, x, hx, h4, h5⟩
  · subst h3; simp at hn
  · obtain ⟨k, hk, rfl⟩ := List.mem_iff_getElem.1 hx
    have e : hs.getD k (0, 0) = hs[k] := by simp [List.getD, hk]
    have key : ∀ j, j < hs.length → ∀ i, i ≤ j → (hs.getD i (0, 0)).2 ≤ (hs.getD j (0, 0)).2 := fun j hj i hi => by
      induction j with
      | zero =>
        obtain rfl : i = 0 := by omega
        exact Int.le_refl _
      | succ j ih =>
        rcases Nat.lt_or_ge i (j + 1) with hlt | hge
        · have h6 := ih (by omega) (by omega)
          have h7 := goodFrom_next h.good j hj
          have h8 := goodFrom_at h.good (Int.le_refl _) (j + 1) hj
          omega
        · obtain rfl : i = j + 1 := by omega
          exact Int.le_refl _
    have h6 := key (hs.length - 1) (by omega) k (by omega)
    rw [e] at h6
    exact ⟨by omega, h3⟩

set_option maxRecDepth 100000 in
set_option maxHeartbeats 8000000 in
theorem spaceTells_walk (a : Option Addr) (len cap : Nat) (zs : List Int) (w : World) (h : IsRow .i64 w a len cap zs) :
    Calls Try.prog 5 #[.slice a len cap] w fun e w' => e = .returned (.bool true) ∧ Below w.heap.size w w' := by
  obtain ⟨ns, hnl, hrd, hbd, hlc, hcm⟩ := h.ints
  obtain ⟨K, hK, hK30, hKl⟩ : ∃ K : Nat, (if (30 : Int) < (len : Int) then (30 : Int) else (len : Int)) = (K : Int) ∧ K ≤ 30 ∧ K ≤ len := by
    by_cases h : 30 < len
    · exact ⟨30, by rw [if_pos (by omega)]; rfl, by omega, by omega⟩
    · exact ⟨len, by rw [if_neg (by omega)], by omega, by omega⟩
  have hK' : (if (len : Int) < 30 then (len : Int) else (30 : Int)) = (K : Int) := by
    rw [← hK]; split <;> split <;> omega
  have HNL := Lib.hid hnl
  have HRD := Lib.hid hrd
  have HBD := Lib.hid hbd
  have hc1 : (K : Int) ≤ (cap : Int) := by omega
  have hc0 : (0 : Int) ≤ (K : Int) := by omega
  clear hnl hrd hbd h
  go_enter Try.func5, Try.ntmps5
  go_wp2_with fail
  refine (spBegin_ok _).mono ?_
  rintro e w1 ⟨rfl, hb1⟩
  go_upto_region 2 with (fail)
  refine wp_world (fun w' => Blk w' w1.heap.size 26 #[.int .i64 0, .slice none 0 0, .int .i64 (-1), .slice none 0 0, .slice none 0 0] ∧ Below w.heap.size w w') ⟨Blk.new _ _ _, hb1.alloc hb1.size _⟩ ?_
  have hz1 := hb1.size
  clear hb1
  generalize w1.heap.size = g at *
  rintro w2 ⟨hS, hb⟩
  have HS := Lib.hid hS
  have HB := Lib.hid hb
  clear hS hb
  go_wp2_with fail
  go_loopw [4, 24] (fun tv iv wr => ∃ (i : Nat) (top : Int) (A : Option Addr) (c : Nat) (B : Option Addr) (m d : Nat) (C : Option Addr) (e : Nat) (hs : List Rng), i ≤ K ∧ iv = .int .i64 (i : Int) ∧ tv = .int .i64 top ∧ Blk wr g 26 #[.int .i64 0, .slice A 0 c, .int .i64 (-1), .slice B m d, .slice C 0 e] ∧ SpV wr 0 A 0 c (-1) B m d C 0 e [] hs [] ∧ HInv hs top ∧ -1 ≤ top ∧ top ≤ 59 ∧ Below w.heap.size w wr) (fun _ iv _ => K - (intOf iv).toNat)
  case atStart => exact ⟨0, -1, none, 0, none, 0, 0, none, 0, [], Nat.zero_le _, rfl, rfl, HS.out, SpV.none _, ⟨trivial, by decide, fun i hi => absurd hi (memR_nil i), .inl ⟨rfl, rfl⟩⟩, by decide, by decide, HB.out⟩
  case round =>
    obtain ⟨i, top, A, c, B, m, d, C, e, hs, hi, rfl, rfl, hS, hV, hI, ht0, ht1, hb⟩ := hrel
    clear HS HB
    have FS := hS.facts5
    have hgr := hS.lt
    have HS := Lib.hid hS
    have HV := Lib.hid hV
    have HI := Lib.hid hI
    have HB := Lib.hid hb
    clear hS hV hI hb
    by_cases hlt : i < K
    · obtain ⟨b, off, hA, hcell⟩ := (HRD.out.below HB.out).cell (by rw [HNL.out]; omega)
      subst hA
      have c0 := hcell i (by rw [HNL.out]; omega)
      have hxb := HBD.out i (by omega)
      clear hcell
      generalize ns.getD i 0 = x at *
      obtain ⟨v, HVV, v0, v1⟩ := mod_ex x 60 (by decide)
      have hik0 : (0 : Int) ≤ (i : Int) := by omega
      have hik : (i : Int) < (K : Int) := by omega
      go_wp2_with fail
      refine (picked_at x 60 v hxb.1 hxb.2 (by decide) (by decide) HVV _).mono ?_
      rintro e' w' ⟨rfl, rfl⟩
      clear c0
      go_wp2_with fail
      refine (spHear_any 0 A 0 c (-1) B m d C 0 e [] hs [] v v0 (by omega) _ HV.out).mono ?_
      rintro e' w3 hA
      unfold HearOut at hA
      obtain ⟨A', c', B', m', d', C', k', rfl, hKeep, hb3⟩ := hA
      obtain ⟨R, hR⟩ : ∃ R, hearR hs v = R := ⟨_, rfl⟩
      obtain ⟨i1, i2, i3⟩ := hear_inv HI.out v v0 (by omega) R hR
      rw [hR] at hKeep ⊢
      obtain ⟨hs1, fr⟩ := R
      simp only at hKeep i1 i2 i3 ⊢
      have HK := Lib.hid hKeep
      have HI1 := Lib.hid i1
      have HI2 := Lib.hid i2
      have HI3 := Lib.hid i3
      have hS := HS.out.carry hb3
      have hb := HB.out.trans (hb3.mono HB.out.size)
      have hsz := hb3.size
      clear FS HS HB hKeep i1 i2 i3 hb3 hR HI
      have FS := hS.facts5
      go_upto_region 8 with (fail)
      refine wp_world (fun w' => Blk w' w3.heap.size 26 #[.int .i64 0, .slice A' 0 c', .int .i64 (-1), .slice B' m' d', .slice C' 0 k'] ∧ Blk w' g 26 #[.int .i64 0, .slice A 0 c, .int .i64 (-1), .slice B m d, .slice C 0 e] ∧ (∀ q, q < w3.heap.size → w'.heap[q]? = w3.heap[q]?) ∧ Below w.heap.size w w') ⟨Blk.new _ _ _, hS.alloc _, fun q hq => Below.heap_alloc _ _ _ hq, hb.alloc hb.size _⟩ ?_
      clear FS hS hb
      rintro w4 ⟨h8, hS, hAg, hb⟩
      have F8 := h8.facts5
      have hV4 := HK.out w4 (fun q q1 q2 => hAg q q2)
      have HV4 := Lib.hid hV4
      have hgw3 : g < w3.heap.size := by omega
      have h8l := h8.lt
      clear hV4 HV
      go_wp2_with fail
      refine (spHear_any 0 A' 0 c' (-1) B' m' d' C' 0 k' [] hs1 [] v v0 (by omega) _ HV4.out).mono ?_
      rintro e' w5 hA
      unfold HearOut at hA
      rw [HI3.out] at hA
      obtain ⟨A2, c2, B2, m2, d2, C2, k2, rfl, _, hb5⟩ := hA
      have h8 := h8.carry hb5
      have hS := hS.carry hb5
      have hb := hb.trans (hb5.mono hb.size)
      have hAg5 : ∀ q, q < w3.heap.size → w5.heap[q]? = w3.heap[q]? := fun q hq => (hb5.block q (by omega)).trans (hAg q hq)
      have hsz5 := hb5.size
      clear F8 hAg hb5 HV4
      go_upto_region 9 with (fail)
      refine wp_world (fun w' => Blk w' w3.heap.size 26 #[.int .i64 0, .slice A' 0 c', .int .i64 (-1), .slice B' m' d', .slice C' 0 k'] ∧ Blk w' g 26 #[.int .i64 0, .slice A 0 c, .int .i64 (-1), .slice B m d, .slice C 0 e] ∧ (∀ q, q < w3.heap.size → w'.heap[q]? = w3.heap[q]?) ∧ Below w.heap.size w w') ⟨h8.alloc _, hS.alloc _, fun q hq => (Below.heap_alloc _ _ _ (by omega)).trans (hAg5 q hq), hb.alloc hb.size _⟩ ?_
      clear h8 hS hAg5 hb
      rintro w6 ⟨h8, hS, hAg, hb⟩
      have F8 := h8.facts5
      have FS := hS.facts5
      have h8l := h8.lt
      have hne : w3.heap.size ≠ g := by omega
      obtain ⟨tp, htp⟩ : ∃ tp : Int, (if top < v then v else top) = tp := ⟨_, rfl⟩
      have htp2 : (if v < top then top else v) = tp := by rw [← htp]; split <;> split <;> omega
      have htpb : -1 ≤ tp ∧ tp ≤ 59 := by rw [← htp]; split <;> omega
      rw [htp] at HI1
      have HAG := Lib.hid hAg
      have H8 := Lib.hid h8
      have HS := Lib.hid hS
      have HB := Lib.hid hb
      obtain ⟨htpb0, htpb1⟩ := htpb
      clear hAg h8 hS hb
      have hcase : (decide (top < v) = true ∧ fr = true) ∨ decide (top < v) = false := by
        by_cases hv : top < v
        · exact .inl ⟨decide_eq_true hv, HI2.out hv⟩
        · exact .inr (decide_eq_false hv)
      clear HI2
      rcases hcase with ⟨t1, rfl⟩ | t1
      all_goals
        go_wp2_with fail
        go_roundw
        case rel =>
          refine ⟨i + 1, tp, A', c', B', m', d', C', k', hs1, by omega, by go_num, rfl, ?_, ?_, HI1.out, htpb0, htpb1, ?_⟩
          · have hS := HS.out
            refine Blk.as (((((hS.set_ 0 _).set_ 1 _).set_ 2 _).set_ 3 _).set_ 4 _) ?_
            simp
          · refine HK.out _ (fun q q1 q2 => ?_)
            refine Eq.trans ?_ (HAG.out q q2)
            exact heap5T (show q ≠ g by omega) _ _ _ _ _
          · have hb := HB.out
            (repeat (first | with_reducible exact hb | with_reducible refine Below.drew ?_ | (with_reducible refine Below.set4 ?_ ?side _ _ _ _; case side => (first | omega | (simp; omega) | (simp; done))) | (with_reducible refine Below.setCell ?_ ?side _; case side => (first | omega | (simp; omega) | (simp; done))) | (with_reducible refine Below.alloc ?_ ?side _; case side => (first | omega | (simp; omega) | (simp; done)))))
        case measure => simp [intOf]; omega
    · obtain rfl : K = i := by omega
      clear HRD HBD HNL hc1 hc0 hK hK'
      go_wp2_with fail
      refine (spTell_any 0 A 0 c (-1) B m d C 0 e [] hs [] _ HV.out).mono ?_
      rintro e' w3 ⟨O, co, rfl, hoc, hom, hO, hb3⟩
      have hS := HS.out.carry hb3
      have hV := HV.out.below hb3
      have hb := HB.out.trans (hb3.mono HB.out.size)
      have hml := hV.hm
      have hm6 := hV.m6
      have HO := Lib.hid hO
      have HS3 := Lib.hid hS
      have HV3 := Lib.hid hV
      have HB3 := Lib.hid hb
      have HML := Lib.hid hml
      clear FS HS HV HB hb3 hO hS hV hb hml
      by_cases h0 : m = 0
      · subst h0
        have htop : top = -1 := by
          rcases HI.out.st with ⟨h, _⟩ | ⟨_, x, hx, _⟩
          · exact h
          · have hl := HML.out
            have : hs = [] := List.eq_nil_of_length_eq_zero hl
            subst this; cases hx
        subst htop
        go_wp2_with fail
        refine (spaceTells_any _).mono ?_
        rintro e' w4 ⟨rfl, hb4⟩
        go_wp2_with fail
        go_ret
        exact ⟨by first | rfl | simp, HB3.out.trans (hb4.mono HB3.out.size)⟩
      · have hmb : ((m : Int) == 0) = false := by rw [beq_eq_false_iff_ne]; omega
        have hmp : 0 < m := by omega
        obtain ⟨bO, oO, rfl, hcell⟩ := HO.out.rcell (by rw [List.length_reverse, HML.out]; exact hmp)
        rw [List.length_reverse, HML.out] at hcell
        obtain ⟨hlast, _⟩ := HI.out.last (by rw [HML.out]; exact hmp)
        rw [HML.out] at hlast
        have cTop : w3.cell? ⟨bO, oO + 1, none⟩ = some (.int .i64 top) := by
          have := (hcell 0 hmp).2
          rw [rev_getD hs 0 (by rw [HML.out]; exact hmp), HML.out, Nat.sub_zero, hlast] at this
          simpa using this
        have HC := Lib.hid hcell
        have hbO : bO < w3.heap.size := World.block_lt_of_cell? w3 _ cTop
        clear hcell hlast h0
        go_wp2_with fail
        go_loopw [16] (fun iv wr2 => ∃ j : Nat, 1 ≤ j ∧ j ≤ m ∧ iv = .int .i64 (j : Int) ∧ Below w3.heap.size w3 wr2) (fun iv _ => m - (intOf iv).toNat)
        case atStart => exact ⟨1, Nat.le_refl _, by omega, rfl, Below.refl _ _⟩
        case round =>
          obtain ⟨j', hj1, hjm, rfl, hbr⟩ := hrel
          obtain ⟨j, rfl⟩ : ∃ j, j' = j + 1 := ⟨j' - 1, by omega⟩
          by_cases hlt2 : j + 1 < m
          · have c1 := cell_keep hbr (HC.out (j + 1) hlt2).2
            have c2 := cell_keep hbr (HC.out j (by omega)).1
            have hgap : (hs.reverse.getD (j + 1) (0, 0)).2 + 2 ≤ (hs.reverse.getD j (0, 0)).1 := by
              rw [rev_getD hs (j + 1) (by rw [HML.out]; exact hlt2), rev_getD hs j (by rw [HML.out]; omega)]
              have := goodFrom_next HI.out.good (hs.length - 1 - (j + 1)) (by rw [HML.out]; omega)
              rwa [show hs.length - 1 - (j + 1) + 1 = hs.length - 1 - j by rw [HML.out]; omega] at this
            have hlo : 0 ≤ (hs.reverse.getD j (0, 0)).1 ∧ (hs.reverse.getD j (0, 0)).1 ≤ 4611686018427387903 := by
              rw [rev_getD hs j (by rw [HML.out]; omega)]
              have := goodFrom_at HI.out.good (Int.le_refl _) (hs.length - 1 - j) (by rw [HML.out]; omega)
              omega
            generalize (hs.reverse.getD (j + 1) (0, 0)).2 = hi2 at *
            generalize (hs.reverse.getD j (0, 0)).1 = lo2 at *
            obtain ⟨hlo0, hlo1⟩ := hlo
            have w1_ : IntKind.i64.wrap (lo2 - 1) = lo2 - 1 := by rw [IntKind.wrap_i64]; omega
            have t1 : decide (lo2 - 1 ≤ hi2) = false := decide_eq_false (by omega)
            have w2_ : IntKind.i64.wrap ((j : Int) + 1 - 1) = (j : Int) := by rw [IntKind.wrap_i64]; omega
            have w3_ : IntKind.i64.wrap (((j + 1 : Nat) : Int) - 1) = (j : Int) := by rw [IntKind.wrap_i64]; omega
            have jb0 : (0 : Int) ≤ (j : Int) := by omega
            have jb1 : (j : Int) < (m : Int) := by omega
            have jb2 : (j : Int) + 1 < (m : Int) := by omega
            go_wp2_with fail
            go_region
            all_goals
              go_wp2_with fail
              go_roundw
              case rel => exact ⟨j + 1 + 1, by omega, by omega, by go_num, hbr.drew⟩
              case measure => simp [intOf]; omega
          · obtain rfl : m = j + 1 := by omega
            have hb := HB3.out.trans (hbr.mono HB3.out.size)
            have cT := (cell_keep hbr cTop)
            have hS := HS3.out.carry hbr
            have HV4 := Lib.hid (HV3.out.below hbr)
            go_wp2_with fail
            refine (spaceTells_any _).mono ?_
            rintro e' w4 ⟨rfl, hb4⟩
            have cT := (cell_keep hb4 cT)
            have hS := hS.carry hb4
            have FS := hS.facts5
            have HV5 := Lib.hid (HV4.out.below hb4)
            have hb := hb.trans (hb4.mono hb.size)
            have t1 : decide ((((j + 1 : Nat)) : Int) ≤ 6) = true := decide_eq_true (by omega)
            have t2 : decide ((j : Int) + 1 ≤ 6) = true := decide_eq_true (by omega)
            clear hb4 HC HO HV3 HS3 HV4
            go_wp2_with fail
            refine (HV5.out.check).mono ?_
            rintro e' w5 ⟨rfl, hb5⟩
            go_wp2_with fail
            go_ret
            exact ⟨by first | rfl | simp, hb.trans (hb5.mono hb.size)⟩
end Go.Proofs.Ytoonohhjcfceeaa
