/- The walk of the law SpaceLate. -/
import Derived.Test.YtoonohhjcfceeaaSpaceAck
import Derived.Test.YtoonohhjcfceeaaSpaceTell
namespace Go.Proofs.Ytoonohhjcfceeaa
open Go.ChangeShapes Go.WideShapes Go.ChangeAt Go.RowKit
set_option linter.unusedVariables false

def mkps (k : Nat) : List Pcl := (List.range k).map fun i : Nat => ((i : Int), (i : Int), (10 : Int))
theorem mkps_len (k : Nat) : (mkps k).length = k := by simp [mkps]
theorem mkps_succ (k : Nat) : mkps (k + 1) = mkps k ++ [((k : Int), (k : Int), 10)] := by simp [mkps, List.range_succ]
theorem mkps_heard (w k : Nat) : heardOf w w (mkps k) = if w < k then [((w : Int), (w : Int), 10)] else [] := by
  induction k with
  | zero => rfl
  | succ k ih =>
    have e : heardOf w w (mkps (k + 1)) = heardOf w w (mkps k) ++ heardOf w w [((k : Int), (k : Int), 10)] := by rw [mkps_succ]; simp [heardOf]
    rw [e, ih]
    rcases Nat.lt_trichotomy w k with h | h | h
    · rw [if_pos h, if_pos (by omega)]
      have : heardOf w w [((k : Int), (k : Int), 10)] = [] := by simp [heardOf, inR]; omega
      rw [this]; rfl
    · subst h
      rw [if_neg (by omega), if_pos (by omega)]
      simp [heardOf, inR]
    · rw [if_neg (by omega), if_neg (by omega)]
      have : heardOf w w [((k : Int), (k : Int), 10)] = [] := by simp [heardOf, inR]; omega
      rw [this]; rfl
theorem mkps_lost (w k : Nat) : (lostOf w (restOf w w (mkps k))).length = min k (w - 2) := by
  induction k with
  | zero => simp [mkps, lostOf, restOf]
  | succ k ih =>
    have e : lostOf w (restOf w w (mkps (k + 1))) = lostOf w (restOf w w (mkps k)) ++ lostOf w (restOf w w [((k : Int), (k : Int), 10)]) := by rw [mkps_succ]; simp [lostOf, restOf]
    rw [e, List.length_append, ih]
    by_cases h : k + 3 ≤ w
    · have : lostOf w (restOf w w [((k : Int), (k : Int), 10)]) = [((k : Int), (k : Int), 10)] := by
        have h1 : inR [((w : Int), (w : Int))] (k : Int) = false := by simp [inR]; omega
        have h2 : decide ((k : Int) ≤ (w : Int) - 3) = true := decide_eq_true (by omega)
        simp [lostOf, restOf, h1, h2]
      rw [this]; simp; omega
    · have : lostOf w (restOf w w [((k : Int), (k : Int), 10)]) = [] := by
        have h2 : decide ((k : Int) ≤ (w : Int) - 3) = false := decide_eq_false (by omega)
        unfold lostOf restOf
        rw [List.filter_eq_nil_iff]
        intro p hp
        have := (List.mem_filter.1 hp).1
        simp only [List.mem_singleton] at this
        subst this
        simp only [h2]
        decide
      rw [this]; simp; omega
theorem filter_not_len {α : Type} (l : List α) (f : α → Bool) : (l.filter f).length + (l.filter fun x => !f x).length = l.length := by
  induction l with
  | nil => rfl
  | cons x l ih =>
    rw [List.filter_cons, List.filter_cons]
    cases f x <;> simp <;> omega
theorem mkps_left (w k : Nat) (h : w < k) : (leftOf w (restOf w w (mkps k))).length = k - 1 - (w - 2) := by
  have h1 : (heardOf w w (mkps k)).length + (restOf w w (mkps k)).length = (mkps k).length := filter_not_len _ _
  have h2 : (lostOf w (restOf w w (mkps k))).length + (leftOf w (restOf w w (mkps k))).length = (restOf w w (mkps k)).length := filter_not_len _ _
  rw [mkps_heard, if_pos h, mkps_len] at h1
  rw [mkps_lost] at h2
  simp at h1
  omega
theorem left_num (w : Int) (ps : List Pcl) (p : Pcl) (h : p ∈ leftOf w ps) : w - 3 < p.1 := by
  have := (List.mem_filter.1 h).2
  simpa using this

theorem heap5 {w : World} {g q : Nat} (h : q ≠ g) (v0 v1 v2 v3 v4 : Value) : (((((w.setCell ⟨g, 0, none⟩ v0).setCell ⟨g, 1, none⟩ v1).setCell ⟨g, 2, none⟩ v2).setCell ⟨g, 3, none⟩ v3).setCell ⟨g, 4, none⟩ v4).heap[q]? = w.heap[q]? := by
  rw [Below.heap_setCell _ ⟨g, 4, none⟩ _ _ h, Below.heap_setCell _ ⟨g, 3, none⟩ _ _ h, Below.heap_setCell _ ⟨g, 2, none⟩ _ _ h, Below.heap_setCell _ ⟨g, 1, none⟩ _ _ h, Below.heap_setCell _ ⟨g, 0, none⟩ _ _ h]

set_option maxRecDepth 100000 in
set_option maxHeartbeats 8000000 in
theorem spaceLate_walk (many which : Int) (w : World) (hmn : (Lit.int .i64 many).wf = true) (hwh : (Lit.int .i64 which).wf = true) :
    Calls Try.prog 3 #[.int .i64 many, .int .i64 which] w fun e w' => e = .returned (.bool true) ∧ Below w.heap.size w w' := by
  have rm := i64_bounds' hmn
  have rw_ := i64_bounds' hwh
  clear hmn hwh
  obtain ⟨y, HY, y0, y1⟩ := mod_ex many 20 (by decide)
  obtain ⟨k, hk⟩ : ∃ k : Nat, 2 + y = (k : Int) := ⟨(2 + y).toNat, by omega⟩
  have hk2 : 2 ≤ k := by omega
  have hk22 : k < 22 := by omega
  have hkw : IntKind.i64.wrap (2 + y) = (k : Int) := by rw [IntKind.wrap_i64]; omega
  obtain ⟨v', HW, v0, v1⟩ := mod_ex which (k : Int) (by omega)
  obtain ⟨v, rfl⟩ : ∃ v : Nat, v' = (v : Int) := ⟨v'.toNat, by omega⟩
  have HK := Lib.hid hk
  go_enter Try.func3, Try.ntmps3
  go_wp2_with fail
  refine (spBegin_ok _).mono ?_
  rintro e w1 ⟨rfl, hb1⟩
  go_upto_region 2 with (fail)
  refine wp_world (fun w' => Blk w' w1.heap.size 26 #[.int .i64 0, .slice none 0 0, .int .i64 (-1), .slice none 0 0, .slice none 0 0] ∧ Below w.heap.size w w') ⟨Blk.new _ _ _, hb1.alloc hb1.size _⟩ ?_
  have hz1 := hb1.size
  clear hb1
  generalize w1.heap.size = g at *
  rintro w2 ⟨hS, hb⟩
  have HS := Lib.hid hS
  have HB := Lib.hid hb
  clear hS hb
  go_wp2_with fail
  refine (picked_at many 20 y rm.1 rm.2 (by decide) (by decide) HY _).mono ?_
  rintro e w' ⟨rfl, rfl⟩
  go_wp2_with fail
  go_loopw [21] (fun iv wr => ∃ (i : Nat) (A : Option Addr) (c : Nat) (B : Option Addr) (d : Nat) (C : Option Addr) (e : Nat), i ≤ k ∧ iv = .int .i64 (i : Int) ∧ Blk wr g 26 #[.int .i64 (i : Int), .slice A i c, .int .i64 (-1), .slice B 0 d, .slice C 0 e] ∧ SpV wr (i : Int) A i c (-1) B 0 d C 0 e (mkps i) [] [] ∧ Below w.heap.size w wr) (fun iv _ => k - (intOf iv).toNat)
  case atStart => exact ⟨0, none, 0, none, 0, none, 0, Nat.zero_le _, rfl, HS.out, by simpa [mkps] using SpV.none w2, HB.out⟩
  case round =>
    obtain ⟨i, A, c, B, d, C, e, hi, rfl, hS, hV, hb⟩ := hrel
    clear HS HB
    have FS := hS.facts5
    have hgr := hS.lt
    have HS := Lib.hid hS
    have HV := Lib.hid hV
    have HB := Lib.hid hb
    clear hS hV hb
    by_cases hlt : i < k
    · have hi0 : (0 : Int) ≤ (i : Int) := by omega
      go_wp2_with fail
      refine (spSend_ok (i : Int) A i c (-1) B 0 d C 0 e (mkps i) [] [] (i : Int) 10 ⟨by omega, by omega⟩ (by decide) (by omega) (by omega) _ HV.out).mono ?_
      rintro e' w3 ⟨A', c', B', d', C', k', rfl, hV, hb3⟩
      have hS := HS.out.carry hb3
      have hb := HB.out.trans (hb3.mono HB.out.size)
      have hsz := hb3.size
      have HV3 := Lib.hid hV
      clear FS HS HB hV hb3
      have FS := hS.facts5
      go_upto_region 9 with (fail)
      refine wp_world (fun w' => Blk w' w3.heap.size 26 #[.int .i64 ((i : Int) + 1), .slice A' (i + 1) c', .int .i64 (-1), .slice B' 0 d', .slice C' 0 k'] ∧ Blk w' g 26 #[.int .i64 (i : Int), .slice A i c, .int .i64 (-1), .slice B 0 d, .slice C 0 e] ∧ (∀ q, q < w3.heap.size → w'.heap[q]? = w3.heap[q]?) ∧ Below w.heap.size w w') ⟨Blk.new _ _ _, hS.alloc _, fun q hq => Below.heap_alloc _ _ _ hq, hb.alloc hb.size _⟩ ?_
      clear FS hS hb
      rintro w4 ⟨h8, hS, hAg, hb⟩
      have F8 := h8.facts5
      have FS := hS.facts5
      have hgw4 := hS.lt
      have hne : w3.heap.size ≠ g := by omega
      go_wp2_with fail
      go_roundw
      case rel =>
        refine ⟨i + 1, A', c', B', d', C', k', by omega, by go_num, ?_, ?_, ?_⟩
        · refine Blk.as (((((hS.set_ 0 _).set_ 1 _).set_ 2 _).set_ 3 _).set_ 4 _) ?_
          simp
        · rw [mkps_succ, show ((i + 1 : Nat) : Int) = (i : Int) + 1 from rfl]
          refine HV3.out _ (fun q q1 q2 => ?_)
          refine Eq.trans ?_ (hAg q q2)
          exact heap5 (show q ≠ g by omega) _ _ _ _ _
        · (repeat (first | with_reducible exact hb | with_reducible refine Below.drew ?_ | (with_reducible refine Below.set4 ?_ ?side _ _ _ _; case side => (first | omega | (simp; omega) | (simp; done))) | (with_reducible refine Below.setCell ?_ ?side _; case side => (first | omega | (simp; omega) | (simp; done))) | (with_reducible refine Below.alloc ?_ ?side _; case side => (first | omega | (simp; omega) | (simp; done)))))
      case measure => simp [intOf]; omega
    · obtain rfl : k = i := by omega
      go_wp2_with fail
      refine (picked_at which (k : Int) v rw_.1 rw_.2 (by omega) (by omega) HW _).mono ?_
      rintro e' w' ⟨rfl, rfl⟩
      have hv0 : (0 : Int) ≤ (v : Int) := by omega
      have hr : RdX rcells 2 (wr.alloc (.cells #[.int .i64 (v : Int), .int .i64 (v : Int)] 35)) (some ⟨wr.heap.size, 0, none⟩) [((v : Int), (v : Int))] := RdX.one _ _ ((v : Int), (v : Int)) _ rfl rfl
      have HR := Lib.hid hr
      clear hr
      go_wp2_with fail
      refine (spAcked_one (k : Int) A k c (-1) B 0 d C 0 e (mkps k) [] [] (v : Int) (v : Int) (by omega) (Int.le_refl _) (by omega) (fun x hx => absurd hx List.not_mem_nil) wr.heap.size 0 1 (Nat.le_refl _) (by decide) _ (HV.out.below ((Below.refl _ _).alloc (Nat.le_refl _) _)) HR.out).mono ?_
      rintro e' w3 hA
      unfold AckOut at hA
      rw [if_pos (show (-1 : Int) < (v : Int) by omega)] at hA
      obtain ⟨A', n', c', B', d', C', k', H, nh, ch, T, nt, ct, rfl, hKeep, hhl, hhc, hhm, htl, htc, htm, hb3⟩ := hA
      obtain ⟨hV3, hRH, _⟩ := hKeep.here
      have hvk : v < k := by omega
      rw [mkps_heard, if_pos hvk] at hhl hRH
      rw [mkps_lost] at htl
      obtain ⟨u, hu⟩ : ∃ u, u = v - 2 := ⟨_, rfl⟩
      obtain rfl : nt = u := by omega
      obtain rfl : nh = 1 := by simpa using hhl.symm
      have hn' := hV3.hn
      rw [mkps_left v k hvk] at hn'
      have hbz := HB.out.alloc HB.out.size (.cells #[.int .i64 (v : Int), .int .i64 (v : Int)] 35)
      have hb := hbz.trans (hb3.mono hbz.size)
      have HLN := Lib.hid (fun p hp => left_num (v : Int) (restOf v v (mkps k)) p hp)
      have HRL := Lib.hid hV3.ra
      have HLL := Lib.hid hV3.hn
      have HRH := Lib.hid hRH
      have hm1 : (if (0 : Int) < (v : Int) - 2 then (v : Int) - 2 else 0) = (nt : Int) := by split <;> omega
      have hm2 : (if (v : Int) - 2 < (0 : Int) then (0 : Int) else (v : Int) - 2) = (nt : Int) := by split <;> omega
      have hm3 : IntKind.i64.wrap ((v : Int) - 2) = (v : Int) - 2 := by rw [IntKind.wrap_i64]; omega
      have hm4 : IntKind.i64.wrap ((k : Int) - 1) = (k : Int) - 1 := by rw [IntKind.wrap_i64]; omega
      have hm5 : (k : Int) - 1 - (nt : Int) = (n' : Int) := by omega
      have hm6 : IntKind.i64.wrap ((n' : Int)) = (n' : Int) := by rw [IntKind.wrap_i64]; omega
      have hm7 : IntKind.i64.wrap ((k : Int) - 1 - (nt : Int)) = (n' : Int) := by rw [IntKind.wrap_i64]; omega
      have hm8 : IntKind.i64.wrap ((v : Int) - 3) = (v : Int) - 3 := by rw [IntKind.wrap_i64]; omega
      have h0p : 0 < n' := by omega
      clear hV3 hRH hKeep hhl htl hb3 hbz HV HR HB FS HS hu hn'
      go_upto_region 13 with (fail)
      refine wp_world (fun w' => Blk w' w3.heap.size 26 #[.int .i64 (k : Int), .slice A' n' c', .int .i64 (v : Int), .slice B' 0 d', .slice C' 0 k'] ∧ RdX pcells 4 w' A' (leftOf v (restOf v v (mkps k))) ∧ RdX pcells 4 w' H [((v : Int), (v : Int), (10 : Int))] ∧ Below w.heap.size w w') ⟨Blk.new _ _ _, RdX.alloc HRL.out _, RdX.alloc HRH.out _, hb.alloc hb.size _⟩ ?_
      clear HRL HRH hb
      rintro w4 ⟨hS, hRL, hRH, hb⟩
      have HS := Lib.hid hS
      have HRL := Lib.hid hRL
      have HRH := Lib.hid hRH
      have HB := Lib.hid hb
      clear hS hRL hRH hb
      go_wp2_with fail
      refine (spaceTells_any _).mono ?_
      rintro e' w5 ⟨rfl, hb5⟩
      have hS := HS.out.carry hb5
      have FS := hS.facts5
      obtain ⟨bH, oH, rfl, hcell⟩ := (RdX.below HRH.out hb5).pcl (by simp)
      have cH := (hcell 0 (by simp)).1
      simp only [Nat.zero_mul, Nat.add_zero, List.getD_cons_zero] at cH
      have hB := HB.out.trans (hb5.mono HB.out.size)
      have HRL5 := Lib.hid (RdX.below HRL.out hb5)
      clear hcell hS HS HRL HRH HB hb5
      have hl0 : 0 < (leftOf v (restOf v v (mkps k))).length := by rw [HLL.out]; omega
      obtain ⟨bL, oL, rfl, hcell⟩ := HRL5.out.pcl hl0
      have cL := (hcell 0 hl0).1
      have hnum := HLN.out _ (getD_in (leftOf v (restOf v v (mkps k))) 0 pcln hl0)
      simp only [Nat.zero_mul, Nat.add_zero] at cL
      generalize ((leftOf v (restOf v v (mkps k))).getD 0 pcln).1 = x at *
      have h0b : ((n' : Int) == 0) = false := by rw [beq_eq_false_iff_ne]; omega
      have h0i : (0 : Int) < (n' : Int) := by omega
      have hxb : decide ((v : Int) - 3 < x) = true := decide_eq_true hnum
      clear hcell HRL5 HLN HLL hl0
      go_wp2_with fail
      all_goals
        go_ret
        exact ⟨by first | rfl | simp, hB⟩
end Go.Proofs.Ytoonohhjcfceeaa
