/- The walk of the law FieldsWait: who has not heard what was told ahead waits, or can do without it; and what is told ahead may come in any parts. -/
import Derived.Test.YtdmonacekjcedaaFTell
import Derived.Test.YtdmonacekjcedaaTableOfWalk
import Derived.Test.YtdmonacekjcedaaFieldsOfWalk
import Derived.Test.YtdmonacekjcedaaEncWalk
import Derived.Test.YtdmonacekjcedaaApplyWalk
import Derived.Test.YtdmonacekjcedaaTabKeep
import Derived.Test.YtdmonacekjcedaaPickAt
import Derived.Test.YtdmonacekjcedaaRawOpen
namespace Go.Proofs.Ytdmonacekjcedaa
open Go.ChangeShapes Go.WideShapes Go.ChangeAt Go.RowKit
set_option linter.unusedVariables false

theorem BV.front {w : World} {A : Option Addr} {n c k : Nat} {bs : List UInt8} (h : BV w A n c bs) (hk : k ≤ n) : BV w A k c (bs.take k) :=
  ⟨by rw [List.length_take, h.hn]; omega, by have := h.hnc; omega, h.hcm, h.rd.front (by rw [h.hn]; exact hk)⟩
theorem BV.cut {w : World} {A : Option Addr} {n c k : Nat} {bs : List UInt8} (h : BV w A n c bs) (hk : k ≤ n) : BV w (if c = k then A else A.map (·.add k)) (n - k) (c - k) (bs.drop k) :=
  ⟨by rw [List.length_drop, h.hn], by have := h.hnc; omega, by have := h.hcm; omega, h.rd.cut (by rw [h.hn]; exact hk) (by rw [h.hn]; exact h.hnc)⟩

set_option maxRecDepth 100000 in
set_option maxHeartbeats 8000000 in
theorem fieldsWait_walk (room : Int) (RA : Option Addr) (len cap : Nat) (rs : List RawD) (MA : Option Addr) (mlen mcap : Nat) (ms : List RawD) (ct : Int) (w : World) (hrm : (Lit.int .i64 room).wf = true) (h : IsRaws w RA len cap rs) (hm : IsRaws w MA mlen mcap ms) (hct : (Lit.int .i64 ct).wf = true) :
    Calls Try.prog 6 #[.int .i64 room, .slice RA len cap, .slice MA mlen mcap, .int .i64 ct] w fun e w' => e = .returned (.bool true) ∧ Below w.heap.size w w' := by
  obtain ⟨rr0, rr1⟩ := i64_bounds' hrm
  obtain ⟨ct0, ct1⟩ := i64_bounds' hct
  have HRS := Lib.hid h
  have HMS := Lib.hid hm
  clear hrm h hm hct
  go_enter Try.func6, Try.ntmps6
  go_wp2_with fail
  refine (tableOf_any room RA len cap rs _ rr0 rr1 HRS.out).mono ?_
  rintro e w5 ⟨r, A5, n5, c5, B5, m5, d5, al, R, rfl, hb5, hr40, hr160, hRn, hnc5, hcm5, halm, hmd, hdm, hm12, hTab, hrR, hral⟩
  have HB5 := Lib.hid hb5
  have hlen := hTab.len
  have HTV := Lib.hid (show TabV w5 (r : Int) (m5 : Int) A5 n5 c5 R from ⟨hRn, hnc5, hcm5, by omega, by omega, by omega, by omega, hTab.mem, by have := hTab.2.1; omega, hrR⟩)
  clear hb5 hrR hral hTab hRn hlen halm
  go_upto_region 2 with (fail)
  obtain ⟨gA, hgA⟩ : ∃ q, w5.heap.size = q := ⟨_, rfl⟩
  refine wp_world (fun w' => TabB w' gA (r : Int) (m5 : Int) A5 n5 c5 R ∧ Below w.heap.size w w') ⟨⟨Blk.newQ hgA, HTV.out.below ((Below.refl _ _).alloc (Nat.le_refl _) _)⟩, HB5.out.alloc HB5.out.size _⟩ ?_
  try rw [hgA]
  clear hgA HTV HB5
  rintro w6 ⟨hT6, hb6⟩
  have HT6 := Lib.hid hT6
  have HB6 := Lib.hid hb6
  clear hT6 hb6
  go_wp2_with fail
  refine (fieldsOf_any MA mlen mcap ms _ (HMS.out.keep HB6.out)).mono ?_
  rintro e w7 ⟨L, m, cL, fs, rfl, hfn, hm8, hmc, hcL, hfo, hrf, hb7⟩
  have HT7 := Lib.hid (HT6.out.below hb7)
  have HB7 := Lib.hid (HB6.out.trans (hb7.mono HB6.out.size))
  have HFN := Lib.hid hfn
  have HFO := Lib.hid hfo
  have HRF := Lib.hid hrf
  have FT := HT7.out.blk.facts3
  clear hfn hfo hrf hb7 HT6 HB6
  go_wp2_with fail
  refine (fEncode_any _ r (m5 : Int) A5 n5 c5 R HT7.out.tab true L m cL fs HFN.out hmc hcL HRF.out HFO.out hm8).mono ?_
  rintro e w8 ⟨A, n, c, A1, n1, c1, A2, n2, c2, told, need, ps, rfl, hQ, hV8, hB1, hB2, hb8⟩
  have HT8 := Lib.hid (HT7.out.below hb8)
  have HB8 := Lib.hid (HB7.out.trans (hb8.mono HB7.out.size))
  have HRF8 := Lib.hid (RdX.below HRF.out hb8)
  have HQ := Lib.hid hQ
  have HU8 := Lib.hid hV8
  have HB1 := Lib.hid hB1
  have HB2 := Lib.hid hB2
  clear HT7 HB7 HRF hb8 hV8 hB1 hB2 FT hQ
  go_upto_region 4 with (fail)
  obtain ⟨gB, hgB⟩ : ∃ q, w8.heap.size = q := ⟨_, rfl⟩
  have hgAB : gA < gB := by have := HT8.out.blk.lt; omega
  obtain ⟨T, hT⟩ : ∃ T, told.length = T := ⟨_, rfl⟩
  rw [hT] at HU8
  refine wp_world (fun w' => TabB w' gB (r : Int) ((m5 : Int) + (T : Int)) A n c (R ++ told) ∧ TabB w' gA (r : Int) (m5 : Int) A5 n5 c5 R ∧ RdX fcells 2 w' L fs ∧ BV w' A1 n1 c1 (tellB told) ∧ BV w' A2 n2 c2 (secB need ps) ∧ Below w.heap.size w w')
    ⟨⟨by rw [← hT]; exact Blk.newQ hgB, HU8.out.below ((Below.refl _ _).alloc (Nat.le_refl _) _)⟩, HT8.out.below ((Below.refl _ _).alloc (Nat.le_refl _) _), RdX.below HRF8.out ((Below.refl _ _).alloc (Nat.le_refl _) _), HB1.out.below ((Below.refl _ _).alloc (Nat.le_refl _) _), HB2.out.below ((Below.refl _ _).alloc (Nat.le_refl _) _), HB8.out.alloc HB8.out.size _⟩ ?_
  try rw [hgB]
  clear hgB HT8 HRF8 HB1 HB2 HB8 HU8
  have HTT := Lib.hid hT
  clear hT
  rintro w9 ⟨hU9, hT9, hRF9, hB19, hB29, hb9⟩
  have HU9 := Lib.hid hU9
  have HT9 := Lib.hid hT9
  have HRF9 := Lib.hid hRF9
  have HB19 := Lib.hid hB19
  have HB29 := Lib.hid hB29
  have HB9 := Lib.hid hb9
  clear hU9 hT9 hRF9 hB19 hB29 hb9
  have hps : ps.length ≤ 8 := by
    have h1 : ps.length = fs.length := by rw [← HQ.out.fst, List.length_map]
    have h2 := HFN.out
    omega
  have hdec : ∃ (out : List Fld) (E : Int), fdecR (m5 : Int) R (secB need ps) = (out, E) ∧ ((T = 0 ∧ out = fs ∧ E = 0) ∨ (0 < T ∧ out = [] ∧ E = 14)) := by
    by_cases h0 : told = []
    · refine ⟨fs, 0, ?_, .inl ⟨by rw [← HTT.out, h0]; rfl, rfl, rfl⟩⟩
      have hok := HQ.out.ok
      subst h0
      have h := fdec_back (m5 : Int) R need (HQ.out.no rfl) (by omega) ps hps (by simpa using hok)
      rw [HQ.out.fst] at h
      exact h
    · refine ⟨[], 14, fdec_wait (m5 : Int) R need (HQ.out.yes h0) (by have h1 := HQ.out.nd; have h2 := HQ.out.fit; omega) ps, .inr ⟨?_, rfl, rfl⟩⟩
      rw [← HTT.out]
      exact List.length_pos_iff.2 h0
  obtain ⟨out, E, hdec, hoE⟩ := hdec
  have HDEC := Lib.hid hdec
  have HOE := Lib.hid hoE
  have FT := HT9.out.blk.facts3
  clear hdec hoE hps
  go_wp2_with fail
  refine (fDecode_any _ (r : Int) (m5 : Int) A5 n5 c5 R HT9.out.tab A2 _ n2 c2 HB29.out.hn HB29.out.hnc HB29.out.hcm HB29.out.rd out E HDEC.out).mono ?_
  rintro e w10 ⟨B7, m7, d7, rfl, hm7, hmd7, hdm7, hr7, hb10⟩
  have HU10 := Lib.hid (HU9.out.below hb10)
  have HT10 := Lib.hid (HT9.out.below hb10)
  have HRF10 := Lib.hid (RdX.below HRF9.out hb10)
  have HB110 := Lib.hid (HB19.out.below hb10)
  have HB10 := Lib.hid (HB9.out.trans (hb10.mono HB9.out.size))
  have HR7 := Lib.hid hr7
  have HM7 := Lib.hid hm7
  clear HU9 HT9 HRF9 HB19 HB29 HB9 FT hr7 hm7 hb10
  have hn1 := HB110.out.hn
  have hnc1 := HB110.out.hnc
  have hcm1 := HB110.out.hcm
  have htl : n1 ≤ 800 := by
    have h1 := tellB_le told HQ.out.fok
    have h2 := HQ.out.tl
    have h3 := HFN.out
    omega
  have HN1 := Lib.hid hn1
  clear hn1
  obtain ⟨k_, HJ, j0, j1⟩ := mod_ex ct ((n1 : Int) + 1) (by omega)
  obtain ⟨k, rfl⟩ := Int.eq_ofNat_of_zero_le j0
  have hk1 : k ≤ n1 := by omega
  go_wp2_with fail
  refine (picked_at ct ((n1 : Int) + 1) (k : Int) ct0 ct1 (by omega) (by omega) HJ _).mono ?_
  rintro e w' ⟨rfl, rfl⟩
  go_upto_region 6 with (fail)
  obtain ⟨q, hq⟩ : ∃ q, fitsN told k = q := ⟨_, rfl⟩
  have hql := fitsN_le told k
  rw [hq] at hql
  obtain ⟨u, hu⟩ : ∃ u, (tellB (told.take q)).length = u := ⟨_, rfl⟩
  rw [hu] at hql
  have hqT : q ≤ T := by have := HTT.out; omega
  have huk : u ≤ k := hql.2
  have HQQ := Lib.hid hq
  have HUU := Lib.hid hu
  clear hq hu hql
  have HAP1 : Hid (∀ W, Below w10.heap.size w10 W → Calls Try.prog 19 #[.agg #[.int .i64 (r : Int), .int .i64 (m5 : Int), .slice A5 n5 c5], .slice A1 k c1] W fun e w' => ∃ (A3 : Option Addr) (n3 c3 : Nat), e = .returned (.tuple #[.agg #[.int .i64 (r : Int), .int .i64 ((m5 : Int) + (q : Int)), .slice A3 n3 c3], .int .i64 (u : Int), .int .i64 0]) ∧ TabV w' (r : Int) ((m5 : Int) + (q : Int)) A3 n3 c3 (R ++ told.take q) ∧ Below W.heap.size W w') := Lib.hid (fun W hW => by
    refine (fApply_any W r (m5 : Int) A5 n5 c5 R (HT10.out.tab.below hW) told HQ.out.fok HQ.out.sz HQ.out.fit k (by rw [HN1.out]; exact hk1) A1 k c1 ((HB110.out.below hW).front hk1) q HQQ.out).mono ?_
    rintro e w' ⟨A3, n3, c3, he, hV, hb⟩
    rw [HUU.out] at he
    exact ⟨A3, n3, c3, he, hV, hb⟩)
  go_cut [20, 21, 22] (fun s20 s21 s22 wx => ∃ (g : Nat) (A3 : Option Addr) (n3 c3 : Nat), s20 = .pointer (some ⟨g, 0, none⟩) ∧ s21 = .int .i64 (u : Int) ∧ s22 = .int .i64 0 ∧ w10.heap.size ≤ g ∧ TabB wx g (r : Int) ((m5 : Int) + (q : Int)) A3 n3 c3 (R ++ told.take q) ∧ Below w10.heap.size w10 wx)
  case first =>
    have FT := HT10.out.blk.facts3
    have hgl : gA < w10.heap.size := HT10.out.blk.lt
    have n0 := World.new_ne w10 _ FT.2.1
    have n1' : ¬ w10.heap.size = gA := by omega
    have n2' : ¬ gA = w10.heap.size := by omega
    have hk0 : (0 : Int) ≤ (k : Int) := by omega
    have hk2 : (k : Int) ≤ (c1 : Int) := by omega
    have hk3 : k ≤ c1 := by omega
    go_region_held3 (fun w' => w'.cell? ⟨gA, 0, none⟩ = some (.int .i64 (r : Int)) ∧ w'.cell? ⟨gA, 1, none⟩ = some (.int .i64 (m5 : Int)) ∧ w'.cell? ⟨gA, 2, none⟩ = some (.slice A5 n5 c5)) (go_keep)
      (first
        | (go_at_call 19; (with_reducible refine (HAP1.out _ (by (repeat (first | with_reducible exact (Below.refl _ _) | with_reducible refine Below.drew ?_ | (with_reducible refine Below.set4 ?_ ?side _ _ _ _; case side => (first | omega | (simp; omega) | (simp; done))) | (with_reducible refine Below.setCell ?_ ?side _; case side => (first | omega | (simp; omega) | (simp; done))) | (with_reducible refine Below.alloc ?_ ?side _; case side => (first | omega | (simp; omega) | (simp; done))))))).mono ?_); rintro e wq ⟨A3, n3, c3, rfl, hV3, hbq⟩; have hcq := cell_under hbq; have hfq := frozen_under hbq; have nq : ¬ wq.heap.size = gA := (by have := hbq.size; first | omega | (simp at this; omega)); have k0 := hcq gA 0 (by first | omega | (simp; omega)); have k1 := hcq gA 1 (by first | omega | (simp; omega)); have k2 := hcq gA 2 (by first | omega | (simp; omega))))
    all_goals
      go_wp2_with fail
      go_meet
      have hsq : w10.heap.size ≤ wq.heap.size := by have := hbq.size; first | omega | (simp at this; omega)
      refine ⟨_, A3, n3, c3, rfl, rfl, rfl, ?qg, ?qt, ?qb⟩
      case qg => have := hbq.size; first | exact Nat.le_refl _ | omega | (simp at this; omega)
      case qt =>
        first
          | with_reducible exact ⟨Blk.new _ _ _, hV3.below ((Below.refl _ _).alloc (Nat.le_refl _) _)⟩
          | (refine TabB.store hV3 (a := 0) (b := 0) (X := none) (x := 0) (y := 0) ?_
             refine Blk.carry ?_ hbq
             repeat (first | with_reducible refine Blk.drew ?_ | (with_reducible refine Blk.newQ ?side; case side => (first | rfl | (simp; done))) | with_reducible apply Blk.alloc))
      case qb => (repeat (first | with_reducible exact (Below.refl _ _) | with_reducible refine Below.drew ?_ | (with_reducible refine Below.set4 ?_ ?side _ _ _ _; case side => (first | omega | (simp; omega) | (simp; done))) | (with_reducible refine Below.setCell ?_ ?side _; case side => (first | omega | (simp; omega) | (simp; done))) | (with_reducible refine Below.alloc ?_ ?side _; case side => (first | omega | (simp; omega) | (simp; done))) | (with_reducible refine Below.trans ?_ (Below.mono hbq ?side); case side => (first | omega | (simp; omega) | (simp; done)))))
  case rest =>
    obtain ⟨gV, A3, n3, c3, rfl, rfl, rfl, hgV, hTB, hbx⟩ := hcut
    refine (show ∀ (a : Act) (w : World), Code.wp _ _ _ a w → _ from by assumption) _ _ ?_
    refine wp_world (fun w' => TabB w' gV (r : Int) ((m5 : Int) + (q : Int)) A3 n3 c3 (R ++ told.take q) ∧ Below w10.heap.size w10 w') ⟨hTB, hbx⟩ ?_
    clear hTB hbx
    rintro w11 ⟨hV11, hb11⟩
    have HV11 := Lib.hid hV11
    have HU11 := Lib.hid (HU10.out.below hb11)
    have HT11 := Lib.hid (HT10.out.below hb11)
    have HRF11 := Lib.hid (RdX.below HRF10.out hb11)
    have HB111 := Lib.hid (HB110.out.below hb11)
    have HB11 := Lib.hid (HB10.out.trans (hb11.mono HB10.out.size))
    have HR11 := Lib.hid (RdX.below HR7.out hb11)
    have hUl : gB < w10.heap.size := HU10.out.blk.lt
    clear hV11 hb11 HU10 HT10 HRF10 HB110 HB10 HR7 HAP1
    obtain ⟨v, hv⟩ : ∃ v, n1 - u = v := ⟨_, rfl⟩
    have huv : u + v = n1 := by omega
    obtain ⟨D, hD⟩ : ∃ D, (if c1 = u then A1 else Option.map (fun x => x.add u) A1) = D := ⟨_, rfl⟩
    have HBD := Lib.hid (show BV w11 D v (c1 - u) (tellB (told.drop q)) from by
      have h := HB111.out.cut (k := u) (by omega)
      rw [hv] at h
      rw [← HUU.out, tellB_rest, HUU.out] at h
      rw [← hD]
      exact h)
    have hdl : ((told.drop q).length : Int) = (T : Int) - q := by rw [List.length_drop, HTT.out]; omega
    have HAP2 : Hid (∀ W, Below w11.heap.size w11 W → Calls Try.prog 19 #[.agg #[.int .i64 (r : Int), .int .i64 ((m5 : Int) + (q : Int)), .slice A3 n3 c3], .slice D v (c1 - u)] W fun e w' => ∃ (A4 : Option Addr) (n4 c4 : Nat), e = .returned (.tuple #[.agg #[.int .i64 (r : Int), .int .i64 ((m5 : Int) + (T : Int)), .slice A4 n4 c4], .int .i64 (v : Int), .int .i64 0]) ∧ TabV w' (r : Int) ((m5 : Int) + (T : Int)) A4 n4 c4 (R ++ told) ∧ Below W.heap.size W w') := Lib.hid (fun W hW => by
      have hB := HBD.out.below hW
      have hBn := hB.hn
      have hall : R ++ told.take q ++ told.drop q = R ++ told := by rw [List.append_assoc, List.take_append_drop]
      refine (fApply_any W r ((m5 : Int) + (q : Int)) A3 n3 c3 (R ++ told.take q) (HV11.out.tab.below hW) (told.drop q) (fun f hf => HQ.out.fok f (List.mem_of_mem_drop hf)) (by rw [hall]; exact HQ.out.sz) (by rw [hdl]; have := HQ.out.fit; rw [HTT.out] at this; omega) v (by omega) D v (c1 - u) (by rw [List.take_of_length_le (by omega)]; exact hB) (told.drop q).length (by rw [← hBn]; exact fitsN_whole _)).mono ?_
      rintro e w' ⟨A4, n4, c4, he, hV, hb⟩
      rw [List.take_length] at he hV
      rw [hall] at hV
      have e1 : (m5 : Int) + (q : Int) + ((told.drop q).length : Int) = (m5 : Int) + (T : Int) := by rw [hdl]; omega
      rw [e1] at he hV
      rw [hBn] at he
      exact ⟨A4, n4, c4, he, hV, hb⟩)
    have hd0 : decide ((k : Int) < (u : Int)) = false := decide_eq_false (by omega)
    have hd0' : decide (k < u) = false := decide_eq_false (by omega)
    clear HBD hdl
    go_upto_region 9 with (fail)
    clear hd0 hd0'
    go_cut [23, 24, 25] (fun s23 s24 s25 wx => ∃ (g : Nat) (A4 : Option Addr) (n4 c4 : Nat), s23 = .pointer (some ⟨g, 0, none⟩) ∧ s24 = .int .i64 (v : Int) ∧ s25 = .int .i64 0 ∧ w11.heap.size ≤ g ∧ TabB wx g (r : Int) ((m5 : Int) + (T : Int)) A4 n4 c4 (R ++ told) ∧ Below w11.heap.size w11 wx)
    case first =>
      have FT := HV11.out.blk.facts3
      have hgl : gV < w11.heap.size := HV11.out.blk.lt
      have n0 := World.new_ne w11 _ FT.2.1
      have n1' : ¬ w11.heap.size = gV := by omega
      have n2' : ¬ gV = w11.heap.size := by omega
      have hk0 : (0 : Int) ≤ (u : Int) := by omega
      have hk2 : (u : Int) ≤ (n1 : Int) := by omega
      have hk3 : u ≤ n1 := by omega
      have hk4 : (u : Int) ≤ (c1 : Int) := by omega
      have hk5 : u ≤ c1 := by omega
      clear huv
      go_region_held3 (fun w' => w'.cell? ⟨gV, 0, none⟩ = some (.int .i64 (r : Int)) ∧ w'.cell? ⟨gV, 1, none⟩ = some (.int .i64 ((m5 : Int) + (q : Int))) ∧ w'.cell? ⟨gV, 2, none⟩ = some (.slice A3 n3 c3)) (go_keep)
        (first
          | (go_at_call 19; (with_reducible refine (HAP2.out _ (by (repeat (first | with_reducible exact (Below.refl _ _) | with_reducible refine Below.drew ?_ | (with_reducible refine Below.set4 ?_ ?side _ _ _ _; case side => (first | omega | (simp; omega) | (simp; done))) | (with_reducible refine Below.setCell ?_ ?side _; case side => (first | omega | (simp; omega) | (simp; done))) | (with_reducible refine Below.alloc ?_ ?side _; case side => (first | omega | (simp; omega) | (simp; done))))))).mono ?_); rintro e wq ⟨A4, n4, c4, rfl, hV3, hbq⟩; have hcq := cell_under hbq; have hfq := frozen_under hbq; have nq : ¬ wq.heap.size = gV := (by have := hbq.size; first | omega | (simp at this; omega)); have k0 := hcq gV 0 (by first | omega | (simp; omega)); have k1 := hcq gV 1 (by first | omega | (simp; omega)); have k2 := hcq gV 2 (by first | omega | (simp; omega))))
      all_goals
        go_wp2_with fail
        go_meet
        have hsq : w11.heap.size ≤ wq.heap.size := by have := hbq.size; first | omega | (simp at this; omega)
        refine ⟨_, A4, n4, c4, rfl, rfl, rfl, ?qg, ?qt, ?qb⟩
        case qg => have := hbq.size; first | exact Nat.le_refl _ | omega | (simp at this; omega)
        case qt =>
          first
            | with_reducible exact ⟨Blk.new _ _ _, hV3.below ((Below.refl _ _).alloc (Nat.le_refl _) _)⟩
            | (refine TabB.store hV3 (a := 0) (b := 0) (X := none) (x := 0) (y := 0) ?_
               refine Blk.carry ?_ hbq
               repeat (first | with_reducible refine Blk.drew ?_ | (with_reducible refine Blk.newQ ?side; case side => (first | rfl | (simp; done))) | with_reducible apply Blk.alloc))
        case qb => (repeat (first | with_reducible exact (Below.refl _ _) | with_reducible refine Below.drew ?_ | (with_reducible refine Below.set4 ?_ ?side _ _ _ _; case side => (first | omega | (simp; omega) | (simp; done))) | (with_reducible refine Below.setCell ?_ ?side _; case side => (first | omega | (simp; omega) | (simp; done))) | (with_reducible refine Below.alloc ?_ ?side _; case side => (first | omega | (simp; omega) | (simp; done))) | (with_reducible refine Below.trans ?_ (Below.mono hbq ?side); case side => (first | omega | (simp; omega) | (simp; done)))))
    case rest =>
      obtain ⟨gX, A4, n4, c4, rfl, rfl, rfl, hgX, hTB, hbx⟩ := hcut
      refine (show ∀ (a : Act) (w : World), Code.wp _ _ _ a w → _ from by assumption) _ _ ?_
      refine wp_world (fun w' => TabB w' gX (r : Int) ((m5 : Int) + (T : Int)) A4 n4 c4 (R ++ told) ∧ Below w11.heap.size w11 w') ⟨hTB, hbx⟩ ?_
      clear hTB hbx
      rintro w12 ⟨hX12, hb12⟩
      have HX12 := Lib.hid hX12
      have HU12 := Lib.hid (HU11.out.below hb12)
      have HT12 := Lib.hid (HT11.out.below hb12)
      have HRF12 := Lib.hid (RdX.below HRF11.out hb12)
      have HB12 := Lib.hid (HB11.out.trans (hb12.mono HB11.out.size))
      have HR12 := Lib.hid (RdX.below HR11.out hb12)
      clear hX12 hb12 HU11 HT11 HRF11 HB111 HB11 HR11 HV11 HAP2 hD hv
      go_wp2_with fail
      refine (fieldsTell_any _).mono ?_
      rintro e w13 ⟨rfl, hb13⟩
      have HX13 := Lib.hid (HX12.out.below hb13)
      have HU13 := Lib.hid (HU12.out.below hb13)
      have HT13 := Lib.hid (HT12.out.below hb13)
      have HRF13 := Lib.hid (RdX.below HRF12.out hb13)
      have HB13 := Lib.hid (HB12.out.trans (hb13.mono HB12.out.size))
      have HR13 := Lib.hid (RdX.below HR12.out hb13)
      have FX := HX13.out.blk.facts3
      have FU := HU13.out.blk.facts3
      have FT := HT13.out.blk.facts3
      clear HX12 HU12 HT12 HRF12 HB12 HR12 hb13
      have e3 : n4 = n := by rw [← HX13.out.tab.hn]; exact HU13.out.tab.hn
      subst e3
      have hsum : ((u : Int) + (v : Int) == (n1 : Int)) = true := by simp; omega
      have hsum2 : (u : Int) + (v : Int) = (n1 : Int) := by omega
      go_wp2_with fail
      refine (sameFields_eq A4 A n4 c4 c (R ++ told) HX13.out.tab.hn HX13.out.tab.hnc HU13.out.tab.hnc HX13.out.tab.hcm HU13.out.tab.hcm _ HX13.out.tab.hr HU13.out.tab.hr).mono ?_
      rintro e w14 ⟨rfl, hb14⟩
      have HU14 := Lib.hid (HU13.out.below hb14)
      have HT14 := Lib.hid (HT13.out.below hb14)
      have HB14 := Lib.hid (HB13.out.trans (hb14.mono HB13.out.size))
      have HRF14 := Lib.hid (RdX.below HRF13.out hb14)
      have HR14 := Lib.hid (RdX.below HR13.out hb14)
      have FU4 := HU14.out.blk.facts3
      have FT4 := HT14.out.blk.facts3
      clear HX13 HU13 HT13 HRF13 HB13 HR13 hb14 FX FU FT HU14 HT14
      rcases HOE.out with ⟨hT0, ho, rfl⟩ | ⟨hT0, ho, rfl⟩
      · subst hT0
        have hmm : m7 = m := by rw [← HM7.out, ho]; exact HFN.out
        subst hmm
        have d1 : decide ((m5 : Int) < (m5 : Int) + ((0 : Nat) : Int)) = false := decide_eq_false (by omega)
        have d2 : ((m5 : Int) + ((0 : Nat) : Int) == (m5 : Int)) = true := by simp
        rw [ho] at HR14
        go_wp2_with fail
        refine (sameFields_eq B7 L m7 d7 cL fs HFN.out hmd7 hmc hdm7 hcL _ HR14.out HRF14.out).mono ?_
        rintro e w15 ⟨rfl, hb15⟩
        have HB15 := Lib.hid (HB14.out.trans (hb15.mono HB14.out.size))
        clear HB14 HRF14 HR14 hb15
        go_wp2_with fail
        go_ret
        exact ⟨by first | rfl | (simp; done), HB15.out⟩
      · have d1 : decide ((m5 : Int) < (m5 : Int) + (T : Int)) = true := decide_eq_true (by omega)
        go_wp2_with fail
        go_ret
        exact ⟨by first | rfl | (simp; done), HB14.out⟩
end Go.Proofs.Ytdmonacekjcedaa
