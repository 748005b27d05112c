/- The contracts of an eye's known and line (fields), and of table.Get of any number. -/
import Derived.Test.YtihngonemdaihaaFEye
import Derived.Test.YtihngonemdaihaaFKnown
import Derived.Test.YtihngonemdaihaaGetWalk
namespace Go.Proofs.Ytihngonemdaihaa
open Go.ChangeShapes Go.WideShapes Go.ChangeAt Go.RowKit
set_option linter.unusedVariables false

/-- A table that may be, in memory. -/
structure TabV (w : World) (room put : Int) (A : Option Addr) (n c : Nat) (l : List Fld) : Prop where
  hn : l.length = n
  hnc : n ≤ c
  hcm : c ≤ 9223372036854775807
  h0 : 0 ≤ room
  h1 : room ≤ 160
  h2 : (n : Int) ≤ put
  h3 : put ≤ 4611686018427387903
  hf : ∀ f ∈ l, FOk f
  hs : (tsz l : Int) ≤ room
  hr : RdX fcells 2 w A l
theorem TabV.below {w w' : World} {room put : Int} {A : Option Addr} {n c : Nat} {l : List Fld} (h : TabV w room put A n c l) (hb : Below w.heap.size w w') : TabV w' room put A n c l :=
  ⟨h.hn, h.hnc, h.hcm, h.h0, h.h1, h.h2, h.h3, h.hf, h.hs, RdX.below h.hr hb⟩
/-- table.Get of any number from 0 on. -/
theorem tGet_gen (w : World) (room put : Int) (A : Option Addr) (n c : Nat) (l : List Fld) (h : TabV w room put A n c l) (k : Int) (hk0 : 0 ≤ k) (hk1 : k ≤ 4611686018427387903) (x y : ByteArray) (E : Int) (hE : tGetR put l k = ((x, y), E)) :
    Calls Try.prog 47 #[.agg #[.int .i64 room, .int .i64 put, .slice A n c], .int .i64 k] w fun e w' => e = .returned (.tuple #[.agg #[.string x, .string y], .int .i64 E]) ∧ Below w.heap.size w w' := by
  have hn := h.hn
  unfold tGetR at hE
  by_cases c1 : put ≤ k
  · rw [if_pos (.inr c1)] at hE
    injection hE with e1 e2
    injection e1 with e1 e3
    subst e1 e2 e3
    exact tGet_none room put A n c l h.hn h.hnc h.hcm h.h0 h.h1 h.h2 h.h3 h.hf h.hs k c1 hk1 w h.hr
  · rw [if_neg (by omega)] at hE
    by_cases c2 : k < put - l.length
    · rw [if_pos c2] at hE
      injection hE with e1 e2
      injection e1 with e1 e3
      subst e1 e2 e3
      exact tGet_old room put A n c l h.hn h.hnc h.hcm h.h0 h.h1 h.h2 h.h3 h.hf h.hs k hk0 (by omega) w h.hr
    · rw [if_neg c2] at hE
      injection hE with e1 e2
      subst e2
      exact tGet_ok room put A n c l h.hn h.hnc h.hcm h.h0 h.h1 h.h2 h.h3 h.hf h.hs (k - (put - l.length)).toNat k (by omega) (by omega) x y e1 w h.hr

theorem EyeF.fail0 {w0 w : World} {g : Nat} {b : List UInt8} (h : EyeF w0 w g ⟨b, 0⟩) (E : Int) : EyeF w0 (w.setCell ⟨g, 1, none⟩ (.int .i64 E)) g ⟨b, E⟩ := h.fail E
theorem Only.setG {g : Nat} {w w2 : World} (h : Only g w w2) (i : Nat) (u : Value) : Only g w (w2.setCell ⟨g, i, none⟩ u) := h.trans (Only.set g i w2 u)
theorem Only.setNew {g : Nat} {w w2 : World} (h : Only g w w2) {p : Addr} (hp : w.heap.size ≤ p.block) (u : Value) : Only g w (w2.setCell p u) := by
  have h2 := (Below.refl 0 w2).setCell (p := p) (Nat.zero_le _) u
  exact ⟨h2.os.trans h.os, h2.tape.trans h.tape, h2.output.trans h.output, by simpa using h.size, fun q h1 hq => (Below.heap_setCell w2 p u q (by omega)).trans (h.block q h1 hq)⟩
theorem Only.call {g : Nat} {w w2 w3 : World} (h : Only g w w2) (hb : Below w2.heap.size w2 w3) : Only g w w3 := h.trans (Only.of hb)

set_option maxRecDepth 100000 in
set_option maxHeartbeats 4000000 in
theorem fKnownY_any (v : Nat) (h1 : 1 ≤ v) (h8 : v ≤ 8) (w0 w : World) (g : Nat) (y : YeD) (h : EyeF w0 w g y) (x z : ByteArray) (y' : YeD) (hY : yKnown v y = ((x, z), y')) :
    Calls Try.prog 46 #[.pointer (some ⟨g, 0, none⟩), .int .i64 (v : Int)] w fun e w' => e = .returned (.agg #[.string x, .string z]) ∧ EyeF w0 w' g y' ∧ Only g w w' := by
  have HH := Lib.hid h
  have HY := Lib.hid hY
  have hgl := h.lt
  have hg0 := h.hg
  clear h hY
  go_enter Try.func46, Try.ntmps46
  go_wp2_with fail
  refine (fKnown_blk _).mono ?_
  rintro e w1 ⟨rfl, hK1, hb1⟩
  have hZ1 : Blk w1 w.heap.size 47 #[.string ByteArray.empty, .string ByteArray.empty] := (Blk.new _ _ _).carry hb1
  have hbz : Below w.heap.size w w1 := ((Below.refl _ _).alloc (Nat.le_refl _) _).trans (hb1.mono (by simp))
  have hE1 := HH.out.carry hbz
  have hz1 := hK1.lt
  have hK1' : Blk w1 (w.heap.size + 1) 47 (knownL.flatMap fcells).toArray := by simpa using hK1
  clear hK1 hb1
  go_wp2_with fail
  refine (fNumber_any v h1 h8 w0 _ g y hE1).mono ?_
  rintro e w2 ⟨rfl, hE2, ho2⟩
  have hZ2 := ho2.blk (by omega) hZ1
  have hK2 := ho2.blk (by omega) hK1'
  have HO := Lib.hid ((Only.of (g := g) hbz).trans ho2)
  have hz2 := hZ2.lt
  have hgl2 := hE2.lt
  have HE2 := Lib.hid hE2
  have hgw : w.heap.size ≠ g := by omega
  obtain ⟨N, y1, hyn⟩ : ∃ N y1, yNumber v y = (N, y1) := ⟨_, _, rfl⟩
  have hky := HY.out
  unfold yKnown at hky
  rw [hyn] at hky HE2
  rw [hyn]
  dsimp only at hky HE2 ⊢
  have hN0 : 0 ≤ N ∧ N ≤ 4611686018427387903 := by
    have h : (yNumber v y).1 = N := by rw [hyn]
    unfold yNumber at h
    by_cases c0 : y.e ≠ 0
    · rw [if_pos c0] at h; simp only at h; omega
    · rw [if_neg c0] at h
      rcases pDec_cases v y.b with ⟨e, hd, he⟩ | ⟨m, K, hd, m1, m2, m3⟩
      · rw [hd, if_pos (by simp only; omega)] at h; simp only at h; omega
      · rw [hd, if_neg (by simp)] at h; simp only at h; omega
  obtain ⟨b1, e1⟩ := y1
  obtain ⟨A, n, c, q1, q2, q3, hB, hr⟩ := HE2.out.ex
  have FE := hB.facts2E
  have FZ := hZ2.two
  have HKB := Lib.hid hK2
  have HZ2 := Lib.hid hZ2
  have HKY := Lib.hid hky
  clear hyn hky hE1 hE2 ho2 hZ1 hK1' hZ2 hK2 hB hr hbz HY HH
  dsimp only at FE q1 HKY
  by_cases c0 : e1 = 0
  · subst c0
    by_cases c1 : 11 ≤ N
    · have hd : decide ((11 : Int) ≤ N) = true := decide_eq_true c1
      have hk := HKY.out
      rw [if_neg (by simp), if_pos c1] at hk
      injection hk with k1 k2
      injection k1 with k1 k3
      subst k1 k2 k3
      have h5 : EyeF w0 (w2.setCell ⟨g, 1, none⟩ (.int .i64 5)) g ⟨b1, 5⟩ := HE2.out.fail 5
      have H5 := Lib.hid h5
      clear h5
      go_wp2_with fail
      refine bodyPost_ret (v := .agg #[.string ByteArray.empty, .string ByteArray.empty]) ?_ rfl ⟨rfl, ?_, ?_⟩
      · simp [results, Try.results46, go_sem, FZ] <;> rfl
      · have h := H5.out
        (repeat (first | with_reducible exact h | ((with_reducible refine EyeF.set ?_ ?s1 ?s2 _); (case s1 => (first | (show g ≠ w.heap.size; omega) | (show g ≠ w.heap.size + 1; omega))); (case s2 => (first | (show w0.heap.size ≤ w.heap.size; omega) | (show w0.heap.size ≤ w.heap.size + 1; omega))))))
      · have h := HO.out
        (repeat (first | with_reducible exact h | with_reducible refine Only.setG ?_ _ _ | ((with_reducible refine Only.setNew ?_ ?s1 _); case s1 => (first | (show w.heap.size ≤ w.heap.size; omega) | (show w.heap.size ≤ w.heap.size + 1; omega)))))
    · have hd : decide ((11 : Int) ≤ N) = false := decide_eq_false c1
      have hk := HKY.out
      rw [if_neg (by simp), if_neg c1] at hk
      injection hk with k1 k2
      subst k2
      obtain ⟨j, rfl⟩ := Int.eq_ofNat_of_zero_le hN0.1
      have hj : j < 11 := by omega
      obtain ⟨b, off, hA, hcell⟩ := (known_rd HKB.out).fcell (by decide)
      obtain ⟨c0, c1'⟩ := hcell j (by rw [knownL_len]; exact hj)
      injection hA with hA
      injection hA with hA1 hA2
      subst hA1
      subst hA2
      rw [Int.toNat_natCast] at k1
      rw [k1] at c0 c1'
      rw [Nat.zero_add] at c0 c1'
      dsimp only at c0 c1'
      have hj0 : (0 : Int) ≤ (j : Int) := by omega
      have hj1 : (j : Int) < 11 := by omega
      clear hcell k1
      go_wp2_with fail
      refine bodyPost_ret (v := .agg #[.string x, .string z]) ?_ rfl ⟨rfl, ?_, ?_⟩
      · simp [results, Try.results46, go_sem, FZ] <;> rfl
      · have h := HE2.out
        (repeat (first | with_reducible exact h | ((with_reducible refine EyeF.set ?_ ?s1 ?s2 _); (case s1 => (first | (show g ≠ w.heap.size; omega) | (show g ≠ w.heap.size + 1; omega))); (case s2 => (first | (show w0.heap.size ≤ w.heap.size; omega) | (show w0.heap.size ≤ w.heap.size + 1; omega))))))
      · have h := HO.out
        (repeat (first | with_reducible exact h | with_reducible refine Only.setG ?_ _ _ | ((with_reducible refine Only.setNew ?_ ?s1 _); case s1 => (first | (show w.heap.size ≤ w.heap.size; omega) | (show w.heap.size ≤ w.heap.size + 1; omega)))))
  · have hne : (e1 == 0) = false := by simp [c0]
    have hne2 : (e1 != 0) = true := by simp [c0]
    have hk := HKY.out
    rw [if_pos c0] at hk
    injection hk with k1 k2
    injection k1 with k1 k3
    subst k1 k2 k3
    go_wp2_with fail
    refine bodyPost_ret (v := .agg #[.string ByteArray.empty, .string ByteArray.empty]) ?_ rfl ⟨rfl, ?_, ?_⟩
    · simp [results, Try.results46, go_sem, FZ] <;> rfl
    · have h := HE2.out
      (repeat (first | with_reducible exact h | ((with_reducible refine EyeF.set ?_ ?s1 ?s2 _); (case s1 => (first | (show g ≠ w.heap.size; omega) | (show g ≠ w.heap.size + 1; omega))); (case s2 => (first | (show w0.heap.size ≤ w.heap.size; omega) | (show w0.heap.size ≤ w.heap.size + 1; omega))))))
    · have h := HO.out
      (repeat (first | with_reducible exact h | with_reducible refine Only.setG ?_ _ _ | ((with_reducible refine Only.setNew ?_ ?s1 _); case s1 => (first | (show w.heap.size ≤ w.heap.size; omega) | (show w.heap.size ≤ w.heap.size + 1; omega)))))
/-- A line of a section. -/
def yLine (put : Int) (l : List Fld) (need : Int) (y : YeD) : Fld × YeD :=
  if 192 ≤ (y.b.getD 0 0).toNat then yKnown 6 y else
  if 128 ≤ (y.b.getD 0 0).toNat then
    (if (yNumber 6 y).2.e ≠ 0 then (fnil, (yNumber 6 y).2) else if need ≤ (yNumber 6 y).1 then (fnil, ⟨(yNumber 6 y).2.b, 6⟩) else ((tGetR put l (need - 1 - (yNumber 6 y).1)).1, ⟨(yNumber 6 y).2.b, (tGetR put l (need - 1 - (yNumber 6 y).1)).2⟩)) else
  if 64 ≤ (y.b.getD 0 0).toNat ∧ (y.b.getD 0 0).toNat < 80 then (((yKnown 4 y).1.1, (yText 7 (yKnown 4 y).2).1), (yText 7 (yKnown 4 y).2).2) else
  if 32 ≤ (y.b.getD 0 0).toNat ∧ (y.b.getD 0 0).toNat < 40 then (((yText 3 y).1, (yText 7 (yText 3 y).2).1), (yText 7 (yText 3 y).2).2) else
  (fnil, ⟨y.b, 2⟩)
theorem yNumber_range {v : Nat} {y : YeD} {N : Int} {y1 : YeD} (h : yNumber v y = (N, y1)) : 0 ≤ N ∧ N ≤ 4611686018427387903 := by
  have h : (yNumber v y).1 = N := by rw [h]
  unfold yNumber at h
  by_cases c0 : y.e ≠ 0
  · rw [if_pos c0] at h; simp only at h; omega
  · rw [if_neg c0] at h
    rcases pDec_cases v y.b with ⟨e, hd, he⟩ | ⟨m, K, hd, m1, m2, m3⟩
    · rw [hd, if_pos (by simp only; omega)] at h; simp only at h; omega
    · rw [hd, if_neg (by simp)] at h; simp only at h; omega

set_option maxRecDepth 100000 in
set_option maxHeartbeats 8000000 in
theorem fLine_any (room put : Int) (TA : Option Addr) (tn tc : Nat) (l : List Fld) (need : Int) (hn0 : 0 ≤ need) (hn1 : need ≤ put) (w0 w : World) (ht : TabV w0 room put TA tn tc l) (g : Nat) (y : YeD) (h : EyeF w0 w g y) (h0 : y.e = 0) (hlen : 0 < y.b.length) (x z : ByteArray) (y' : YeD) (hY : yLine put l need y = ((x, z), y')) :
    Calls Try.prog 43 #[.pointer (some ⟨g, 0, none⟩), .agg #[.int .i64 room, .int .i64 put, .slice TA tn tc], .int .i64 need] w fun e w' => e = .returned (.agg #[.string x, .string z]) ∧ EyeF w0 w' g y' ∧ Only g w w' := by
  have HY := Lib.hid hY
  have HT := Lib.hid ht
  have hgl := h.lt
  have hg0 := h.hg
  have h3 := ht.h3
  have hly := hY
  unfold yLine at hly
  obtain ⟨b, e⟩ := y
  dsimp only at h0 hlen hly
  subst h0
  obtain ⟨ci, hci⟩ : ∃ ci : Nat, (b.getD 0 0).toNat = ci := ⟨_, rfl⟩
  have hc256 : ci < 256 := by rw [← hci]; exact (b.getD 0 0).toNat_lt
  rw [hci] at hly
  have HLY := Lib.hid hly
  have HCI := Lib.hid hci
  have HH := Lib.hid h
  clear h hY ht hly hci
  go_enter Try.func43, Try.ntmps43
  go_upto_region 2 with (fail)
  refine wp_world (fun w' => Blk w' w.heap.size 29 #[.int .i64 room, .int .i64 put, .slice TA tn tc] ∧ Blk w' (w.heap.size + 1) 47 #[.string ByteArray.empty, .string ByteArray.empty] ∧ Blk w' (w.heap.size + 1 + 1) 47 #[.string ByteArray.empty, .string ByteArray.empty] ∧ EyeF w0 w' g ⟨b, 0⟩ ∧ Only g w w') ⟨((Blk.new _ _ _).alloc _).alloc _, (Blk.new1 _ _ _ _).alloc _, Blk.new2 _ _ _ _ _, HH.out.carry ((((Below.refl _ _).alloc (Nat.le_refl _) _).alloc (by simp) _).alloc (by simp; omega) _), Only.of ((((Below.refl _ _).alloc (Nat.le_refl _) _).alloc (by simp) _).alloc (by simp; omega) _)⟩ ?_
  rintro w1 ⟨hT1, hR1, hF1, hE1, hO1⟩
  have hord : g < w.heap.size ∧ w0.heap.size ≤ g := ⟨hgl, hg0⟩
  obtain ⟨A, n, c, q1, q2, q3, hB, hr⟩ := hE1.ex
  dsimp only at q1 hB hr
  obtain ⟨ab, ao, rfl, hcell⟩ := (hr.below hE1.hb).cell hlen
  have hc0 := hcell 0 hlen
  rw [HCI.out, Nat.add_zero] at hc0
  have hn0' : (0 : Int) < (n : Int) := by omega
  have hn0'' : 0 < n := by omega
  have FE := hB.facts2E
  have HE1 := Lib.hid hE1
  have HT1 := Lib.hid hT1
  have HR1 := Lib.hid hR1
  have HF1 := Lib.hid hF1
  have HO := Lib.hid hO1
  have hzF := hF1.lt
  clear hcell hr hB hE1 hT1 hR1 hF1 hO1
  go_upto_region 3 with (fail)
  clear hc0 FE
  by_cases k1 : 192 ≤ ci
  ·
    -- [[k192
    have d1 : decide ((192 : Int) ≤ (ci : Int)) = true := decide_eq_true (by omega)
    have d1' : decide (192 ≤ ci) = true := decide_eq_true k1
    have hk := HLY.out
    rw [if_pos k1] at hk
    go_wp2_with fail
    refine (fKnownY_any 6 (by decide) (by decide) w0 _ g _ HE1.out x z y' hk).mono ?_
    rintro e w2 ⟨rfl, hE2, ho2⟩
    have hR2 := ho2.blk (by omega) HR1.out
    have HO2 := Lib.hid (HO.out.trans ho2)
    have HE2 := Lib.hid hE2
    have FR := hR2.two
    have hlR := hR2.lt
    clear hE2 ho2 hk
    go_wp2_with fail
    refine bodyPost_ret (v := .agg #[.string x, .string z]) ?_ rfl ⟨rfl, ?_, ?_⟩
    · simp [results, Try.results43, go_sem, FR] <;> rfl
    · have h := HE2.out
      (repeat (first | with_reducible exact h | with_reducible refine EyeF.fail0 ?_ _ | ((with_reducible refine EyeF.set ?_ ?s1 ?s2 _); (case s1 => (first | (show g ≠ w.heap.size + 1; omega) | (show g ≠ w.heap.size + 1 + 1; omega))); (case s2 => (first | (show w0.heap.size ≤ w.heap.size + 1; omega) | (show w0.heap.size ≤ w.heap.size + 1 + 1; omega))))))
    · have h := HO2.out
      (repeat (first | with_reducible exact h | with_reducible refine Only.setG ?_ _ _ | ((with_reducible refine Only.setNew ?_ ?s1 _); case s1 => (first | (show w.heap.size ≤ w.heap.size + 1; omega) | (show w.heap.size ≤ w.heap.size + 1 + 1; omega)))))
    -- ]]k192
  · have d1 : decide ((192 : Int) ≤ (ci : Int)) = false := decide_eq_false (by omega)
    have d1' : decide (192 ≤ ci) = false := decide_eq_false k1
    by_cases k2 : 128 ≤ ci
    ·
      -- [[k128
      have d2 : decide ((128 : Int) ≤ (ci : Int)) = true := decide_eq_true (by omega)
      have d2' : decide (128 ≤ ci) = true := decide_eq_true k2
      have hk := HLY.out
      rw [if_neg k1, if_pos k2] at hk
      have HK := Lib.hid hk
      clear hk
      go_wp2_with fail
      refine (fNumber_any 6 (by decide) (by decide) w0 _ g _ HE1.out).mono ?_
      rintro e w2 ⟨rfl, hE2, ho2⟩
      have hT2 := ho2.blk (by omega) HT1.out
      have hR2 := ho2.blk (by omega) HR1.out
      have hF2 := ho2.blk (by omega) HF1.out
      have HO2 := Lib.hid (HO.out.trans ho2)
      have HE2 := Lib.hid hE2
      obtain ⟨N, y1, hyn⟩ : ∃ N y1, yNumber 6 ⟨b, 0⟩ = (N, y1) := ⟨_, _, rfl⟩
      have hN0 := yNumber_range hyn
      rw [hyn] at HE2 HK
      rw [hyn]
      obtain ⟨b1, e1⟩ := y1
      dsimp only at HE2 HK ⊢
      obtain ⟨A2, n2, c2, r1, r2, r3, hB2, hr2⟩ := HE2.out.ex
      dsimp only at r1 hB2 hr2
      have FE := hB2.facts2E
      have FR := hR2.two
      have FF := hF2.two
      have FT := hT2.facts3
      have HT2 := Lib.hid hT2
      have HR2 := Lib.hid hR2
      have HF2 := Lib.hid hF2
      clear hyn hE2 ho2 hB2 hr2 hT2 hR2 hF2
      by_cases c0 : e1 = 0
      · subst c0
        by_cases c1 : need ≤ N
        · have d3 : decide (need ≤ N) = true := decide_eq_true c1
          have hk := HK.out
          rw [if_neg (by simp), if_pos c1] at hk
          injection hk with k1' k2'
          injection k1' with k1' k3'
          subst k1' k2' k3'
          have h6 : EyeF w0 (w2.setCell ⟨g, 1, none⟩ (.int .i64 6)) g ⟨b1, 6⟩ := HE2.out.fail 6
          have H6 := Lib.hid h6
          clear h6
          go_wp2_with fail
          refine bodyPost_ret (v := .agg #[.string ByteArray.empty, .string ByteArray.empty]) ?_ rfl ⟨rfl, ?_, ?_⟩
          · simp [results, Try.results43, go_sem, FR] <;> rfl
          · have h := H6.out
            (repeat (first | with_reducible exact h | with_reducible refine EyeF.fail0 ?_ _ | ((with_reducible refine EyeF.set ?_ ?s1 ?s2 _); (case s1 => (first | (show g ≠ w.heap.size + 1; omega) | (show g ≠ w.heap.size + 1 + 1; omega))); (case s2 => (first | (show w0.heap.size ≤ w.heap.size + 1; omega) | (show w0.heap.size ≤ w.heap.size + 1 + 1; omega))))))
          · have h := HO2.out
            (repeat (first | with_reducible exact h | with_reducible refine Only.setG ?_ _ _ | ((with_reducible refine Only.setNew ?_ ?s1 _); case s1 => (first | (show w.heap.size ≤ w.heap.size + 1; omega) | (show w.heap.size ≤ w.heap.size + 1 + 1; omega)))))
        · have d3 : decide (need ≤ N) = false := decide_eq_false c1
          have hk := HK.out
          rw [if_neg (by simp), if_neg c1] at hk
          obtain ⟨⟨fx, fz⟩, E, hge⟩ : ∃ f E, tGetR put l (need - 1 - N) = (f, E) := ⟨_, _, rfl⟩
          rw [hge] at hk
          injection hk with k1' k2'
          injection k1' with k1' k3'
          subst k1' k2' k3'
          have s1 : IntKind.i64.wrap (need - 1) = need - 1 := IntWalk.i64_in _ (by omega)
          have s2 : IntKind.i64.wrap (need - 1 - N) = need - 1 - N := IntWalk.i64_in _ (by omega)
          have HGE := Lib.hid hge
          clear hge
          go_wp2_with fail
          refine (tGet_gen _ room put TA tn tc l (HT.out.below HE2.out.hb) (need - 1 - N) (by omega) (by omega) fx fz E HGE.out).mono ?_
          rintro e w3 ⟨rfl, hb3⟩
          have HE3 := Lib.hid (HE2.out.carry hb3)
          have hR3 := HR2.out.carry hb3
          have hF3 := HF2.out.carry hb3
          have HO3 := Lib.hid (HO2.out.call hb3)
          obtain ⟨A3, n3, c3, t1, t2, t3, hB3, hr3⟩ := HE3.out.ex
          dsimp only at t1 hB3 hr3
          clear FE FR FF FT
          have FE := hB3.facts2E
          have FR := hR3.two
          have FF := hF3.two
          have h6 : EyeF w0 (w3.setCell ⟨g, 1, none⟩ (.int .i64 E)) g ⟨b1, E⟩ := HE3.out.fail E
          have H6 := Lib.hid h6
          clear h6 hB3 hr3 hb3
          go_wp2_with fail
          refine bodyPost_ret (v := .agg #[.string fx, .string fz]) ?_ rfl ⟨rfl, ?_, ?_⟩
          · simp [results, Try.results43, go_sem, FR] <;> rfl
          · have h := HE3.out
            (repeat (first | with_reducible exact h | with_reducible refine EyeF.fail0 ?_ _ | ((with_reducible refine EyeF.set ?_ ?s1 ?s2 _); (case s1 => (first | (show g ≠ w.heap.size + 1; omega) | (show g ≠ w.heap.size + 1 + 1; omega))); (case s2 => (first | (show w0.heap.size ≤ w.heap.size + 1; omega) | (show w0.heap.size ≤ w.heap.size + 1 + 1; omega))))))
          · have h := HO3.out
            (repeat (first | with_reducible exact h | with_reducible refine Only.setG ?_ _ _ | ((with_reducible refine Only.setNew ?_ ?s1 _); case s1 => (first | (show w.heap.size ≤ w.heap.size + 1; omega) | (show w.heap.size ≤ w.heap.size + 1 + 1; omega)))))
      · have hne : (e1 == 0) = false := by simp [c0]
        have hne2 : (e1 != 0) = true := by simp [c0]
        have hk := HK.out
        rw [if_pos c0] at hk
        injection hk with k1' k2'
        injection k1' with k1' k3'
        subst k1' k2' k3'
        go_wp2_with fail
        refine bodyPost_ret (v := .agg #[.string ByteArray.empty, .string ByteArray.empty]) ?_ rfl ⟨rfl, ?_, ?_⟩
        · simp [results, Try.results43, go_sem, FR] <;> rfl
        · have h := HE2.out
          (repeat (first | with_reducible exact h | with_reducible refine EyeF.fail0 ?_ _ | ((with_reducible refine EyeF.set ?_ ?s1 ?s2 _); (case s1 => (first | (show g ≠ w.heap.size + 1; omega) | (show g ≠ w.heap.size + 1 + 1; omega))); (case s2 => (first | (show w0.heap.size ≤ w.heap.size + 1; omega) | (show w0.heap.size ≤ w.heap.size + 1 + 1; omega))))))
        · have h := HO2.out
          (repeat (first | with_reducible exact h | with_reducible refine Only.setG ?_ _ _ | ((with_reducible refine Only.setNew ?_ ?s1 _); case s1 => (first | (show w.heap.size ≤ w.heap.size + 1; omega) | (show w.heap.size ≤ w.heap.size + 1 + 1; omega)))))
      -- ]]k128
    · have d2 : decide ((128 : Int) ≤ (ci : Int)) = false := decide_eq_false (by omega)
      have d2' : decide (128 ≤ ci) = false := decide_eq_false k2
      by_cases k3 : 64 ≤ ci ∧ ci < 80
      ·
        -- [[k64
        have d3 : decide ((64 : Int) ≤ (ci : Int)) = true := decide_eq_true (by omega)
        have d3' : decide (64 ≤ ci) = true := decide_eq_true k3.1
        have d4 : decide ((ci : Int) < 80) = true := decide_eq_true (by omega)
        have d4' : decide (ci < 80) = true := decide_eq_true k3.2
        have hk := HLY.out
        rw [if_neg k1, if_neg k2, if_pos k3] at hk
        obtain ⟨⟨x1, z1⟩, y1, hy1⟩ : ∃ f y1, yKnown 4 ⟨b, 0⟩ = (f, y1) := ⟨_, _, rfl⟩
        rw [hy1] at hk
        dsimp only at hk
        injection hk with k1' k2'
        injection k1' with k1' k3'
        subst k1' k2' k3'
        have HY1 := Lib.hid hy1
        clear hy1
        go_wp2_with fail
        refine (fKnownY_any 4 (by decide) (by decide) w0 _ g _ HE1.out x1 z1 y1 HY1.out).mono ?_
        rintro e w2 ⟨rfl, hE2, ho2⟩
        have hR2 := ho2.blk (by omega) HR1.out
        have hF2 := ho2.blk (by omega) HF1.out
        have HO2 := Lib.hid (HO.out.trans ho2)
        have hE2' := Lib.hid hE2
        have hlF := hF2.lt
        clear hE2 ho2
        have FF := hF2.two
        go_upto_region 14 with (fail)
        refine wp_world (fun w' => Blk w' (w.heap.size + 1) 47 #[.string ByteArray.empty, .string ByteArray.empty] ∧ Blk w' (w.heap.size + 1 + 1) 47 #[.string x1, .string z1] ∧ EyeF w0 w' g y1 ∧ Only g w w') ⟨(hR2.far (p := ⟨w.heap.size + 1 + 1, 0, none⟩) (by show w.heap.size + 1 ≠ w.heap.size + 1 + 1; omega) _).far (p := ⟨w.heap.size + 1 + 1, 1, none⟩) (by show w.heap.size + 1 ≠ w.heap.size + 1 + 1; omega) _, ((hF2.set_ 0 _).set_ 1 _).as (by rfl), (hE2'.out.set (p := ⟨w.heap.size + 1 + 1, 0, none⟩) (by show g ≠ w.heap.size + 1 + 1; omega) (by show w0.heap.size ≤ w.heap.size + 1 + 1; omega) _).set (p := ⟨w.heap.size + 1 + 1, 1, none⟩) (by show g ≠ w.heap.size + 1 + 1; omega) (by show w0.heap.size ≤ w.heap.size + 1 + 1; omega) _, (HO2.out.setNew (p := ⟨w.heap.size + 1 + 1, 0, none⟩) (by show w.heap.size ≤ w.heap.size + 1 + 1; omega) _).setNew (p := ⟨w.heap.size + 1 + 1, 1, none⟩) (by show w.heap.size ≤ w.heap.size + 1 + 1; omega) _⟩ ?_
        clear FF hR2 hF2 HO2 hE2' hlF
        rintro w3 ⟨hR3, hF3, hE3, hO3⟩
        have HO3 := Lib.hid hO3
        clear hO3
        go_wp2_with fail
        refine (fText_any 7 (by decide) (by decide) w0 _ g _ hE3).mono ?_
        rintro e w4 ⟨rfl, hE4, ho4⟩
        have hR4 := ho4.blk (by omega) hR3
        have hF4 := ho4.blk (by omega) hF3
        have HO4 := Lib.hid (HO3.out.trans ho4)
        have HE4 := Lib.hid hE4
        clear hE3 hE4 ho4 hR3 hF3
        have FF := hF4.two
        have FR := hR4.two
        have hlR := hR4.lt
        have hlF := hF4.lt
        go_wp2_with fail
        refine bodyPost_ret (v := .agg #[.string x1, .string (yText 7 y1).1]) ?_ rfl ⟨rfl, ?_, ?_⟩
        · simp [results, Try.results43, go_sem, FR] <;> rfl
        · have h := HE4.out
          (repeat (first | with_reducible exact h | with_reducible refine EyeF.fail0 ?_ _ | ((with_reducible refine EyeF.set ?_ ?s1 ?s2 _); (case s1 => (first | (show g ≠ w.heap.size + 1; omega) | (show g ≠ w.heap.size + 1 + 1; omega))); (case s2 => (first | (show w0.heap.size ≤ w.heap.size + 1; omega) | (show w0.heap.size ≤ w.heap.size + 1 + 1; omega))))))
        · have h := HO4.out
          (repeat (first | with_reducible exact h | with_reducible refine Only.setG ?_ _ _ | ((with_reducible refine Only.setNew ?_ ?s1 _); case s1 => (first | (show w.heap.size ≤ w.heap.size + 1; omega) | (show w.heap.size ≤ w.heap.size + 1 + 1; omega)))))
        -- ]]k64
      · by_cases k4 : 32 ≤ ci ∧ ci < 40
        ·
          -- [[k32
          have d3 : decide ((64 : Int) ≤ (ci : Int)) = false := decide_eq_false (by omega)
          have d3' : decide (64 ≤ ci) = false := decide_eq_false (by omega)
          have d4 : decide ((32 : Int) ≤ (ci : Int)) = true := decide_eq_true (by omega)
          have d4' : decide (32 ≤ ci) = true := decide_eq_true k4.1
          have d5 : decide ((ci : Int) < 40) = true := decide_eq_true (by omega)
          have d5' : decide (ci < 40) = true := decide_eq_true k4.2
          have hk := HLY.out
          rw [if_neg k1, if_neg k2, if_neg k3, if_pos k4] at hk
          injection hk with k1' k2'
          injection k1' with k1' k3'
          subst k1' k2' k3'
          go_wp2_with fail
          refine (fText_any 3 (by decide) (by decide) w0 _ g _ HE1.out).mono ?_
          rintro e w2 ⟨rfl, hE2, ho2⟩
          have hR2 := ho2.blk (by omega) HR1.out
          have hF2 := ho2.blk (by omega) HF1.out
          have HO2 := Lib.hid (HO.out.trans ho2)
          have hE2' := Lib.hid hE2
          have hlF := hF2.lt
          clear hE2 ho2
          have FF := hF2.two
          go_upto_region 18 with (fail)
          refine wp_world (fun w' => Blk w' (w.heap.size + 1) 47 #[.string ByteArray.empty, .string ByteArray.empty] ∧ Blk w' (w.heap.size + 1 + 1) 47 #[.string (yText 3 ⟨b, 0⟩).1, .string ByteArray.empty] ∧ EyeF w0 w' g (yText 3 ⟨b, 0⟩).2 ∧ Only g w w') ⟨hR2.far (p := ⟨w.heap.size + 1 + 1, 0, none⟩) (by show w.heap.size + 1 ≠ w.heap.size + 1 + 1; omega) _, (hF2.set_ 0 _).as (by rfl), hE2'.out.set (p := ⟨w.heap.size + 1 + 1, 0, none⟩) (by show g ≠ w.heap.size + 1 + 1; omega) (by show w0.heap.size ≤ w.heap.size + 1 + 1; omega) _, HO2.out.setNew (p := ⟨w.heap.size + 1 + 1, 0, none⟩) (by show w.heap.size ≤ w.heap.size + 1 + 1; omega) _⟩ ?_
          clear FF hR2 hF2 HO2 hE2' hlF
          rintro w3 ⟨hR3, hF3, hE3, hO3⟩
          have HO3 := Lib.hid hO3
          clear hO3
          go_wp2_with fail
          refine (fText_any 7 (by decide) (by decide) w0 _ g _ hE3).mono ?_
          rintro e w4 ⟨rfl, hE4, ho4⟩
          have hR4 := ho4.blk (by omega) hR3
          have hF4 := ho4.blk (by omega) hF3
          have HO4 := Lib.hid (HO3.out.trans ho4)
          have HE4 := Lib.hid hE4
          clear hE3 hE4 ho4 hR3 hF3
          have FF := hF4.two
          have FR := hR4.two
          have hlR := hR4.lt
          have hlF := hF4.lt
          go_wp2_with fail
          refine bodyPost_ret (v := .agg #[.string (yText 3 ⟨b, 0⟩).1, .string (yText 7 (yText 3 ⟨b, 0⟩).2).1]) ?_ rfl ⟨rfl, ?_, ?_⟩
          · simp [results, Try.results43, go_sem, FR] <;> rfl
          · have h := HE4.out
            (repeat (first | with_reducible exact h | with_reducible refine EyeF.fail0 ?_ _ | ((with_reducible refine EyeF.set ?_ ?s1 ?s2 _); (case s1 => (first | (show g ≠ w.heap.size + 1; omega) | (show g ≠ w.heap.size + 1 + 1; omega))); (case s2 => (first | (show w0.heap.size ≤ w.heap.size + 1; omega) | (show w0.heap.size ≤ w.heap.size + 1 + 1; omega))))))
          · have h := HO4.out
            (repeat (first | with_reducible exact h | with_reducible refine Only.setG ?_ _ _ | ((with_reducible refine Only.setNew ?_ ?s1 _); case s1 => (first | (show w.heap.size ≤ w.heap.size + 1; omega) | (show w.heap.size ≤ w.heap.size + 1 + 1; omega)))))
          -- ]]k32
        ·
          -- [[kbad
          have hk := HLY.out
          rw [if_neg k1, if_neg k2, if_neg k3, if_neg k4] at hk
          injection hk with k1' k2'
          injection k1' with k1' k3'
          subst k1' k2' k3'
          obtain ⟨A2, n2, c2, r1, r2, r3, hB2, hr2⟩ := HE1.out.ex
          dsimp only at r1 hB2 hr2
          have FE := hB2.facts2E
          have FR := HR1.out.two
          have FF := HF1.out.two
          have hlR := HR1.out.lt
          have h6 : EyeF w0 (w1.setCell ⟨g, 1, none⟩ (.int .i64 2)) g ⟨b, 2⟩ := HE1.out.fail 2
          have H6 := Lib.hid h6
          clear h6 hB2 hr2
          rcases (show ci < 32 ∨ (40 ≤ ci ∧ ci < 64) ∨ 80 ≤ ci by omega) with k5 | k5 | k5
          · have d3 : decide ((64 : Int) ≤ (ci : Int)) = false := decide_eq_false (by omega)
            have d3' : decide (64 ≤ ci) = false := decide_eq_false (by omega)
            have d4 : decide ((32 : Int) ≤ (ci : Int)) = false := decide_eq_false (by omega)
            have d4' : decide (32 ≤ ci) = false := decide_eq_false (by omega)
            go_wp2_with fail
            refine bodyPost_ret (v := .agg #[.string ByteArray.empty, .string ByteArray.empty]) ?_ rfl ⟨rfl, ?_, ?_⟩
            · simp [results, Try.results43, go_sem, FR] <;> rfl
            · have h := H6.out
              (repeat (first | with_reducible exact h | with_reducible refine EyeF.fail0 ?_ _ | ((with_reducible refine EyeF.set ?_ ?s1 ?s2 _); (case s1 => (first | (show g ≠ w.heap.size + 1; omega) | (show g ≠ w.heap.size + 1 + 1; omega))); (case s2 => (first | (show w0.heap.size ≤ w.heap.size + 1; omega) | (show w0.heap.size ≤ w.heap.size + 1 + 1; omega))))))
            · have h := HO.out
              (repeat (first | with_reducible exact h | with_reducible refine Only.setG ?_ _ _ | ((with_reducible refine Only.setNew ?_ ?s1 _); case s1 => (first | (show w.heap.size ≤ w.heap.size + 1; omega) | (show w.heap.size ≤ w.heap.size + 1 + 1; omega)))))
          · have d3 : decide ((64 : Int) ≤ (ci : Int)) = false := decide_eq_false (by omega)
            have d3' : decide (64 ≤ ci) = false := decide_eq_false (by omega)
            have d4 : decide ((32 : Int) ≤ (ci : Int)) = true := decide_eq_true (by omega)
            have d4' : decide (32 ≤ ci) = true := decide_eq_true (by omega)
            have d5 : decide ((ci : Int) < 40) = false := decide_eq_false (by omega)
            have d5' : decide (ci < 40) = false := decide_eq_false (by omega)
            go_wp2_with fail
            refine bodyPost_ret (v := .agg #[.string ByteArray.empty, .string ByteArray.empty]) ?_ rfl ⟨rfl, ?_, ?_⟩
            · simp [results, Try.results43, go_sem, FR] <;> rfl
            · have h := H6.out
              (repeat (first | with_reducible exact h | with_reducible refine EyeF.fail0 ?_ _ | ((with_reducible refine EyeF.set ?_ ?s1 ?s2 _); (case s1 => (first | (show g ≠ w.heap.size + 1; omega) | (show g ≠ w.heap.size + 1 + 1; omega))); (case s2 => (first | (show w0.heap.size ≤ w.heap.size + 1; omega) | (show w0.heap.size ≤ w.heap.size + 1 + 1; omega))))))
            · have h := HO.out
              (repeat (first | with_reducible exact h | with_reducible refine Only.setG ?_ _ _ | ((with_reducible refine Only.setNew ?_ ?s1 _); case s1 => (first | (show w.heap.size ≤ w.heap.size + 1; omega) | (show w.heap.size ≤ w.heap.size + 1 + 1; omega)))))
          · have d3 : decide ((64 : Int) ≤ (ci : Int)) = true := decide_eq_true (by omega)
            have d3' : decide (64 ≤ ci) = true := decide_eq_true (by omega)
            have d3a : decide ((ci : Int) < 80) = false := decide_eq_false (by omega)
            have d3b : decide (ci < 80) = false := decide_eq_false (by omega)
            have d4 : decide ((32 : Int) ≤ (ci : Int)) = true := decide_eq_true (by omega)
            have d4' : decide (32 ≤ ci) = true := decide_eq_true (by omega)
            have d5 : decide ((ci : Int) < 40) = false := decide_eq_false (by omega)
            have d5' : decide (ci < 40) = false := decide_eq_false (by omega)
            go_wp2_with fail
            refine bodyPost_ret (v := .agg #[.string ByteArray.empty, .string ByteArray.empty]) ?_ rfl ⟨rfl, ?_, ?_⟩
            · simp [results, Try.results43, go_sem, FR] <;> rfl
            · have h := H6.out
              (repeat (first | with_reducible exact h | with_reducible refine EyeF.fail0 ?_ _ | ((with_reducible refine EyeF.set ?_ ?s1 ?s2 _); (case s1 => (first | (show g ≠ w.heap.size + 1; omega) | (show g ≠ w.heap.size + 1 + 1; omega))); (case s2 => (first | (show w0.heap.size ≤ w.heap.size + 1; omega) | (show w0.heap.size ≤ w.heap.size + 1 + 1; omega))))))
            · have h := HO.out
              (repeat (first | with_reducible exact h | with_reducible refine Only.setG ?_ _ _ | ((with_reducible refine Only.setNew ?_ ?s1 _); case s1 => (first | (show w.heap.size ≤ w.heap.size + 1; omega) | (show w.heap.size ≤ w.heap.size + 1 + 1; omega)))))
          -- ]]kbad
end Go.Proofs.Ytihngonemdaihaa
