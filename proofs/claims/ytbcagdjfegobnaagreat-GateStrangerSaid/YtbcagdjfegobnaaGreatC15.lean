/- Texts of the proof, laid together: FrameWalk FrameCheck. -/
import Derived.Test.YtbcagdjfegobnaaGreatC03
import Derived.Test.YtbcagdjfegobnaaGreatC14
import Derived.Deep.Cut
import Derived.Deep.CutBlock
import Derived.Deep.CutRange
import Derived.Deep.DeepCutAuto
/- The contracts of frame.partsOf, may, told and Check. -/
namespace Go.Proofs.YtbcagdjfegobnaaGreat
open Go.ChangeShapes Go.WideShapes Go.ChangeAt Go.RowKit
set_option linter.unusedVariables false

/-- A frame in memory. -/
def frcells (f : FrD) (A : Option Addr) (c : Nat) (B : Option Addr) (d : Nat) : Array Value := #[.int .i64 f.kind, .int .i64 f.id, .int .i64 f.off, .bool f.fin, .int .i64 f.code, .slice A f.rngs.length c, .slice B f.data.length d]
/-- A kind's parts. -/
def pcells (k : Nat) : Array Value := #[.bool (pId k), .bool (pOff k), .bool (pCode k), .bool (pData k), .bool (pFin k), .bool (pWord k)]

theorem kOk_cases {k : Nat} (h : kOk k = true) : k = 0 ∨ k = 1 ∨ k = 2 ∨ k = 30 ∨ k = 4 ∨ k = 5 ∨ k = 8 ∨ k = 17 ∨ k = 6 ∨ k = 16 ∨ k = 18 ∨ k = 26 ∨ k = 27 ∨ k = 28 ∨ k = 7 := by
  simp only [kOk, pId, pOff, pCode, pData, Bool.or_eq_true, beq_iff_eq] at h
  omega
theorem parts_none {k : Nat} (h : kOk k = false) : pcells k = #[.bool false, .bool false, .bool false, .bool false, .bool false, .bool false] ∧ (¬ (k : Int) = 0 ∧ ¬ (k : Int) = 1 ∧ ¬ (k : Int) = 2 ∧ ¬ (k : Int) = 30 ∧ ¬ (k : Int) = 4 ∧ ¬ (k : Int) = 5 ∧ ¬ (k : Int) = 6 ∧ ¬ (k : Int) = 7 ∧ ¬ (k : Int) = 8 ∧ ¬ (k : Int) = 16 ∧ ¬ (k : Int) = 18 ∧ ¬ (k : Int) = 17 ∧ ¬ (k : Int) = 26 ∧ ¬ (k : Int) = 27 ∧ ¬ (k : Int) = 28) := by
  have hk : ¬ kOk k = true := by rw [h]; decide
  have h15 : k ≠ 0 ∧ k ≠ 1 ∧ k ≠ 2 ∧ k ≠ 30 ∧ k ≠ 4 ∧ k ≠ 5 ∧ k ≠ 6 ∧ k ≠ 7 ∧ k ≠ 8 ∧ k ≠ 16 ∧ k ≠ 18 ∧ k ≠ 17 ∧ k ≠ 26 ∧ k ≠ 27 ∧ k ≠ 28 := by
    simp only [kOk, pId, pOff, pCode, pData, Bool.or_eq_true, beq_iff_eq] at hk
    omega
  obtain ⟨a0, a1, a2, a3, a4, a5, a6, a7, a8, a9, a10, a11, a12, a13, a14⟩ := h15
  refine ⟨?_, by omega⟩
  simp [pcells, pId, pOff, pCode, pData, pFin, pWord, *]

set_option maxRecDepth 100000 in
set_option maxHeartbeats 8000000 in
theorem partsOf_good (k : Nat) (h : kOk k = true) (w : World) : Calls Tryz.prog 86 #[.int .i64 k] w fun e w' => e = .returned (.tuple #[.agg (pcells k), .bool true]) ∧ Below w.heap.size w w' := by
  rcases kOk_cases h with rfl | rfl | rfl | rfl | rfl | rfl | rfl | rfl | rfl | rfl | rfl | rfl | rfl | rfl | rfl
  all_goals
    go_enter Tryz.func86, Tryz.ntmps86
    go_wp2_with fail
    refine bodyPost_ret (v := .tuple #[.agg (pcells _), .bool true]) ?_ rfl ⟨rfl, ?_⟩
    · simp [results, Tryz.results86, go_sem]; first | done | rfl
    · (repeat (first | with_reducible exact (Below.refl _ _) | with_reducible refine Below.drew ?_ | (with_reducible refine Below.set4 ?_ ?side _ _ _ _; case side => (first | omega | (simp; omega) | (simp; done))) | (with_reducible refine Below.setCell ?_ ?side _; case side => (first | omega | (simp; omega) | (simp; done))) | (with_reducible refine Below.alloc ?_ ?side _; case side => (first | omega | (simp; omega) | (simp; done)))))
set_option maxRecDepth 100000 in
set_option maxHeartbeats 8000000 in
theorem partsOf_bad (k : Nat) (h : kOk k = false) (w : World) : Calls Tryz.prog 86 #[.int .i64 k] w fun e w' => e = .returned (.tuple #[.agg #[.bool false, .bool false, .bool false, .bool false, .bool false, .bool false], .bool false]) ∧ Below w.heap.size w w' := by
  obtain ⟨_, h0, h1, h2, h3, h4, h5, h6, h7, h8, h9, h10, h11, h12, h13, h14⟩ := parts_none h
  clear h
  generalize (k : Int) = K at *
  have e0 : (K == 0) = false := by simp [h0]
  have e1 : (K == 1) = false := by simp [h1]
  have e2 : (K == 2) = false := by simp [h2]
  have e3 : (K == 30) = false := by simp [h3]
  have e4 : (K == 4) = false := by simp [h4]
  have e5 : (K == 5) = false := by simp [h5]
  have e6 : (K == 6) = false := by simp [h6]
  have e7 : (K == 7) = false := by simp [h7]
  have e8 : (K == 8) = false := by simp [h8]
  have e9 : (K == 16) = false := by simp [h9]
  have e10 : (K == 18) = false := by simp [h10]
  have e11 : (K == 17) = false := by simp [h11]
  have e12 : (K == 26) = false := by simp [h12]
  have e13 : (K == 27) = false := by simp [h13]
  have e14 : (K == 28) = false := by simp [h14]
  go_enter Tryz.func86, Tryz.ntmps86
  go_wp2_with fail
  refine bodyPost_ret (v := .tuple #[.agg #[.bool false, .bool false, .bool false, .bool false, .bool false, .bool false], .bool false]) ?_ rfl ⟨rfl, ?_⟩
  · simp [results, Tryz.results86, go_sem]; first | done | rfl
  · (repeat (first | with_reducible exact (Below.refl _ _) | with_reducible refine Below.drew ?_ | (with_reducible refine Below.set4 ?_ ?side _ _ _ _; case side => (first | omega | (simp; omega) | (simp; done))) | (with_reducible refine Below.setCell ?_ ?side _; case side => (first | omega | (simp; omega) | (simp; done))) | (with_reducible refine Below.alloc ?_ ?side _; case side => (first | omega | (simp; omega) | (simp; done)))))

/-- May a number be, of a part that is there or not? -/
theorem may_ok (b : Bool) (n : Nat) (h : n ≤ 4611686018427387903) (h0 : b = false → n = 0) (w : World) : Calls Tryz.prog 90 #[.bool b, .int .i64 n] w fun e w' => e = .returned (.bool true) ∧ w = w' := by
  have hn0 : (0 : Int) ≤ (n : Int) := by omega
  have hn1 : (n : Int) ≤ 4611686018427387903 := by omega
  cases b with
  | true =>
    clear h0
    go_enter Tryz.func90, Tryz.ntmps90
    go_wp2_with fail
    go_ret
    exact ⟨by first | rfl | simp, rfl⟩
  | false =>
    obtain rfl := h0 rfl
    clear h0
    go_enter Tryz.func90, Tryz.ntmps90
    go_wp2_with fail
    go_ret
    exact ⟨by first | rfl | simp, rfl⟩
/-- A number that is too large, or below 0, may not be. -/
theorem may_bad (b : Bool) (n : Int) (h : n < 0 ∨ 4611686018427387903 < n) (w : World) : Calls Tryz.prog 90 #[.bool b, .int .i64 n] w fun e w' => e = .returned (.bool false) ∧ w = w' := by
  rcases h with h | h
  · have hd : decide (0 ≤ n) = false := decide_eq_false (by omega)
    go_enter Tryz.func90, Tryz.ntmps90
    go_wp2_with fail
    go_ret
    exact ⟨by first | rfl | simp, rfl⟩
  · have hd0 : decide (0 ≤ n) = true := decide_eq_true (by omega)
    have hd : decide (n ≤ 4611686018427387903) = false := decide_eq_false (by omega)
    go_enter Tryz.func90, Tryz.ntmps90
    go_wp2_with fail
    go_ret
    exact ⟨by first | rfl | simp, rfl⟩

theorem rngInfoF : (Tryz.prog.info? 116).map (fun i => (i.zero, i.size, i.bytes)) = some (some (.agg #[.int .i64 0, .int .i64 0]), 2, 16) := by kernel_rfl
set_option maxRecDepth 100000 in
set_option maxHeartbeats 2000000 in
theorem told_ok (B : Option Addr) (m d : Nat) (hs : List Rng) (hm : hs.length = m) (hg : goodFrom 0 hs.reverse) (hm6 : m ≤ 7) (hmd : m ≤ d) (hdm : d ≤ 9223372036854775807) (w : World) (hr : RdX rcells 2 w B hs) :
    Calls Tryz.prog 91 #[.slice B m d] w fun e w' => e = .returned (.bool true) ∧ Below w.heap.size w w' := by
  have HM := Lib.hid hm
  have HG := Lib.hid hg
  have HR := Lib.hid hr
  clear hm hg hr
  have hmw : IntKind.i64.wrap ((m : Int) - 1) = (m : Int) - 1 := by rw [IntKind.wrap_i64]; omega
  go_enter Tryz.func91, Tryz.ntmps91
  go_wp2_with fail
  go_loopw [3, 4] (fun s5 iv wr => ∃ (i : Nat) (O : Option Addr) (co : Nat), i ≤ m ∧ iv = .int .i64 ((i : Int) - 1) ∧ s5 = .slice O (m - i) co ∧ m - i ≤ co ∧ co ≤ 9223372036854775807 ∧ OwnX rcells 2 wr w.heap.size 116 O co (hs.drop i).reverse ∧ Below w.heap.size w wr) (fun _ iv _ => (intOf iv + 1).toNat)
  case atStart => exact ⟨m, none, 0, Nat.le_refl _, rfl, by rw [Nat.sub_self], by omega, by decide, by rw [List.drop_of_length_le (by rw [HM.out]; exact Nat.le_refl _)]; exact OwnX.nil _ _ _, Below.refl _ _⟩
  case round =>
    obtain ⟨i, O, co, hi, rfl, rfl, hoc, hom, hO, hbr⟩ := hrel
    have HO := Lib.hid hO
    clear hO
    by_cases hlt : 0 < i
    · obtain ⟨j, rfl⟩ : ∃ j, i = j + 1 := ⟨i - 1, by omega⟩
      have hlen := HM.out
      obtain ⟨b, off, rfl, hcell⟩ := (RdX.below HR.out hbr).rcell (by omega)
      obtain ⟨c0, c1⟩ := hcell j (by omega)
      have HD : Hid ((hs.drop (j + 1)).reverse ++ [hs.getD j (0, 0)] = (hs.drop j).reverse) := by
        show _ = _
        rw [List.drop_eq_getElem_cons (show j < hs.length by omega), List.reverse_cons]
        simp [List.getD, show j < hs.length by omega]
      have HL : Hid ((hs.drop (j + 1)).reverse.length = m - (j + 1)) := by show _ = _; rw [List.length_reverse, List.length_drop, hlen]
      generalize hs.getD j (0, 0) = x at *
      obtain ⟨lo, hi_⟩ := x
      simp only at c0 c1
      clear hlen hcell
      have hj1 : ((((j + 1 : Nat) : Int)) - 1) = (j : Int) := by omega
      rw [hj1]
      have hj0 : (0 : Int) ≤ (j : Int) := by omega
      have hjm : (j : Int) < (m : Int) := by omega
      have hwj : IntKind.i64.wrap ((j : Int) - 1) = (j : Int) - 1 := by rw [IntKind.wrap_i64]; omega
      have hsz := hbr.size
      go_wp2_with (at_builtin
                   refine wpList_appX rcells 2 rcells_one _ rfl (.tmp 12) (.tmp 17) _ rfl w.heap.size 116 _ 16 Tryz.underlying32 rngInfoF rfl (by decide) (by decide) O (m - (j + 1)) co ((hs.drop (j + 1)).reverse) rfl HL.out (HO.out.alloc _) _ 1 1 [(lo, hi_)] rfl rfl (RdX.oneH _ _ (lo, hi_) _ rfl rfl (by simp)) _ HD.out (m - j) (by omega) (by omega) (by simp; omega) ?_
                   intro A6 c6 w6 hO6 hc6 hc6' hb6 hgr6)
      go_roundw
      case rel => exact ⟨j, A6, c6, by omega, by first | (go_num; done) | rfl, rfl, hc6, hc6', hO6, (hbr.alloc hbr.size _).trans hb6⟩
      case measure => first | (simp [intOf]; done) | (simp [intOf]; omega)
    · obtain rfl : i = 0 := by omega
      have hm0 : m - 0 = m := rfl
      have hO := HO.out
      have hrd := hO.rd
      rw [List.drop_zero] at hrd
      have HRD := Lib.hid hrd
      have HRL : Hid (hs.reverse.length = m) := by show _ = _; rw [List.length_reverse]; exact HM.out
      clear hO hrd
      go_wp2_with fail
      refine (rCheck_ok O m co hs.reverse HRL.out HG.out (by omega) hom _ HRD.out).mono ?_
      rintro e w2 ⟨rfl, hb2⟩
      go_wp2_with fail
      go_ret
      exact ⟨by first | rfl | simp, hbr.trans (hb2.mono hbr.size)⟩
end Go.Proofs.YtbcagdjfegobnaaGreat
/- The contract of frame.Check. -/
namespace Go.Proofs.YtbcagdjfegobnaaGreat
open Go.ChangeShapes Go.WideShapes Go.ChangeAt Go.RowKit
set_option linter.unusedVariables false

theorem Blk.factsP {w : World} {g : Nat} {t : TypeId} {a b c d e f : Value} (h : Blk w g t #[a, b, c, d, e, f]) : g < w.heap.size ∧ w.cell? ⟨g, 0, none⟩ = some a ∧ w.cell? ⟨g, 1, none⟩ = some b ∧ w.cell? ⟨g, 2, none⟩ = some c ∧ w.cell? ⟨g, 3, none⟩ = some d ∧ w.cell? ⟨g, 4, none⟩ = some e ∧ w.cell? ⟨g, 5, none⟩ = some f :=
  ⟨h.lt, by rw [h.cell]; rfl, by rw [h.cell]; rfl, by rw [h.cell]; rfl, by rw [h.cell]; rfl, by rw [h.cell]; rfl, by rw [h.cell]; rfl⟩
theorem Blk.factsF {w : World} {g : Nat} {t : TypeId} {a b c d e f k : Value} (h : Blk w g t #[a, b, c, d, e, f, k]) : g < w.heap.size ∧ w.cell? ⟨g, 0, none⟩ = some a ∧ w.cell? ⟨g, 1, none⟩ = some b ∧ w.cell? ⟨g, 2, none⟩ = some c ∧ w.cell? ⟨g, 3, none⟩ = some d ∧ w.cell? ⟨g, 4, none⟩ = some e ∧ w.cell? ⟨g, 5, none⟩ = some f ∧ w.cell? ⟨g, 6, none⟩ = some k :=
  ⟨h.lt, by rw [h.cell]; rfl, by rw [h.cell]; rfl, by rw [h.cell]; rfl, by rw [h.cell]; rfl, by rw [h.cell]; rfl, by rw [h.cell]; rfl, by rw [h.cell]; rfl⟩

/-- A frame whose kind, sizes, ranges may be, and whose parts are there only where they may be. -/
structure FrMay (f : FrD) : Prop where
  kind : kOk f.kind = true
  len : f.data.length ≤ 120
  many : f.rngs.length ≤ 6
  id : f.id ≤ 4611686018427387903
  noId : pId f.kind = false → f.id = 0
  off : f.off ≤ 4611686018427387903
  noOff : pOff f.kind = false → f.off = 0
  noData : pData f.kind = false → f.data = []
  noFin : pFin f.kind = false → f.fin = false
  ack : f.kind = 2 ↔ f.rngs ≠ []
  rngs : goodDown 4611686018427387905 f.rngs

set_option maxRecDepth 100000 in
set_option maxHeartbeats 2000000 in
/-- All is well, for each of the ways. -/
theorem fCheck_way (k id off code n m : Nat) (fin bi bo bc bd bf bw : Bool) (A : Option Addr) (c : Nat) (B : Option Addr) (d : Nat) (w : World)
    (HP : Hid (∀ W, Calls Tryz.prog 86 #[.int .i64 k] W fun e w' => e = .returned (.tuple #[.agg #[.bool bi, .bool bo, .bool bc, .bool bd, .bool bf, .bool bw], .bool true]) ∧ Below W.heap.size W w'))
    (M1 : Hid (∀ W, Calls Tryz.prog 90 #[.bool bi, .int .i64 id] W fun e w' => e = .returned (.bool true) ∧ W = w'))
    (M2 : Hid (∀ W, Calls Tryz.prog 90 #[.bool bo, .int .i64 off] W fun e w' => e = .returned (.bool true) ∧ W = w'))
    (M3 : Hid (∀ W, Calls Tryz.prog 90 #[.bool bc, .int .i64 code] W fun e w' => e = .returned (.bool true) ∧ W = w'))
    (HT : Hid (∀ W, Below w.heap.size w W → Calls Tryz.prog 91 #[.slice A n c] W fun e w' => e = .returned (.bool true) ∧ Below W.heap.size W w'))
    (hm : m ≤ 120) (hn : n ≤ 6) (hway : (k = 2 ∧ 0 < n ∧ bd = false ∧ bf = false ∧ m = 0 ∧ fin = false) ∨ (k ≠ 2 ∧ n = 0 ∧ bd = false ∧ bf = false ∧ m = 0 ∧ fin = false) ∨ (k ≠ 2 ∧ n = 0 ∧ bd = true ∧ bf = false ∧ off + m ≤ 4611686018427387903 ∧ fin = false) ∨ (k ≠ 2 ∧ n = 0 ∧ bd = true ∧ bf = true ∧ off + m ≤ 4611686018427387903)) :
    Calls Tryz.prog 57 #[.agg #[.int .i64 k, .int .i64 id, .int .i64 off, .bool fin, .int .i64 code, .slice A n c, .slice B m d]] w fun e w' => e = .returned (.int .i64 0) ∧ Below w.heap.size w w' := by
  have h120 : decide (120 < (m : Int)) = false := decide_eq_false (by omega)
  have h6 : decide (6 < (n : Int)) = false := decide_eq_false (by omega)
  have hk2 : Hid (((k : Int) == 2) = decide (k = 2)) := by show _ = _; by_cases h : k = 2 <;> simp [h]; omega
  go_enter Tryz.func57, Tryz.ntmps57
  go_wp2_with fail
  refine (HP.out _).mono ?_
  rintro e w1 ⟨rfl, hb1⟩
  go_upto_region 2 with (fail)
  refine wp_world (fun w' => Blk w' w.heap.size 68 #[.int .i64 k, .int .i64 id, .int .i64 off, .bool fin, .int .i64 code, .slice A n c, .slice B m d] ∧ Blk w' w1.heap.size 182 #[.bool bi, .bool bo, .bool bc, .bool bd, .bool bf, .bool bw] ∧ Below w.heap.size w w') ⟨?_, ?_, ?_⟩ ?_
  · have h := (Blk.new w 68 #[.int .i64 k, .int .i64 id, .int .i64 off, .bool fin, .int .i64 code, .slice A n c, .slice B m d]).carry hb1
    (apply Blk.as; (case h => (repeat (first | with_reducible exact h | with_reducible apply Blk.drew | with_reducible apply Blk.set4 | with_reducible apply Blk.set_ | (with_reducible apply Blk.far4 (hne := ?side); case side => (first | omega | (simp; omega) | (simp; done))) | (with_reducible apply Blk.far (hp := ?side); case side => (first | omega | (simp; omega) | (simp; done))) | with_reducible apply Blk.alloc))); (case e => (first | with_reducible rfl | (simp; done) | rfl)))
  · first | exact Blk.new _ _ _ | exact (Blk.new _ _ _).as (by simp)
  · have h : Below w.heap.size w w1 := ((Below.refl _ _).alloc (Nat.le_refl _) _).trans (hb1.mono (by simp))
    exact h.alloc h.size _
  rintro w2 ⟨hF, hP, hb⟩
  have FF := hF.factsF
  have FP := hP.factsP
  have HB := Lib.hid hb
  clear hb1 hF hP hb
  rcases hway with ⟨h1, h2, rfl, rfl, rfl, rfl⟩ | ⟨h1, rfl, rfl, rfl, rfl, rfl⟩ | ⟨h1, rfl, rfl, rfl, h5, rfl⟩ | ⟨h1, rfl, rfl, rfl, h5⟩
  · subst h1
    have hn0 : decide (0 < (n : Int)) = true := decide_eq_true (by omega)
    go_wp2_with fail
    refine (M1.out _).mono ?_
    rintro e w' ⟨rfl, rfl⟩
    go_wp2_with fail
    refine (M2.out _).mono ?_
    rintro e w' ⟨rfl, rfl⟩
    go_wp2_with fail
    refine (M3.out _).mono ?_
    rintro e w' ⟨rfl, rfl⟩
    go_wp2_with fail
    refine (HT.out _ HB.out).mono ?_
    rintro e w3 ⟨rfl, hb3⟩
    go_wp2_with fail
    go_ret
    exact ⟨by first | rfl | simp, HB.out.trans (hb3.mono HB.out.size)⟩
  · have hk := hk2.out
    rw [decide_eq_false h1] at hk
    go_wp2_with fail
    refine (M1.out _).mono ?_
    rintro e w' ⟨rfl, rfl⟩
    go_wp2_with fail
    refine (M2.out _).mono ?_
    rintro e w' ⟨rfl, rfl⟩
    go_wp2_with fail
    refine (M3.out _).mono ?_
    rintro e w' ⟨rfl, rfl⟩
    go_wp2_with fail
    refine (HT.out _ HB.out).mono ?_
    rintro e w3 ⟨rfl, hb3⟩
    go_wp2_with fail
    go_ret
    exact ⟨by first | rfl | simp, HB.out.trans (hb3.mono HB.out.size)⟩
  · have hk := hk2.out
    rw [decide_eq_false h1] at hk
    have hw : IntKind.i64.wrap (4611686018427387903 - (m : Int)) = 4611686018427387903 - (m : Int) := by rw [IntKind.wrap_i64]; omega
    have hfar : decide (4611686018427387903 - (m : Int) < (off : Int)) = false := decide_eq_false (by omega)
    clear h1 h5
    go_wp2_with fail
    refine (M1.out _).mono ?_
    rintro e w' ⟨rfl, rfl⟩
    go_wp2_with fail
    refine (M2.out _).mono ?_
    rintro e w' ⟨rfl, rfl⟩
    go_wp2_with fail
    refine (M3.out _).mono ?_
    rintro e w' ⟨rfl, rfl⟩
    go_wp2_with fail
    refine (HT.out _ HB.out).mono ?_
    rintro e w3 ⟨rfl, hb3⟩
    go_wp2_with fail
    go_ret
    exact ⟨by first | rfl | simp, HB.out.trans (hb3.mono HB.out.size)⟩
  · have hk := hk2.out
    rw [decide_eq_false h1] at hk
    have hw : IntKind.i64.wrap (4611686018427387903 - (m : Int)) = 4611686018427387903 - (m : Int) := by rw [IntKind.wrap_i64]; omega
    have hfar : decide (4611686018427387903 - (m : Int) < (off : Int)) = false := decide_eq_false (by omega)
    clear h1 h5
    go_wp2_with fail
    refine (M1.out _).mono ?_
    rintro e w' ⟨rfl, rfl⟩
    go_wp2_with fail
    refine (M2.out _).mono ?_
    rintro e w' ⟨rfl, rfl⟩
    go_wp2_with fail
    refine (M3.out _).mono ?_
    rintro e w' ⟨rfl, rfl⟩
    go_wp2_with fail
    refine (HT.out _ HB.out).mono ?_
    rintro e w3 ⟨rfl, hb3⟩
    go_wp2_with fail
    go_ret
    exact ⟨by first | rfl | simp, HB.out.trans (hb3.mono HB.out.size)⟩

/-- A frame that may be is found well. -/
theorem fCheck_ok (f : FrD) (ok : FrOk f) (A : Option Addr) (c : Nat) (B : Option Addr) (d : Nat) (w : World) (hr : RdX rcells 2 w A f.rngs) (hnc : f.rngs.length ≤ c) (hcm : c ≤ 9223372036854775807) :
    Calls Tryz.prog 57 #[.agg (frcells f A c B d)] w fun e w' => e = .returned (.int .i64 0) ∧ Below w.heap.size w w' := by
  obtain ⟨hg, _⟩ := goodDown_from ok.rngs (Int.le_refl _)
  refine fCheck_way f.kind f.id f.off f.code f.rngs.length f.data.length f.fin (pId f.kind) (pOff f.kind) (pCode f.kind) (pData f.kind) (pFin f.kind) (pWord f.kind) A c B d w
    (Lib.hid fun W => partsOf_good f.kind ok.kind W) (Lib.hid fun W => may_ok _ _ ok.id ok.noId W) (Lib.hid fun W => may_ok _ _ ok.off ok.noOff W) (Lib.hid fun W => may_ok _ _ ok.code ok.noCode W)
    (Lib.hid fun W hb => told_ok A _ c f.rngs rfl hg (by have := ok.many; omega) hnc hcm W (RdX.below hr hb)) ok.len ok.many ?_
  have hd := ok.noData
  have hf := ok.noFin
  have hfar := ok.far
  have hack := ok.ack
  by_cases h2 : f.kind = 2
  · left
    rw [h2] at hd hf
    have h0 : f.rngs ≠ [] := hack.1 h2
    refine ⟨h2, List.length_pos_iff.2 h0, by rw [h2]; rfl, by rw [h2]; rfl, by rw [hd rfl]; rfl, hf rfl⟩
  · right
    have hr0 : f.rngs.length = 0 := by
      have : ¬ f.rngs ≠ [] := fun h => h2 (hack.2 h)
      have := Classical.not_not.1 this
      rw [this]; rfl
    cases hD : pData f.kind with
    | false =>
      have hF : pFin f.kind = false := by
        cases h : pFin f.kind with
        | false => rfl
        | true => exfalso; simp only [pFin, beq_iff_eq] at h; rw [h] at hD; exact absurd hD (by decide)
      exact .inl ⟨h2, hr0, rfl, hF, by rw [hd hD]; rfl, hf hF⟩
    | true =>
      cases hF : pFin f.kind with
      | false => exact .inr (.inl ⟨h2, hr0, rfl, rfl, hfar hD, hf hF⟩)
      | true => exact .inr (.inr ⟨h2, hr0, rfl, rfl, hfar hD⟩)
end Go.Proofs.YtbcagdjfegobnaaGreat
