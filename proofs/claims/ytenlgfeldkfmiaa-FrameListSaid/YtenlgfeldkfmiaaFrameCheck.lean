/- The contract of frame.Check. -/
import Derived.Test.YtenlgfeldkfmiaaFrameWalk
namespace Go.Proofs.Ytenlgfeldkfmiaa
open Go.ChangeShapes Go.WideShapes Go.ChangeAt Go.RowKit
set_option linter.unusedVariables false

theorem Blk.factsP {w : World} {g : Nat} {t : TypeId} {a b c d e f : Value} (h : Blk w g t #[a, b, c, d, e, f]) : g < w.heap.size ∧ w.cell? ⟨g, 0, none⟩ = some a ∧ w.cell? ⟨g, 1, none⟩ = some b ∧ w.cell? ⟨g, 2, none⟩ = some c ∧ w.cell? ⟨g, 3, none⟩ = some d ∧ w.cell? ⟨g, 4, none⟩ = some e ∧ w.cell? ⟨g, 5, none⟩ = some f :=
  ⟨h.lt, by rw [h.cell]; rfl, by rw [h.cell]; rfl, by rw [h.cell]; rfl, by rw [h.cell]; rfl, by rw [h.cell]; rfl, by rw [h.cell]; rfl⟩
theorem Blk.factsF {w : World} {g : Nat} {t : TypeId} {a b c d e f k : Value} (h : Blk w g t #[a, b, c, d, e, f, k]) : g < w.heap.size ∧ w.cell? ⟨g, 0, none⟩ = some a ∧ w.cell? ⟨g, 1, none⟩ = some b ∧ w.cell? ⟨g, 2, none⟩ = some c ∧ w.cell? ⟨g, 3, none⟩ = some d ∧ w.cell? ⟨g, 4, none⟩ = some e ∧ w.cell? ⟨g, 5, none⟩ = some f ∧ w.cell? ⟨g, 6, none⟩ = some k :=
  ⟨h.lt, by rw [h.cell]; rfl, by rw [h.cell]; rfl, by rw [h.cell]; rfl, by rw [h.cell]; rfl, by rw [h.cell]; rfl, by rw [h.cell]; rfl, by rw [h.cell]; rfl⟩

/-- A frame whose kind, sizes, ranges may be, and whose parts are there only where they may be. -/
structure FrMay (f : FrD) : Prop where
  kind : kOk f.kind = true
  len : f.data.length ≤ 120
  many : f.rngs.length ≤ 6
  id : f.id ≤ 4611686018427387903
  noId : pId f.kind = false → f.id = 0
  off : f.off ≤ 4611686018427387903
  noOff : pOff f.kind = false → f.off = 0
  noData : pData f.kind = false → f.data = []
  noFin : pFin f.kind = false → f.fin = false
  ack : f.kind = 2 ↔ f.rngs ≠ []
  rngs : goodDown 4611686018427387905 f.rngs
theorem FrOk.mayBe {f : FrD} (ok : FrOk f) : FrMay f := ⟨ok.kind, ok.len, ok.many, ok.id, ok.noId, ok.off, ok.noOff, ok.noData, ok.noFin, ok.ack, ok.rngs⟩

set_option maxRecDepth 100000 in
set_option maxHeartbeats 2000000 in
/-- All is well, for each of the ways. -/
theorem fCheck_way (k id off code n m : Nat) (fin bi bo bc bd bf bw : Bool) (A : Option Addr) (c : Nat) (B : Option Addr) (d : Nat) (w : World)
    (HP : Hid (∀ W, Calls Try.prog 28 #[.int .i64 k] W fun e w' => e = .returned (.tuple #[.agg #[.bool bi, .bool bo, .bool bc, .bool bd, .bool bf, .bool bw], .bool true]) ∧ Below W.heap.size W w'))
    (M1 : Hid (∀ W, Calls Try.prog 35 #[.bool bi, .int .i64 id] W fun e w' => e = .returned (.bool true) ∧ W = w'))
    (M2 : Hid (∀ W, Calls Try.prog 35 #[.bool bo, .int .i64 off] W fun e w' => e = .returned (.bool true) ∧ W = w'))
    (M3 : Hid (∀ W, Calls Try.prog 35 #[.bool bc, .int .i64 code] W fun e w' => e = .returned (.bool true) ∧ W = w'))
    (HT : Hid (∀ W, Below w.heap.size w W → Calls Try.prog 36 #[.slice A n c] W fun e w' => e = .returned (.bool true) ∧ Below W.heap.size W w'))
    (hm : m ≤ 120) (hn : n ≤ 6) (hway : (k = 2 ∧ 0 < n ∧ bd = false ∧ bf = false ∧ m = 0 ∧ fin = false) ∨ (k ≠ 2 ∧ n = 0 ∧ bd = false ∧ bf = false ∧ m = 0 ∧ fin = false) ∨ (k ≠ 2 ∧ n = 0 ∧ bd = true ∧ bf = false ∧ off + m ≤ 4611686018427387903 ∧ fin = false) ∨ (k ≠ 2 ∧ n = 0 ∧ bd = true ∧ bf = true ∧ off + m ≤ 4611686018427387903)) :
    Calls Try.prog 19 #[.agg #[.int .i64 k, .int .i64 id, .int .i64 off, .bool fin, .int .i64 code, .slice A n c, .slice B m d]] w fun e w' => e = .returned (.int .i64 0) ∧ Below w.heap.size w w' := by
  have h120 : decide (120 < (m : Int)) = false := decide_eq_false (by omega)
  have h6 : decide (6 < (n : Int)) = false := decide_eq_false (by omega)
  have hk2 : Hid (((k : Int) == 2) = decide (k = 2)) := by show _ = _; by_cases h : k = 2 <;> simp [h]; omega
  go_enter Try.func19, Try.ntmps19
  go_wp2_with fail
  refine (HP.out _).mono ?_
  rintro e w1 ⟨rfl, hb1⟩
  go_upto_region 2 with (fail)
  refine wp_world (fun w' => Blk w' w.heap.size 40 #[.int .i64 k, .int .i64 id, .int .i64 off, .bool fin, .int .i64 code, .slice A n c, .slice B m d] ∧ Blk w' w1.heap.size 69 #[.bool bi, .bool bo, .bool bc, .bool bd, .bool bf, .bool bw] ∧ Below w.heap.size w w') ⟨?_, ?_, ?_⟩ ?_
  · have h := (Blk.new w 40 #[.int .i64 k, .int .i64 id, .int .i64 off, .bool fin, .int .i64 code, .slice A n c, .slice B m d]).carry hb1
    (apply Blk.as; (case h => (repeat (first | with_reducible exact h | with_reducible apply Blk.drew | with_reducible apply Blk.set4 | with_reducible apply Blk.set_ | (with_reducible apply Blk.far4 (hne := ?side); case side => (first | omega | (simp; omega) | (simp; done))) | (with_reducible apply Blk.far (hp := ?side); case side => (first | omega | (simp; omega) | (simp; done))) | with_reducible apply Blk.alloc))); (case e => (first | with_reducible rfl | (simp; done) | rfl)))
  · first | exact Blk.new _ _ _ | exact (Blk.new _ _ _).as (by simp)
  · have h : Below w.heap.size w w1 := ((Below.refl _ _).alloc (Nat.le_refl _) _).trans (hb1.mono (by simp))
    exact h.alloc h.size _
  rintro w2 ⟨hF, hP, hb⟩
  have FF := hF.factsF
  have FP := hP.factsP
  have HB := Lib.hid hb
  clear hb1 hF hP hb
  rcases hway with ⟨h1, h2, rfl, rfl, rfl, rfl⟩ | ⟨h1, rfl, rfl, rfl, rfl, rfl⟩ | ⟨h1, rfl, rfl, rfl, h5, rfl⟩ | ⟨h1, rfl, rfl, rfl, h5⟩
  · subst h1
    have hn0 : decide (0 < (n : Int)) = true := decide_eq_true (by omega)
    go_wp2_with fail
    refine (M1.out _).mono ?_
    rintro e w' ⟨rfl, rfl⟩
    go_wp2_with fail
    refine (M2.out _).mono ?_
    rintro e w' ⟨rfl, rfl⟩
    go_wp2_with fail
    refine (M3.out _).mono ?_
    rintro e w' ⟨rfl, rfl⟩
    go_wp2_with fail
    refine (HT.out _ HB.out).mono ?_
    rintro e w3 ⟨rfl, hb3⟩
    go_wp2_with fail
    go_ret
    exact ⟨by first | rfl | simp, HB.out.trans (hb3.mono HB.out.size)⟩
  · have hk := hk2.out
    rw [decide_eq_false h1] at hk
    go_wp2_with fail
    refine (M1.out _).mono ?_
    rintro e w' ⟨rfl, rfl⟩
    go_wp2_with fail
    refine (M2.out _).mono ?_
    rintro e w' ⟨rfl, rfl⟩
    go_wp2_with fail
    refine (M3.out _).mono ?_
    rintro e w' ⟨rfl, rfl⟩
    go_wp2_with fail
    refine (HT.out _ HB.out).mono ?_
    rintro e w3 ⟨rfl, hb3⟩
    go_wp2_with fail
    go_ret
    exact ⟨by first | rfl | simp, HB.out.trans (hb3.mono HB.out.size)⟩
  · have hk := hk2.out
    rw [decide_eq_false h1] at hk
    have hw : IntKind.i64.wrap (4611686018427387903 - (m : Int)) = 4611686018427387903 - (m : Int) := by rw [IntKind.wrap_i64]; omega
    have hfar : decide (4611686018427387903 - (m : Int) < (off : Int)) = false := decide_eq_false (by omega)
    clear h1 h5
    go_wp2_with fail
    refine (M1.out _).mono ?_
    rintro e w' ⟨rfl, rfl⟩
    go_wp2_with fail
    refine (M2.out _).mono ?_
    rintro e w' ⟨rfl, rfl⟩
    go_wp2_with fail
    refine (M3.out _).mono ?_
    rintro e w' ⟨rfl, rfl⟩
    go_wp2_with fail
    refine (HT.out _ HB.out).mono ?_
    rintro e w3 ⟨rfl, hb3⟩
    go_wp2_with fail
    go_ret
    exact ⟨by first | rfl | simp, HB.out.trans (hb3.mono HB.out.size)⟩
  · have hk := hk2.out
    rw [decide_eq_false h1] at hk
    have hw : IntKind.i64.wrap (4611686018427387903 - (m : Int)) = 4611686018427387903 - (m : Int) := by rw [IntKind.wrap_i64]; omega
    have hfar : decide (4611686018427387903 - (m : Int) < (off : Int)) = false := decide_eq_false (by omega)
    clear h1 h5
    go_wp2_with fail
    refine (M1.out _).mono ?_
    rintro e w' ⟨rfl, rfl⟩
    go_wp2_with fail
    refine (M2.out _).mono ?_
    rintro e w' ⟨rfl, rfl⟩
    go_wp2_with fail
    refine (M3.out _).mono ?_
    rintro e w' ⟨rfl, rfl⟩
    go_wp2_with fail
    refine (HT.out _ HB.out).mono ?_
    rintro e w3 ⟨rfl, hb3⟩
    go_wp2_with fail
    go_ret
    exact ⟨by first | rfl | simp, HB.out.trans (hb3.mono HB.out.size)⟩

/-- A frame that may be is found well. -/
theorem fCheck_ok (f : FrD) (ok : FrOk f) (A : Option Addr) (c : Nat) (B : Option Addr) (d : Nat) (w : World) (hr : RdX rcells 2 w A f.rngs) (hnc : f.rngs.length ≤ c) (hcm : c ≤ 9223372036854775807) :
    Calls Try.prog 19 #[.agg (frcells f A c B d)] w fun e w' => e = .returned (.int .i64 0) ∧ Below w.heap.size w w' := by
  obtain ⟨hg, _⟩ := goodDown_from ok.rngs (Int.le_refl _)
  refine fCheck_way f.kind f.id f.off f.code f.rngs.length f.data.length f.fin (pId f.kind) (pOff f.kind) (pCode f.kind) (pData f.kind) (pFin f.kind) (pWord f.kind) A c B d w
    (Lib.hid fun W => partsOf_good f.kind ok.kind W) (Lib.hid fun W => may_ok _ _ ok.id ok.noId W) (Lib.hid fun W => may_ok _ _ ok.off ok.noOff W) (Lib.hid fun W => may_ok _ _ ok.code ok.noCode W)
    (Lib.hid fun W hb => told_ok A _ c f.rngs rfl hg (by have := ok.many; omega) hnc hcm W (RdX.below hr hb)) ok.len ok.many ?_
  have hd := ok.noData
  have hf := ok.noFin
  have hfar := ok.far
  have hack := ok.ack
  by_cases h2 : f.kind = 2
  · left
    rw [h2] at hd hf
    have h0 : f.rngs ≠ [] := hack.1 h2
    refine ⟨h2, List.length_pos_iff.2 h0, by rw [h2]; rfl, by rw [h2]; rfl, by rw [hd rfl]; rfl, hf rfl⟩
  · right
    have hr0 : f.rngs.length = 0 := by
      have : ¬ f.rngs ≠ [] := fun h => h2 (hack.2 h)
      have := Classical.not_not.1 this
      rw [this]; rfl
    cases hD : pData f.kind with
    | false =>
      have hF : pFin f.kind = false := by
        cases h : pFin f.kind with
        | false => rfl
        | true => exfalso; simp only [pFin, beq_iff_eq] at h; rw [h] at hD; exact absurd hD (by decide)
      exact .inl ⟨h2, hr0, rfl, hF, by rw [hd hD]; rfl, hf hF⟩
    | true =>
      cases hF : pFin f.kind with
      | false => exact .inr (.inl ⟨h2, hr0, rfl, rfl, hfar hD, hf hF⟩)
      | true => exact .inr (.inr ⟨h2, hr0, rfl, rfl, hfar hD⟩)
end Go.Proofs.Ytenlgfeldkfmiaa
