/- The contract of sender.Grant. -/
import Derived.Test.YtpmgoediglmofaaSnBase
namespace Go.Proofs.Ytpmgoediglmofaa
open Go.ChangeShapes Go.WideShapes Go.ChangeAt Go.RowKit
set_option linter.unusedVariables false

set_option maxRecDepth 100000 in
set_option maxHeartbeats 8000000 in
theorem snGrant_ok (w : World) (A : Option Addr) (n c : Nat) (bs : List UInt8) (fin : Bool) (nx mx : Int) (B : Option Addr) (m d : Nat) (lost : List Rng) (C : Option Addr) (k e : Nat) (acked : List Rng) (ended over : Bool) (h : SnV w A n c bs fin nx mx B m d lost C k e acked ended over)
    (most : Int) (h0 : 0 ≤ most) (h1 : most ≤ 4611686018427387903) :
    Calls Try.prog 15 #[.agg #[.slice A n c, .bool fin, .int .i64 nx, .int .i64 mx, .slice B m d, .slice C k e, .bool ended, .bool over], .int .i64 most] w fun e' w' =>
      ∃ (A' : Option Addr) (c' : Nat) (B' : Option Addr) (d' : Nat) (C' : Option Addr) (k' : Nat), e' = .returned (.tuple #[.agg #[.slice A' n c', .bool fin, .int .i64 nx, .int .i64 (max mx most), .slice B' m d', .slice C' k k', .bool ended, .bool over], .int .i64 0]) ∧
        SpKeep w w' (fun W => SnV W A' n c' bs fin nx (max mx most) B' m d' lost C' k k' acked ended over) ∧ Below w.heap.size w w' := by
  have HV := Lib.hid h
  have hm1 := h.ok.m1
  clear h
  have g1 : decide (most < 0) = false := decide_eq_false (by omega)
  have g2 : decide ((4611686018427387903 : Int) < most) = false := decide_eq_false (by omega)
  obtain ⟨X, hX⟩ : ∃ X, max mx most = X := ⟨_, rfl⟩
  have hX2 : (if mx < most then most else mx) = X := by rw [← hX]; split <;> omega
  have HX := Lib.hid hX
  have HXB : Hid (mx ≤ X ∧ X ≤ 4611686018427387903) := Lib.hid (by omega)
  go_enter Try.func15, Try.ntmps15
  go_upto_region 1 with (fail)
  refine wp_world (fun w' => Blk w' w.heap.size 50 #[.slice A n c, .bool fin, .int .i64 nx, .int .i64 mx, .slice B m d, .slice C k e, .bool ended, .bool over] ∧ Blk w' (w.heap.size + 1) 50 #[.slice none 0 0, .bool false, .int .i64 0, .int .i64 0, .slice none 0 0, .slice none 0 0, .bool false, .bool false] ∧ Below w.heap.size w w') ⟨(Blk.new _ _ _).alloc _, Blk.new1 _ _ _ _, ((Below.refl _ _).alloc (Nat.le_refl _) _).alloc (by simp) _⟩ ?_
  rintro w1 ⟨hS, hZ0, hb1⟩
  have FS := hS.facts8
  go_wp2_with fail
  refine (HV.out.below hb1).check.mono ?_
  rintro e1 w2 ⟨rfl, hb2⟩
  have hS2 := hS.carry hb2
  have hZ2 := hZ0.carry hb2
  have hbb := hb1.trans (hb2.mono hb1.size)
  clear FS hS hZ0 hb1 hb2
  have FS := hS2.facts8
  go_wp2_with fail
  refine (HV.out.below hbb).fresh.mono ?_
  rintro e2 w3 ⟨A', c', B', d', C', k', rfl, hO, _, hb3⟩
  have hgs2 := hZ2.lt
  have hS3 := hS2.carry hb3
  have hZ3 := hZ2.carry hb3
  have hb13 := hbb.trans (hb3.mono hbb.size)
  clear FS hS2 hZ2 hbb hb3
  have FS := hS3.facts8
  go_upto_region 7 with (fail)
  refine wp_world (fun w' => Blk w' w.heap.size 50 #[.slice A' n c', .bool fin, .int .i64 nx, .int .i64 mx, .slice B' m d', .slice C' k k', .bool ended, .bool over] ∧ Blk w' (w.heap.size + 1) 50 #[.slice none 0 0, .bool false, .int .i64 0, .int .i64 0, .slice none 0 0, .slice none 0 0, .bool false, .bool false] ∧ SnO w' w2.heap.size A' c' bs B' d' lost C' k' acked ∧ Below w.heap.size w w') ⟨((((((((hS3.set_ 0 _).set_ 1 _).set_ 2 _).set_ 3 _).set_ 4 _).set_ 5 _).set_ 6 _).set_ 7 _).as (by rfl), by (apply Blk.as; (case h => (repeat (first | with_reducible exact hZ3 | with_reducible apply Blk.drew | with_reducible apply Blk.set4 | with_reducible apply Blk.set_ | (with_reducible apply Blk.far4 (hne := ?side); case side => (first | omega | (simp; omega) | (simp; done))) | (with_reducible apply Blk.far (hp := ?side); case side => (first | omega | (simp; omega) | (simp; done))) | with_reducible apply Blk.alloc))); (case e => (first | with_reducible rfl | (simp; done) | rfl))), ?_, by (repeat (first | with_reducible exact hb13 | with_reducible refine Below.drew ?_ | (with_reducible refine Below.set4 ?_ ?side _ _ _ _; case side => (first | omega | (simp; omega) | (simp; done))) | (with_reducible refine Below.setCell ?_ ?side _; case side => (first | omega | (simp; omega) | (simp; done))) | (with_reducible refine Below.alloc ?_ ?side _; case side => (first | omega | (simp; omega) | (simp; done)))))⟩ ?_
  · (repeat (first | with_reducible exact hO | ((with_reducible refine SnO.set ?_ ?side _); case side => (show w.heap.size < w2.heap.size; omega))))
  clear FS hS3 hZ3 hb13 hO
  rintro w4 ⟨hS4, hZ4, hO4, hb4⟩
  have FS := hS4.facts8
  have FZ := hZ4.facts8
  have HO4 := Lib.hid hO4
  have HB4 := Lib.hid hb4
  clear hO4 hb4
  go_wp2_with fail
  refine bodyPost_ret (v := .tuple #[.agg #[.slice A' n c', .bool fin, .int .i64 nx, .int .i64 X, .slice B' m d', .slice C' k k', .bool ended, .bool over], .int .i64 0]) ?_ rfl ⟨A', c', B', d', C', k', by rw [HX.out], ?_, ?_⟩
  · simp [results, Try.results15, go_sem, FZ] <;> rfl
  · rw [HX.out]
    refine SnO.keep (b := w2.heap.size) ?_ (by omega) HV.out.hn HV.out.hm HV.out.hk (HV.out.ok.grant X HXB.out.1 HXB.out.2)
    have hO := HO4.out
    (repeat (first | with_reducible exact hO | ((with_reducible refine SnO.set ?_ ?side _); case side => (first | (show w.heap.size + 1 < w2.heap.size; omega) | (show w.heap.size < w2.heap.size; omega)))))
  · have h := HB4.out
    (repeat (first | with_reducible exact h | with_reducible refine Below.drew ?_ | (with_reducible refine Below.set4 ?_ ?side _ _ _ _; case side => (first | omega | (simp; omega) | (simp; done))) | (with_reducible refine Below.setCell ?_ ?side _; case side => (first | omega | (simp; omega) | (simp; done))) | (with_reducible refine Below.alloc ?_ ?side _; case side => (first | omega | (simp; omega) | (simp; done)))))
end Go.Proofs.Ytpmgoediglmofaa
