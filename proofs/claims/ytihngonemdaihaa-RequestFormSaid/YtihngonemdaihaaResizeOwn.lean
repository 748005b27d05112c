/- The contract of table.Resize: the rows are the call's own. -/
import Derived.Test.YtihngonemdaihaaTableWalk
import Derived.Test.YtihngonemdaihaaFittedWalk
namespace Go.Proofs.Ytihngonemdaihaa
open Go.ChangeShapes Go.WideShapes Go.ChangeAt Go.RowKit
set_option linter.unusedVariables false

set_option maxHeartbeats 1000000 in
theorem tResize_own (r : Nat) (put : Int) (A : Option Addr) (n c : Nat) (l : List Fld) (hn : l.length = n) (hnc : n ≤ c) (hcm : c ≤ 9223372036854775807) (h1 : r ≤ 160) (h2 : (n : Int) ≤ put) (h3 : put ≤ 4611686018427387903) (hf : ∀ f ∈ l, FOk f) (hs : tsz l ≤ r)
    (q : Nat) (hq : q ≤ 160) (R : List Fld) (k_ : Nat) (hR : fitR l q = R) (hk : R.length = k_) (w : World) (hr : RdX fcells 2 w A l) :
    Calls Try.prog 24 #[.agg #[.int .i64 (r : Int), .int .i64 put, .slice A n c], .int .i64 (q : Int)] w fun e w' => ∃ A' c', e = .returned (.tuple #[.agg #[.int .i64 (q : Int), .int .i64 put, .slice A' k_ c'], .int .i64 0]) ∧ k_ ≤ c' ∧ c' ≤ 9223372036854775807 ∧ OwnX fcells 2 w' w.heap.size 47 A' c' R ∧ Below w.heap.size w w' := by
  have HN := Lib.hid hn
  have HR := Lib.hid hr
  have HF := Lib.hid hf
  have HRR := Lib.hid hR
  have HK := Lib.hid hk
  have HS := Lib.hid hs
  clear hn hr hf hR hk hs
  go_enter Try.func24, Try.ntmps24
  go_wp2_with fail
  refine (tCheck_ok r put A n c l HN.out hnc hcm (by omega) (by omega) h2 (by omega) HF.out (by have := HS.out; omega) _ ((HR.out.alloc _).alloc _)).mono ?_
  rintro e w1 ⟨rfl, hb1⟩
  have hB : Blk w1 w.heap.size 29 #[.int .i64 (r : Int), .int .i64 put, .slice A n c] := ((Blk.new _ _ _).alloc _).carry hb1
  have hC : Blk w1 (w.heap.size + 1) 29 #[.int .i64 0, .int .i64 0, .slice none 0 0] := (Blk.new1 _ _ _ _).carry hb1
  have hbz : Below w.heap.size w w1 := (((Below.refl _ _).alloc (Nat.le_refl _) _).alloc (by simp) _).trans (hb1.mono (by simp; omega))
  have HR1 := Lib.hid (RdX.below ((HR.out.alloc _).alloc _) hb1)
  clear hb1 HR
  have FB := hB.facts3
  have FC := hC.facts3
  go_wp2_with fail
  refine (fitted_own (r : Int) put A n c l HN.out hnc hcm q (by have := HS.out; omega) R k_ HRR.out HK.out _ HR1.out).mono ?_
  rintro e w2 ⟨A2, c2, rfl, hc2, hc2', hO, hb2⟩
  have hB2 := hB.carry hb2
  have hC2 := hC.carry hb2
  have hb := hbz.trans (hb2.mono hbz.size)
  have hgl := hB.lt
  have hgc := hC.lt
  have HO := Lib.hid hO
  clear FB FC hB hC hbz hb2 hO HR1
  have FB := hB2.facts3
  have FC := hC2.facts3
  go_upto_region 7 with (fail)
  refine wp_world (fun w' => Blk w' w.heap.size 29 #[.int .i64 (r : Int), .int .i64 put, .slice A2 k_ c2] ∧ Blk w' (w.heap.size + 1) 29 #[.int .i64 0, .int .i64 0, .slice none 0 0] ∧ OwnX fcells 2 w' w1.heap.size 47 A2 c2 R ∧ Below w.heap.size w w') ⟨?_, ?_, ?_, ?_⟩ ?_
  · (apply Blk.as; (case h => (repeat (first | with_reducible exact hB2 | with_reducible apply Blk.drew | with_reducible apply Blk.set4 | with_reducible apply Blk.set_ | (with_reducible apply Blk.far4 (hne := ?side); case side => (first | omega | (simp; omega) | (simp; done))) | (with_reducible apply Blk.far (hp := ?side); case side => (first | omega | (simp; omega) | (simp; done))) | with_reducible apply Blk.alloc))); (case e => (first | with_reducible rfl | (simp; done) | rfl)))
  · (apply Blk.as; (case h => (repeat (first | with_reducible exact hC2 | with_reducible apply Blk.drew | with_reducible apply Blk.set4 | with_reducible apply Blk.set_ | (with_reducible apply Blk.far4 (hne := ?side); case side => (first | omega | (simp; omega) | (simp; done))) | (with_reducible apply Blk.far (hp := ?side); case side => (first | omega | (simp; omega) | (simp; done))) | with_reducible apply Blk.alloc))); (case e => (first | with_reducible rfl | (simp; done) | rfl)))
  · exact ((HO.out.set_below (by simpa using hgl) _).set_below (by simpa using hgl) _).set_below (by simpa using hgl) _
  · (repeat (first | with_reducible exact hb | with_reducible refine Below.drew ?_ | (with_reducible refine Below.set4 ?_ ?side _ _ _ _; case side => (first | omega | (simp; omega) | (simp; done))) | (with_reducible refine Below.setCell ?_ ?side _; case side => (first | omega | (simp; omega) | (simp; done))) | (with_reducible refine Below.alloc ?_ ?side _; case side => (first | omega | (simp; omega) | (simp; done)))))
  clear FB FC hB2 hC2 hb HO
  rintro w3 ⟨hB, hC, hO, hb⟩
  have HO := Lib.hid hO
  clear hO
  have FB := hB.facts3
  go_upto_region 8 with (fail)
  refine wp_world (fun w' => Blk w' w.heap.size 29 #[.int .i64 (q : Int), .int .i64 put, .slice A2 k_ c2] ∧ Blk w' (w.heap.size + 1) 29 #[.int .i64 0, .int .i64 0, .slice none 0 0] ∧ OwnX fcells 2 w' w1.heap.size 47 A2 c2 R ∧ Below w.heap.size w w') ⟨?_, ?_, ?_, ?_⟩ ?_
  · (apply Blk.as; (case h => (repeat (first | with_reducible exact hB | with_reducible apply Blk.drew | with_reducible apply Blk.set4 | with_reducible apply Blk.set_ | (with_reducible apply Blk.far4 (hne := ?side); case side => (first | omega | (simp; omega) | (simp; done))) | (with_reducible apply Blk.far (hp := ?side); case side => (first | omega | (simp; omega) | (simp; done))) | with_reducible apply Blk.alloc))); (case e => (first | with_reducible rfl | (simp; done) | rfl)))
  · (apply Blk.as; (case h => (repeat (first | with_reducible exact hC | with_reducible apply Blk.drew | with_reducible apply Blk.set4 | with_reducible apply Blk.set_ | (with_reducible apply Blk.far4 (hne := ?side); case side => (first | omega | (simp; omega) | (simp; done))) | (with_reducible apply Blk.far (hp := ?side); case side => (first | omega | (simp; omega) | (simp; done))) | with_reducible apply Blk.alloc))); (case e => (first | with_reducible rfl | (simp; done) | rfl)))
  · exact HO.out.set_below (by simpa using hgl) _
  · (repeat (first | with_reducible exact hb | with_reducible refine Below.drew ?_ | (with_reducible refine Below.set4 ?_ ?side _ _ _ _; case side => (first | omega | (simp; omega) | (simp; done))) | (with_reducible refine Below.setCell ?_ ?side _; case side => (first | omega | (simp; omega) | (simp; done))) | (with_reducible refine Below.alloc ?_ ?side _; case side => (first | omega | (simp; omega) | (simp; done)))))
  clear FB hB hC hb HO
  rintro w4 ⟨hB, hC, hO, hb⟩
  have HO := Lib.hid hO
  clear hO
  have FB := hB.facts3
  have FC := hC.facts3
  go_wp2_with fail
  refine bodyPost_ret (v := .tuple #[.agg #[.int .i64 (q : Int), .int .i64 put, .slice A2 k_ c2], .int .i64 0]) ?_ rfl ⟨A2, c2, rfl, hc2, hc2', ?_, ?_⟩
  · simp [results, Try.results24, go_sem, FC] <;> rfl
  · exact OwnX.mono (((HO.out.set_below (p := ⟨w.heap.size + 1, 0, none⟩) hgc _).set_below (p := ⟨w.heap.size + 1, 1, none⟩) hgc _).set_below (p := ⟨w.heap.size + 1, 2, none⟩) hgc _) (by omega)
  · (repeat (first | with_reducible exact hb | with_reducible refine Below.drew ?_ | (with_reducible refine Below.set4 ?_ ?side _ _ _ _; case side => (first | omega | (simp; omega) | (simp; done))) | (with_reducible refine Below.setCell ?_ ?side _; case side => (first | omega | (simp; omega) | (simp; done))) | (with_reducible refine Below.alloc ?_ ?side _; case side => (first | omega | (simp; omega) | (simp; done)))))
end Go.Proofs.Ytihngonemdaihaa
