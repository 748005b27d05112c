/- The contract of space.Quiet. -/
import Derived.Test.YtoonohhjcfceeaaSpaceLeap0
namespace Go.Proofs.Ytoonohhjcfceeaa
open Go.ChangeShapes Go.WideShapes Go.ChangeAt Go.RowKit
set_option linter.unusedVariables false

set_option maxRecDepth 100000 in
set_option maxHeartbeats 4000000 in
theorem spQuiet_ok (nx : Int) (A : Option Addr) (n c : Nat) (top : Int) (B : Option Addr) (m d : Nat) (C : Option Addr) (k e : Nat) (ps : List Pcl) (hs : List Rng) (ks : List Int) (hx : nx < 4611686018427387903) (w : World) (h : SpV w nx A n c top B m d C k e ps hs ks) :
    Calls Try.prog 25 #[.agg #[.int .i64 nx, .slice A n c, .int .i64 top, .slice B m d, .slice C k e]] w fun e' w' => ∃ (A' : Option Addr) (c' : Nat) (B' : Option Addr) (d' : Nat) (C' : Option Addr) (k' : Nat), e' = .returned (.tuple #[.agg #[.int .i64 (nx + 1), .slice A' n c', .int .i64 top, .slice B' m d', .slice C' k k'], .int .i64 nx, .int .i64 0]) ∧
      SpKeep w w' (fun W => SpV W (nx + 1) A' n c' top B' m d' C' k k' ps hs ks) ∧ Below w.heap.size w w' := by
  have hn0 := h.ok.n0
  have HV := Lib.hid h
  clear h
  have hnw : IntKind.i64.wrap (nx + 1) = nx + 1 := by rw [IntKind.wrap_i64]; omega
  have hnw2 : IntKind.i64.wrap (nx + 1 - 1) = nx := by rw [IntKind.wrap_i64]; omega
  have hnxb : (nx == 4611686018427387903) = false := by rw [beq_eq_false_iff_ne]; omega
  go_enter Try.func25, Try.ntmps25
  go_upto_region 1 with (fail)
  refine wp_world (fun w' => Blk w' w.heap.size 26 #[.int .i64 nx, .slice A n c, .int .i64 top, .slice B m d, .slice C k e] ∧ Blk w' (w.heap.size + 1) 26 #[.int .i64 0, .slice none 0 0, .int .i64 0, .slice none 0 0, .slice none 0 0] ∧ Below w.heap.size w w') ⟨(Blk.new _ _ _).alloc _, Blk.new1 _ _ _ _, ((Below.refl _ _).alloc (Nat.le_refl _) _).alloc (by simp) _⟩ ?_
  rintro w1 ⟨hS, hZ, hb⟩
  have FS := hS.facts5
  have HV1 := Lib.hid (HV.out.below hb)
  go_wp2_with fail
  refine (HV1.out.check).mono ?_
  rintro e1 w2 ⟨rfl, hb2⟩
  have hS := hS.carry hb2
  have hZ := hZ.carry hb2
  have hb := hb.trans (hb2.mono hb.size)
  have HV2 := Lib.hid (HV1.out.below hb2)
  have hgz := hZ.lt
  clear FS HV1 hb2
  have FS := hS.facts5
  go_wp2_with fail
  refine (HV2.out.fresh).mono ?_
  rintro e2 w3 ⟨A3, c3, B3, d3, C3, k3, M, rfl, ⟨hc3, hc3m⟩, ⟨hd3, hd3m⟩, ⟨hk3, hk3m⟩, hM0, hM1, hAM, hO, hOB, hOC, hb3⟩
  have hS := hS.carry hb3
  have hZ := hZ.carry hb3
  have hb := hb.trans (hb3.mono hb.size)
  clear FS hb3
  have FS := hS.facts5
  have HO := Lib.hid hO
  have HOB := Lib.hid hOB
  have HOC := Lib.hid hOC
  clear hO hOB hOC hAM
  go_upto_region 7 with (fail)
  refine wp_world (fun w' => Blk w' w.heap.size 26 #[.int .i64 nx, .slice A3 n c3, .int .i64 top, .slice B3 m d3, .slice C3 k k3] ∧ Blk w' (w.heap.size + 1) 26 #[.int .i64 0, .slice none 0 0, .int .i64 0, .slice none 0 0, .slice none 0 0] ∧ OwnX pcells 4 w' w2.heap.size 39 A3 c3 ps ∧ OwnX rcells 2 w' M 35 B3 d3 hs ∧ OwnX icells 1 w' M 3 C3 k3 ks ∧ Below w.heap.size w w')
    ⟨(((((hS.set_ 0 _).set_ 1 _).set_ 2 _).set_ 3 _).set_ 4 _).as (by rfl), by (apply Blk.as; (case h => (repeat (first | with_reducible exact hZ | with_reducible apply Blk.drew | with_reducible apply Blk.set4 | with_reducible apply Blk.set_ | (with_reducible apply Blk.far4 (hne := ?side); case side => (first | omega | (simp; omega) | (simp; done))) | (with_reducible apply Blk.far (hp := ?side); case side => (first | omega | (simp; omega) | (simp; done))) | with_reducible apply Blk.alloc))); (case e => (first | with_reducible rfl | (simp; done) | rfl))), ?_, ?_, ?_, by (repeat (first | with_reducible exact hb | with_reducible refine Below.drew ?_ | (with_reducible refine Below.set4 ?_ ?side _ _ _ _; case side => (first | omega | (simp; omega) | (simp; done))) | (with_reducible refine Below.setCell ?_ ?side _; case side => (first | omega | (simp; omega) | (simp; done))) | (with_reducible refine Below.alloc ?_ ?side _; case side => (first | omega | (simp; omega) | (simp; done)))))⟩ ?_
  · (repeat (first | with_reducible exact HO.out | (with_reducible refine OwnX.set_below ?_ ?side _; case side => (first | omega | (simp; omega)))))
  · (repeat (first | with_reducible exact HOB.out | (with_reducible refine OwnX.set_below ?_ ?side _; case side => (first | omega | (simp; omega)))))
  · (repeat (first | with_reducible exact HOC.out | (with_reducible refine OwnX.set_below ?_ ?side _; case side => (first | omega | (simp; omega)))))
  clear FS hS hZ hb HO HOB HOC
  rintro w4 ⟨hS, hZ, hO, hOB, hOC, hb⟩
  have FS := hS.facts5
  have HO := Lib.hid hO
  have HOB := Lib.hid hOB
  have HOC := Lib.hid hOC
  clear hO hOB hOC
  go_upto_region 8 with (fail)
  refine wp_world (fun w' => Blk w' w.heap.size 26 #[.int .i64 (nx + 1), .slice A3 n c3, .int .i64 top, .slice B3 m d3, .slice C3 k k3] ∧ Blk w' (w.heap.size + 1) 26 #[.int .i64 0, .slice none 0 0, .int .i64 0, .slice none 0 0, .slice none 0 0] ∧ OwnX pcells 4 w' w2.heap.size 39 A3 c3 ps ∧ OwnX rcells 2 w' M 35 B3 d3 hs ∧ OwnX icells 1 w' M 3 C3 k3 ks ∧ Below w.heap.size w w')
    ⟨(hS.set_ 0 _).as (by rfl), by (apply Blk.as; (case h => (repeat (first | with_reducible exact hZ | with_reducible apply Blk.drew | with_reducible apply Blk.set4 | with_reducible apply Blk.set_ | (with_reducible apply Blk.far4 (hne := ?side); case side => (first | omega | (simp; omega) | (simp; done))) | (with_reducible apply Blk.far (hp := ?side); case side => (first | omega | (simp; omega) | (simp; done))) | with_reducible apply Blk.alloc))); (case e => (first | with_reducible rfl | (simp; done) | rfl))), ?_, ?_, ?_, by (repeat (first | with_reducible exact hb | with_reducible refine Below.drew ?_ | (with_reducible refine Below.set4 ?_ ?side _ _ _ _; case side => (first | omega | (simp; omega) | (simp; done))) | (with_reducible refine Below.setCell ?_ ?side _; case side => (first | omega | (simp; omega) | (simp; done))) | (with_reducible refine Below.alloc ?_ ?side _; case side => (first | omega | (simp; omega) | (simp; done)))))⟩ ?_
  · (repeat (first | with_reducible exact HO.out | (with_reducible refine OwnX.set_below ?_ ?side _; case side => (first | omega | (simp; omega)))))
  · (repeat (first | with_reducible exact HOB.out | (with_reducible refine OwnX.set_below ?_ ?side _; case side => (first | omega | (simp; omega)))))
  · (repeat (first | with_reducible exact HOC.out | (with_reducible refine OwnX.set_below ?_ ?side _; case side => (first | omega | (simp; omega)))))
  clear FS hS hZ hb HO HOB HOC
  rintro w7 ⟨hS, hZ, hO, hOB, hOC, hb⟩
  have FS := hS.facts5
  have HO := Lib.hid hO
  have HOB := Lib.hid hOB
  have HOC := Lib.hid hOC
  clear hO hOB hOC
  have FZ := hZ.facts5
  have HB := Lib.hid hb
  clear hb
  have FIN : ∀ wf, OwnX pcells 4 wf w2.heap.size 39 A3 c3 ps → OwnX rcells 2 wf M 35 B3 d3 hs → OwnX icells 1 wf M 3 C3 k3 ks → SpV wf (nx + 1) A3 n c3 top B3 m d3 C3 k k3 ps hs ks := fun wf h1 h2 h3 =>
    ⟨HV2.out.hn, HV2.out.hm, HV2.out.hk, hc3, hc3m, hd3, hd3m, hk3, hk3m, HV2.out.ok.quiet hx, h1.rd, h2.rd, h3.rd⟩
  have HF := Lib.hid FIN
  clear FIN
  go_region
  all_goals
    go_wp2_with fail
    refine bodyPost_ret (v := .tuple #[.agg #[.int .i64 (nx + 1), .slice A3 n c3, .int .i64 top, .slice B3 m d3, .slice C3 k k3], .int .i64 nx, .int .i64 0]) ?_ rfl ((fun h1 h2 h3 h4 => ⟨A3, c3, B3, d3, C3, k3, rfl, fun W hW => HF.out W (ownx_agree h1 fun q q1 q2 => hW q (by omega) q2) (ownx_agree h2 fun q q1 q2 => hW q (by omega) q2) (ownx_agree h3 fun q q1 q2 => hW q (by omega) q2), h4⟩) ?_ ?_ ?_ ?_)
    · simp [results, Try.results25, go_sem, FZ] <;> first | rfl | omega
    · (repeat (first | with_reducible exact HO.out | (with_reducible refine OwnX.set_below ?_ ?side _; case side => (first | omega | (simp; omega))) | with_reducible refine ownX_drewS ?_))
    · (repeat (first | with_reducible exact HOB.out | (with_reducible refine OwnX.set_below ?_ ?side _; case side => (first | omega | (simp; omega))) | with_reducible refine ownX_drewS ?_))
    · (repeat (first | with_reducible exact HOC.out | (with_reducible refine OwnX.set_below ?_ ?side _; case side => (first | omega | (simp; omega))) | with_reducible refine ownX_drewS ?_))
    · have hb := HB.out
      (repeat (first | with_reducible exact hb | with_reducible refine Below.drew ?_ | (with_reducible refine Below.set4 ?_ ?side _ _ _ _; case side => (first | omega | (simp; omega) | (simp; done))) | (with_reducible refine Below.setCell ?_ ?side _; case side => (first | omega | (simp; omega) | (simp; done))) | (with_reducible refine Below.alloc ?_ ?side _; case side => (first | omega | (simp; omega) | (simp; done)))))

end Go.Proofs.Ytoonohhjcfceeaa
