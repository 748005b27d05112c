/- The contracts of sender's endLost and part. -/
import Derived.Test.YtpmgoediglmofaaSnBase
namespace Go.Proofs.Ytpmgoediglmofaa
open Go.ChangeShapes Go.WideShapes Go.ChangeAt Go.RowKit
set_option linter.unusedVariables false

set_option maxRecDepth 100000 in
theorem snEndLost_ok (w : World) (A : Option Addr) (n c : Nat) (mx : Int) (B : Option Addr) (m d : Nat) (C : Option Addr) (k e : Nat) (ended over : Bool) :
    Calls Try.prog 40 #[.agg #[.slice A n c, .bool true, .int .i64 (n : Int), .int .i64 mx, .slice B m d, .slice C k e, .bool ended, .bool over]] w fun e' w' => e' = .returned (.bool true) ∧ Below w.heap.size w w' := by
  go_enter Try.func40, Try.ntmps40
  go_upto_region 1 with (fail)
  refine wp_world (fun w' => Blk w' w.heap.size 50 #[.slice A n c, .bool true, .int .i64 (n : Int), .int .i64 mx, .slice B m d, .slice C k e, .bool ended, .bool over] ∧ Below w.heap.size w w') ⟨Blk.new _ _ _, (Below.refl _ _).alloc (Nat.le_refl _) _⟩ ?_
  rintro w1 ⟨hS, hb1⟩
  have FS := hS.facts8
  go_wp2_with fail
  go_ret
  exact ⟨rfl, hb1⟩

set_option maxRecDepth 100000 in
set_option maxHeartbeats 8000000 in
theorem snPart_ok (w : World) (A : Option Addr) (n c : Nat) (bs : List UInt8) (fin : Bool) (nx mx : Int) (B : Option Addr) (m d : Nat) (lost : List Rng) (C : Option Addr) (k e : Nat) (acked : List Rng) (ended over : Bool) (h : SnV w A n c bs fin nx mx B m d lost C k e acked ended over) (off q : Int) (f : Bool) (hp : partOk n fin nx ended over off q f) :
    Calls Try.prog 34 #[.agg #[.slice A n c, .bool fin, .int .i64 nx, .int .i64 mx, .slice B m d, .slice C k e, .bool ended, .bool over], .int .i64 off, .int .i64 q, .bool f] w fun e' w' => e' = .returned (.tuple #[.agg #[.int .i64 off, .int .i64 (off + q - 1)], .int .i64 0]) ∧ Below w.heap.size w w' := by
  have HV := Lib.hid h
  have hx0 := h.ok.x0
  have hx1 := h.ok.x1
  have hn6 := h.ok.n600
  have hca := h.ok.cases
  obtain ⟨p0, p1, p2, p3, p4⟩ := hp
  have HP4 := Lib.hid p4
  have HCA := Lib.hid hca
  clear h p4 hca
  have t1 : decide (off < 0) = false := decide_eq_false (by omega)
  have t2 : decide (q < 0) = false := decide_eq_false (by omega)
  have t3 : decide (nx < off) = false := decide_eq_false (by omega)
  have t4 : IntKind.i64.wrap (nx - off) = nx - off := IntWalk.i64_in _ (by omega)
  have t5 : decide (nx - off < q) = false := decide_eq_false (by omega)
  have t6 : IntKind.i64.wrap (off + q) = off + q := IntWalk.i64_in _ (by omega)
  have t7 : IntKind.i64.wrap (off + q - 1) = off + q - 1 := IntWalk.i64_in _ (by omega)
  go_enter Try.func34, Try.ntmps34
  go_upto_region 1 with (fail)
  refine wp_world (fun w' => Blk w' w.heap.size 50 #[.slice A n c, .bool fin, .int .i64 nx, .int .i64 mx, .slice B m d, .slice C k e, .bool ended, .bool over] ∧ Blk w' (w.heap.size + 1) 35 #[.int .i64 0, .int .i64 0] ∧ Below w.heap.size w w') ⟨(Blk.new _ _ _).alloc _, Blk.new1 _ _ _ _, ((Below.refl _ _).alloc (Nat.le_refl _) _).alloc (by simp) _⟩ ?_
  rintro w1 ⟨hS, hZ, hb1⟩
  have FS := hS.facts8
  go_wp2_with fail
  refine (HV.out.below hb1).check.mono ?_
  rintro e1 w2 ⟨rfl, hb2⟩
  have hS2 := hS.carry hb2
  have hZ2 := hZ.carry hb2
  have hbb := hb1.trans (hb2.mono hb1.size)
  clear FS hS hZ hb1 hb2
  have FS := hS2.facts8
  go_upto_region 4 with (fail)
  go_cut [63] (fun s63 wx => s63 = .bool false ∧ Below w2.heap.size w2 wx)
  case first =>
    cases f with
    | false =>
      clear HP4 HCA
      go_wp2_with fail
      all_goals first
        | (exfalso; rename_i hx hy; simp at hx; done)
        | (go_meet; exact ⟨rfl, Below.refl _ _⟩)
    | true =>
      have hk4 := HP4.out rfl
      have t8 : decide (off + q = (n : Int)) = true := decide_eq_true hk4.2
      have t9 : ((off + q : Int) == (n : Int)) = true := by simp [hk4.2]
      have hon := hk4.2
      rcases HCA.out with ⟨rfl, rfl⟩ | ⟨rfl, rfl, rfl, rfl⟩ | ⟨rfl, rfl, rfl, rfl⟩
      · have h9 : fin = true ∧ nx = n := by simpa using hk4.1
        obtain ⟨rfl, rfl⟩ := h9
        clear HP4 HCA hk4
        go_wp2_with fail
        refine (snEndLost_ok _ A n c mx B m d C k e false false).mono ?_
        rintro e3 w3 ⟨rfl, hb3⟩
        clear FS
        have FS := (hS2.carry hb3).facts8
        go_wp2_with fail
        all_goals first
          | (exfalso; rename_i hx hy; simp at hx; done)
          | (go_meet; exact ⟨by first | rfl | (simp [hon]; done), hb3⟩)
      all_goals
        clear HP4 HCA hk4
        go_wp2_with fail
        all_goals first
          | (exfalso; rename_i hx hy; simp at hx; done)
          | (go_meet; exact ⟨by first | rfl | (simp [hon]; done), Below.refl _ _⟩)
  case rest =>
    obtain ⟨rfl, hbx⟩ := hcut
    have hZ3 := hZ2.carry hbx
    have hb3 := hbb.trans (hbx.mono hbb.size)
    have FZ := hZ3.two
    clear FS hS2 hZ2 hbb hbx
    go_wp2_with fail
    refine bodyPost_ret (v := .tuple #[.agg #[.int .i64 off, .int .i64 (off + q - 1)], .int .i64 0]) ?_ rfl ⟨rfl, ?_⟩
    · simp [results, Try.results34, go_sem, FZ] <;> rfl
    · have h := hb3
      (repeat (first | with_reducible exact h | with_reducible refine Below.drew ?_ | (with_reducible refine Below.set4 ?_ ?side _ _ _ _; case side => (first | omega | (simp; omega) | (simp; done))) | (with_reducible refine Below.setCell ?_ ?side _; case side => (first | omega | (simp; omega) | (simp; done))) | (with_reducible refine Below.alloc ?_ ?side _; case side => (first | omega | (simp; omega) | (simp; done)))))
end Go.Proofs.Ytpmgoediglmofaa
