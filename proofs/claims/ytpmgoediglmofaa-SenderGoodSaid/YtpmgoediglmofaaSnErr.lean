/- The contracts of sender.Write and sender.Heard where they refuse. -/
import Derived.Test.YtpmgoediglmofaaSnWrite
import Derived.Test.YtpmgoediglmofaaSnHeard
namespace Go.Proofs.Ytpmgoediglmofaa
open Go.ChangeShapes Go.WideShapes Go.ChangeAt Go.RowKit
set_option linter.unusedVariables false

set_option maxRecDepth 100000 in
set_option maxHeartbeats 4000000 in
theorem snWrite_done (w : World) (A : Option Addr) (n c : Nat) (bs : List UInt8) (nx mx : Int) (B : Option Addr) (m d : Nat) (lost : List Rng) (C : Option Addr) (k e : Nat) (acked : List Rng) (ended over : Bool) (h : SnV w A n c bs true nx mx B m d lost C k e acked ended over)
    (X : Option Addr) (x cx : Nat) (f : Bool) :
    Calls Try.prog 16 #[.agg #[.slice A n c, .bool true, .int .i64 nx, .int .i64 mx, .slice B m d, .slice C k e, .bool ended, .bool over], .slice X x cx, .bool f] w fun e' w' => e' = .returned (.tuple #[.agg #[.slice none 0 0, .bool false, .int .i64 0, .int .i64 0, .slice none 0 0, .slice none 0 0, .bool false, .bool false], .int .i64 17]) ∧ Below w.heap.size w w' := by
  have HV := Lib.hid h
  have hn6 := h.ok.n600
  clear h
  go_enter Try.func16, Try.ntmps16
  go_upto_region 1 with (fail)
  refine wp_world (fun w' => Blk w' w.heap.size 50 #[.slice A n c, .bool true, .int .i64 nx, .int .i64 mx, .slice B m d, .slice C k e, .bool ended, .bool over] ∧ Blk w' (w.heap.size + 1) 50 #[.slice none 0 0, .bool false, .int .i64 0, .int .i64 0, .slice none 0 0, .slice none 0 0, .bool false, .bool false] ∧ Below w.heap.size w w') ⟨(Blk.new _ _ _).alloc _, Blk.new1 _ _ _ _, ((Below.refl _ _).alloc (Nat.le_refl _) _).alloc (by simp) _⟩ ?_
  rintro w1 ⟨hS, hZ0, hb1⟩
  have FS := hS.facts8
  go_wp2_with fail
  refine (HV.out.below hb1).check.mono ?_
  rintro e1 w2 ⟨rfl, hb2⟩
  have hS2 := hS.carry hb2
  have hZ2 := hZ0.carry hb2
  have hgs2 := hZ2.lt
  have hbb := hb1.trans (hb2.mono hb1.size)
  clear FS hS hZ0 hb1 hb2
  have FS := hS2.facts8
  have FZ := hZ2.facts8
  have HB := Lib.hid hbb
  clear hbb
  go_wp2_with fail
  refine bodyPost_ret (v := .tuple #[.agg #[.slice none 0 0, .bool false, .int .i64 0, .int .i64 0, .slice none 0 0, .slice none 0 0, .bool false, .bool false], .int .i64 17]) ?_ rfl ⟨rfl, ?_⟩
  · simp [results, Try.results16, go_sem, FZ] <;> rfl
  · have h := HB.out
    (repeat (first | with_reducible exact h | with_reducible refine Below.drew ?_ | (with_reducible refine Below.set4 ?_ ?side _ _ _ _; case side => (first | omega | (simp; omega) | (simp; done))) | (with_reducible refine Below.setCell ?_ ?side _; case side => (first | omega | (simp; omega) | (simp; done))) | (with_reducible refine Below.alloc ?_ ?side _; case side => (first | omega | (simp; omega) | (simp; done)))))

set_option maxRecDepth 100000 in
set_option maxHeartbeats 4000000 in
theorem snWrite_full (w : World) (A : Option Addr) (n c : Nat) (bs : List UInt8) (nx mx : Int) (B : Option Addr) (m d : Nat) (lost : List Rng) (C : Option Addr) (k e : Nat) (acked : List Rng) (ended over : Bool) (h : SnV w A n c bs false nx mx B m d lost C k e acked ended over)
    (X : Option Addr) (x cx : Nat) (f : Bool) (hx : 600 < n + x) (hx1 : x ≤ 1000) :
    Calls Try.prog 16 #[.agg #[.slice A n c, .bool false, .int .i64 nx, .int .i64 mx, .slice B m d, .slice C k e, .bool ended, .bool over], .slice X x cx, .bool f] w fun e' w' => e' = .returned (.tuple #[.agg #[.slice none 0 0, .bool false, .int .i64 0, .int .i64 0, .slice none 0 0, .slice none 0 0, .bool false, .bool false], .int .i64 8]) ∧ Below w.heap.size w w' := by
  have HV := Lib.hid h
  have hn6 := h.ok.n600
  clear h
  have g1 : decide (600 - (n : Int) < (x : Int)) = true := decide_eq_true (by omega)
  have g2 : IntKind.i64.wrap (600 - (n : Int)) = 600 - (n : Int) := IntWalk.i64_in _ (by omega)
  go_enter Try.func16, Try.ntmps16
  go_upto_region 1 with (fail)
  refine wp_world (fun w' => Blk w' w.heap.size 50 #[.slice A n c, .bool false, .int .i64 nx, .int .i64 mx, .slice B m d, .slice C k e, .bool ended, .bool over] ∧ Blk w' (w.heap.size + 1) 50 #[.slice none 0 0, .bool false, .int .i64 0, .int .i64 0, .slice none 0 0, .slice none 0 0, .bool false, .bool false] ∧ Below w.heap.size w w') ⟨(Blk.new _ _ _).alloc _, Blk.new1 _ _ _ _, ((Below.refl _ _).alloc (Nat.le_refl _) _).alloc (by simp) _⟩ ?_
  rintro w1 ⟨hS, hZ0, hb1⟩
  have FS := hS.facts8
  go_wp2_with fail
  refine (HV.out.below hb1).check.mono ?_
  rintro e1 w2 ⟨rfl, hb2⟩
  have hS2 := hS.carry hb2
  have hZ2 := hZ0.carry hb2
  have hgs2 := hZ2.lt
  have hbb := hb1.trans (hb2.mono hb1.size)
  clear FS hS hZ0 hb1 hb2
  have FS := hS2.facts8
  have FZ := hZ2.facts8
  have HB := Lib.hid hbb
  clear hbb
  go_wp2_with fail
  refine bodyPost_ret (v := .tuple #[.agg #[.slice none 0 0, .bool false, .int .i64 0, .int .i64 0, .slice none 0 0, .slice none 0 0, .bool false, .bool false], .int .i64 8]) ?_ rfl ⟨rfl, ?_⟩
  · simp [results, Try.results16, go_sem, FZ] <;> rfl
  · have h := HB.out
    (repeat (first | with_reducible exact h | with_reducible refine Below.drew ?_ | (with_reducible refine Below.set4 ?_ ?side _ _ _ _; case side => (first | omega | (simp; omega) | (simp; done))) | (with_reducible refine Below.setCell ?_ ?side _; case side => (first | omega | (simp; omega) | (simp; done))) | (with_reducible refine Below.alloc ?_ ?side _; case side => (first | omega | (simp; omega) | (simp; done)))))

set_option maxRecDepth 100000 in
set_option maxHeartbeats 4000000 in
/-- Told of what was never sent. -/
theorem snPart_far (w : World) (A : Option Addr) (n c : Nat) (bs : List UInt8) (fin : Bool) (nx mx : Int) (B : Option Addr) (m d : Nat) (lost : List Rng) (C : Option Addr) (k e : Nat) (acked : List Rng) (ended over : Bool) (h : SnV w A n c bs fin nx mx B m d lost C k e acked ended over) :
    Calls Try.prog 34 #[.agg #[.slice A n c, .bool fin, .int .i64 nx, .int .i64 mx, .slice B m d, .slice C k e, .bool ended, .bool over], .int .i64 nx, .int .i64 1, .bool false] w fun e' w' => e' = .returned (.tuple #[.agg #[.int .i64 0, .int .i64 0], .int .i64 13]) ∧ Below w.heap.size w w' := by
  have HV := Lib.hid h
  have hn6 := h.ok.n600
  have hx0 := h.ok.x0
  have hx1 := h.ok.x1
  clear h
  have t1 : decide (nx < 0) = false := decide_eq_false (by omega)
  have t3 : decide (nx < nx) = false := decide_eq_false (by omega)
  have t4 : IntKind.i64.wrap (nx - nx) = 0 := by rw [IntKind.wrap_i64]; omega
  go_enter Try.func34, Try.ntmps34
  go_upto_region 1 with (fail)
  refine wp_world (fun w' => Blk w' w.heap.size 50 #[.slice A n c, .bool fin, .int .i64 nx, .int .i64 mx, .slice B m d, .slice C k e, .bool ended, .bool over] ∧ Blk w' (w.heap.size + 1) 35 #[.int .i64 0, .int .i64 0] ∧ Below w.heap.size w w') ⟨(Blk.new _ _ _).alloc _, Blk.new1 _ _ _ _, ((Below.refl _ _).alloc (Nat.le_refl _) _).alloc (by simp) _⟩ ?_
  rintro w1 ⟨hS, hZ, hb1⟩
  have FS := hS.facts8
  go_wp2_with fail
  refine (HV.out.below hb1).check.mono ?_
  rintro e1 w2 ⟨rfl, hb2⟩
  have hS2 := hS.carry hb2
  have hZ2 := hZ.carry hb2
  have hgs2 := hZ2.lt
  have hbb := hb1.trans (hb2.mono hb1.size)
  clear FS hS hZ hb1 hb2
  have FS := hS2.facts8
  have FZ := hZ2.two
  have HB := Lib.hid hbb
  clear hbb
  go_wp2_with fail
  refine bodyPost_ret (v := .tuple #[.agg #[.int .i64 0, .int .i64 0], .int .i64 13]) ?_ rfl ⟨rfl, ?_⟩
  · simp [results, Try.results34, go_sem, FZ] <;> rfl
  · have h := HB.out
    (repeat (first | with_reducible exact h | with_reducible refine Below.drew ?_ | (with_reducible refine Below.set4 ?_ ?side _ _ _ _; case side => (first | omega | (simp; omega) | (simp; done))) | (with_reducible refine Below.setCell ?_ ?side _; case side => (first | omega | (simp; omega) | (simp; done))) | (with_reducible refine Below.alloc ?_ ?side _; case side => (first | omega | (simp; omega) | (simp; done)))))

set_option maxRecDepth 100000 in
set_option maxHeartbeats 4000000 in
theorem snHeard_far (w : World) (A : Option Addr) (n c : Nat) (bs : List UInt8) (fin : Bool) (nx mx : Int) (B : Option Addr) (m d : Nat) (lost : List Rng) (C : Option Addr) (k e : Nat) (acked : List Rng) (ended over : Bool) (h : SnV w A n c bs fin nx mx B m d lost C k e acked ended over) :
    Calls Try.prog 20 #[.agg #[.slice A n c, .bool fin, .int .i64 nx, .int .i64 mx, .slice B m d, .slice C k e, .bool ended, .bool over], .int .i64 nx, .int .i64 1, .bool false] w fun e' w' => e' = .returned (.tuple #[.agg #[.slice none 0 0, .bool false, .int .i64 0, .int .i64 0, .slice none 0 0, .slice none 0 0, .bool false, .bool false], .int .i64 13]) ∧ Below w.heap.size w w' := by
  have HV := Lib.hid h
  clear h
  go_enter Try.func20, Try.ntmps20
  go_upto_region 1 with (fail)
  refine wp_world (fun w' => Blk w' w.heap.size 50 #[.slice A n c, .bool fin, .int .i64 nx, .int .i64 mx, .slice B m d, .slice C k e, .bool ended, .bool over] ∧ Blk w' (w.heap.size + 1) 50 #[.slice none 0 0, .bool false, .int .i64 0, .int .i64 0, .slice none 0 0, .slice none 0 0, .bool false, .bool false] ∧ Below w.heap.size w w') ⟨(Blk.new _ _ _).alloc _, Blk.new1 _ _ _ _, ((Below.refl _ _).alloc (Nat.le_refl _) _).alloc (by simp) _⟩ ?_
  rintro w1 ⟨hS, hZ0, hb1⟩
  have FS := hS.facts8
  go_wp2_with fail
  refine (snPart_far _ A n c bs fin nx mx B m d lost C k e acked ended over (HV.out.below hb1)).mono ?_
  rintro e1 w2 ⟨rfl, hb2⟩
  have hZ2 := hZ0.carry hb2
  have hgs2 := hZ2.lt
  have hbb := hb1.trans (hb2.mono hb1.size)
  clear FS hS hZ0 hb1 hb2
  have FZ := hZ2.facts8
  have HB := Lib.hid hbb
  clear hbb
  have kk : w2.heap.size ≠ w.heap.size + 1 := by omega
  go_wp2_with fail
  refine bodyPost_ret (v := .tuple #[.agg #[.slice none 0 0, .bool false, .int .i64 0, .int .i64 0, .slice none 0 0, .slice none 0 0, .bool false, .bool false], .int .i64 13]) ?_ rfl ⟨rfl, ?_⟩
  · simp [results, Try.results20, go_sem, FZ] <;> rfl
  · have h := HB.out
    (repeat (first | with_reducible exact h | with_reducible refine Below.drew ?_ | (with_reducible refine Below.set4 ?_ ?side _ _ _ _; case side => (first | omega | (simp; omega) | (simp; done))) | (with_reducible refine Below.setCell ?_ ?side _; case side => (first | omega | (simp; omega) | (simp; done))) | (with_reducible refine Below.alloc ?_ ?side _; case side => (first | omega | (simp; omega) | (simp; done)))))
end Go.Proofs.Ytpmgoediglmofaa
