/- The contract of table.Insert where the field is larger than the table. -/
import Derived.Test.YtihngonemdaihaaInsertWalk
namespace Go.Proofs.Ytihngonemdaihaa
open Go.ChangeShapes Go.WideShapes Go.ChangeAt Go.RowKit
set_option linter.unusedVariables false

set_option maxRecDepth 100000 in
set_option maxHeartbeats 2000000 in
theorem tInsert_big (r : Nat) (put : Int) (A : Option Addr) (n c : Nat) (l : List Fld) (hn : l.length = n) (hnc : n ≤ c) (hcm : c ≤ 9223372036854775807) (h1 : r ≤ 160) (h2 : (n : Int) ≤ put) (h3 : put < 4611686018427387903) (hf : ∀ f ∈ l, FOk f) (hs : tsz l ≤ r)
    (x y : ByteArray) (g0 : 1 ≤ x.size) (g1 : x.size ≤ 20) (g2 : y.size ≤ 40) (p : Nat) (hp : x.size + y.size + 32 = p) (hpr : r < p) (w : World) (hr : RdX fcells 2 w A l) :
    Calls Try.prog 29 #[.agg #[.int .i64 (r : Int), .int .i64 put, .slice A n c], .agg #[.string x, .string y]] w fun e w' => e = .returned (.tuple #[.agg #[.int .i64 0, .int .i64 0, .slice none 0 0], .int .i64 1]) ∧ Below w.heap.size w w' := by
  have HN := Lib.hid hn
  have HR := Lib.hid hr
  have HF := Lib.hid hf
  have HP := Lib.hid hp
  have HS := Lib.hid hs
  have hp2 : p ≤ 1000 := by omega
  clear hn hr hf hp
  go_enter Try.func29, Try.ntmps29
  go_wp2_with fail
  refine (tCheck_ok r put A n c l HN.out hnc hcm (by omega) (by omega) h2 (by omega) HF.out (by have := HS.out; omega) _ (((HR.out.alloc _).alloc _).alloc _)).mono ?_
  rintro e w1 ⟨rfl, hb1⟩
  have hB : Blk w1 w.heap.size 29 #[.int .i64 (r : Int), .int .i64 put, .slice A n c] := (((Blk.new _ _ _).alloc _).alloc _).carry hb1
  have hX : Blk w1 (w.heap.size + 1) 47 #[.string x, .string y] := ((Blk.new1 _ _ _ _).alloc _).carry hb1
  have hC : Blk w1 (w.heap.size + 1 + 1) 29 #[.int .i64 0, .int .i64 0, .slice none 0 0] := (Blk.new2 _ _ _ _ _).carry hb1
  have hbz : Below w.heap.size w w1 := ((((Below.refl _ _).alloc (Nat.le_refl _) _).alloc (by simp) _).alloc (by simp; omega) _).trans (hb1.mono (by simp; omega))
  clear hb1 HR
  have FB := hB.facts3
  have FX := hX.two
  go_wp2_with fail
  refine (tfield_ok x y g0 g1 g2 _).mono ?_
  rintro e w2 ⟨rfl, hb2⟩
  have hB2 := hB.carry hb2
  have hX2 := hX.carry hb2
  have hC2 := hC.carry hb2
  have hb := hbz.trans (hb2.mono hbz.size)
  clear FB FX hB hX hC hbz hb2
  have hfacts : ∀ w', Below w2.heap.size w2 w' → w'.cell? ⟨w.heap.size, 0, none⟩ = some (.int .i64 (r : Int)) ∧ w'.cell? ⟨w.heap.size + 1, 0, none⟩ = some (.string x) ∧ w'.cell? ⟨w.heap.size + 1, 1, none⟩ = some (.string y) := fun w' hw' => ⟨(hB2.carry hw').facts3.2.1, (hX2.carry hw').two.1, (hX2.carry hw').two.2.1⟩
  have HFA := Lib.hid hfacts
  clear hfacts
  have hrp : decide (r < p) = true := decide_eq_true hpr
  go_upto_region 6 with (fail)
  refine wp_region_quiet (C := fun w' => Below (w2).heap.size (w2) w') (by kernel_rfl) (by kernel_rfl) (Below.refl _ _).drew ?_
  repeat (
    with_reducible refine wpQuiet_step ?_
    intro K hK
    go_simp
    first
      | (refine hK _ ?_; clear hK K)
      | (apply Exists.intro
         refine ⟨fun w' hw' => ?_, hK _ ?_⟩
         first
           | (go_at_call 28; exact (tSize_any x y p HP.out (by omega) w').mono (fun e w'' ⟨he, hb⟩ => ⟨he, hw'.trans (hb.mono hw'.size)⟩))
           | (have FF := HFA.out w' hw'; go_simp; done)
           | (have FF := HFA.out w' hw'; go_simp; exact rfl)
         clear hK K))
  
  refine wpQuiet_nil ?_
  intro wq hwq
  have hC := hC2.carry hwq
  have hbq := hb.trans (hwq.mono hb.size)
  have FC := hC.facts3
  clear hB2 hX2 hC2 hb hwq HFA
  go_wp2_with fail
  refine bodyPost_ret (v := .tuple #[.agg #[.int .i64 0, .int .i64 0, .slice none 0 0], .int .i64 1]) ?_ rfl ⟨rfl, ?_⟩
  · simp [results, Try.results29, go_sem, FC]
  · (repeat (first | with_reducible exact hbq | with_reducible refine Below.drew ?_ | (with_reducible refine Below.set4 ?_ ?side _ _ _ _; case side => (first | omega | (simp; omega) | (simp; done))) | (with_reducible refine Below.setCell ?_ ?side _; case side => (first | omega | (simp; omega) | (simp; done))) | (with_reducible refine Below.alloc ?_ ?side _; case side => (first | omega | (simp; omega) | (simp; done)))))
end Go.Proofs.Ytihngonemdaihaa
