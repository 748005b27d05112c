/- The contracts of table.Get. -/
import Derived.Test.YtihngonemdaihaaInsertBigWalk
namespace Go.Proofs.Ytihngonemdaihaa
open Go.ChangeShapes Go.WideShapes Go.ChangeAt Go.RowKit
set_option linter.unusedVariables false

set_option maxHeartbeats 1000000 in
theorem tGet_none (room put : Int) (A : Option Addr) (n c : Nat) (l : List Fld) (hn : l.length = n) (hnc : n ≤ c) (hcm : c ≤ 9223372036854775807) (h0 : 0 ≤ room) (h1 : room ≤ 160) (h2 : (n : Int) ≤ put) (h3 : put ≤ 4611686018427387903) (hf : ∀ f ∈ l, FOk f) (hs : (tsz l : Int) ≤ room) (k : Int) (hk : put ≤ k) (hk1 : k ≤ 4611686018427387903) (w : World) (hr : RdX fcells 2 w A l) :
    Calls Try.prog 47 #[.agg #[.int .i64 room, .int .i64 put, .slice A n c], .int .i64 k] w fun e w' => e = .returned (.tuple #[.agg #[.string ByteArray.empty, .string ByteArray.empty], .int .i64 5]) ∧ Below w.heap.size w w' := by
  have HN := Lib.hid hn
  have HR := Lib.hid hr
  have HF := Lib.hid hf
  have HS := Lib.hid hs
  clear hn hr hf
  go_enter Try.func47, Try.ntmps47
  go_wp2_with fail
  refine (tCheck_ok room put A n c l HN.out hnc hcm h0 h1 h2 h3 HF.out HS.out _ ((HR.out.alloc _).alloc _)).mono ?_
  rintro e w1 ⟨rfl, hb1⟩
  have hB : Blk w1 w.heap.size 29 #[.int .i64 room, .int .i64 put, .slice A n c] := ((Blk.new _ _ _).alloc _).carry hb1
  have hC : Blk w1 (w.heap.size + 1) 47 #[.string ByteArray.empty, .string ByteArray.empty] := (Blk.new1 _ _ _ _).carry hb1
  have hbz : Below w.heap.size w w1 := (((Below.refl _ _).alloc (Nat.le_refl _) _).alloc (by simp) _).trans (hb1.mono (by simp; omega))
  have HR1 := Lib.hid (RdX.below ((HR.out.alloc _).alloc _) hb1)
  clear hb1 HR
  have FB := hB.facts3
  have FC := hC.two
  go_wp2_with fail
  refine bodyPost_ret (v := .tuple #[.agg #[.string ByteArray.empty, .string ByteArray.empty], .int .i64 5]) ?_ rfl ⟨rfl, ?_⟩
  · simp [results, Try.results47, go_sem, FC] <;> rfl
  · (repeat (first | with_reducible exact hbz | with_reducible refine Below.drew ?_ | (with_reducible refine Below.set4 ?_ ?side _ _ _ _; case side => (first | omega | (simp; omega) | (simp; done))) | (with_reducible refine Below.setCell ?_ ?side _; case side => (first | omega | (simp; omega) | (simp; done))) | (with_reducible refine Below.alloc ?_ ?side _; case side => (first | omega | (simp; omega) | (simp; done)))))

set_option maxHeartbeats 1000000 in
theorem tGet_old (room put : Int) (A : Option Addr) (n c : Nat) (l : List Fld) (hn : l.length = n) (hnc : n ≤ c) (hcm : c ≤ 9223372036854775807) (h0 : 0 ≤ room) (h1 : room ≤ 160) (h2 : (n : Int) ≤ put) (h3 : put ≤ 4611686018427387903) (hf : ∀ f ∈ l, FOk f) (hs : (tsz l : Int) ≤ room) (k : Int) (hk0 : 0 ≤ k) (hk : k < put - n) (w : World) (hr : RdX fcells 2 w A l) :
    Calls Try.prog 47 #[.agg #[.int .i64 room, .int .i64 put, .slice A n c], .int .i64 k] w fun e w' => e = .returned (.tuple #[.agg #[.string ByteArray.empty, .string ByteArray.empty], .int .i64 16]) ∧ Below w.heap.size w w' := by
  have HN := Lib.hid hn
  have HR := Lib.hid hr
  have HF := Lib.hid hf
  have HS := Lib.hid hs
  clear hn hr hf
  go_enter Try.func47, Try.ntmps47
  go_wp2_with fail
  refine (tCheck_ok room put A n c l HN.out hnc hcm h0 h1 h2 h3 HF.out HS.out _ ((HR.out.alloc _).alloc _)).mono ?_
  rintro e w1 ⟨rfl, hb1⟩
  have hB : Blk w1 w.heap.size 29 #[.int .i64 room, .int .i64 put, .slice A n c] := ((Blk.new _ _ _).alloc _).carry hb1
  have hC : Blk w1 (w.heap.size + 1) 47 #[.string ByteArray.empty, .string ByteArray.empty] := (Blk.new1 _ _ _ _).carry hb1
  have hbz : Below w.heap.size w w1 := (((Below.refl _ _).alloc (Nat.le_refl _) _).alloc (by simp) _).trans (hb1.mono (by simp; omega))
  have HR1 := Lib.hid (RdX.below ((HR.out.alloc _).alloc _) hb1)
  clear hb1 HR
  have FB := hB.facts3
  have FC := hC.two
  go_wp2_with fail
  refine bodyPost_ret (v := .tuple #[.agg #[.string ByteArray.empty, .string ByteArray.empty], .int .i64 16]) ?_ rfl ⟨rfl, ?_⟩
  · simp [results, Try.results47, go_sem, FC] <;> rfl
  · (repeat (first | with_reducible exact hbz | with_reducible refine Below.drew ?_ | (with_reducible refine Below.set4 ?_ ?side _ _ _ _; case side => (first | omega | (simp; omega) | (simp; done))) | (with_reducible refine Below.setCell ?_ ?side _; case side => (first | omega | (simp; omega) | (simp; done))) | (with_reducible refine Below.alloc ?_ ?side _; case side => (first | omega | (simp; omega) | (simp; done)))))

set_option maxHeartbeats 1000000 in
theorem tGet_ok (room put : Int) (A : Option Addr) (n c : Nat) (l : List Fld) (hn : l.length = n) (hnc : n ≤ c) (hcm : c ≤ 9223372036854775807) (h0 : 0 ≤ room) (h1 : room ≤ 160) (h2 : (n : Int) ≤ put) (h3 : put ≤ 4611686018427387903) (hf : ∀ f ∈ l, FOk f) (hs : (tsz l : Int) ≤ room) (j : Nat) (k : Int) (hj : j < n) (hk : k = put - n + j) (x y : ByteArray) (hx : l.getD j fnil = (x, y)) (w : World) (hr : RdX fcells 2 w A l) :
    Calls Try.prog 47 #[.agg #[.int .i64 room, .int .i64 put, .slice A n c], .int .i64 k] w fun e w' => e = .returned (.tuple #[.agg #[.string x, .string y], .int .i64 0]) ∧ Below w.heap.size w w' := by
  have HN := Lib.hid hn
  have HR := Lib.hid hr
  have HF := Lib.hid hf
  have HS := Lib.hid hs
  clear hn hr hf
  go_enter Try.func47, Try.ntmps47
  go_wp2_with fail
  refine (tCheck_ok room put A n c l HN.out hnc hcm h0 h1 h2 h3 HF.out HS.out _ ((HR.out.alloc _).alloc _)).mono ?_
  rintro e w1 ⟨rfl, hb1⟩
  have hB : Blk w1 w.heap.size 29 #[.int .i64 room, .int .i64 put, .slice A n c] := ((Blk.new _ _ _).alloc _).carry hb1
  have hC : Blk w1 (w.heap.size + 1) 47 #[.string ByteArray.empty, .string ByteArray.empty] := (Blk.new1 _ _ _ _).carry hb1
  have hbz : Below w.heap.size w w1 := (((Below.refl _ _).alloc (Nat.le_refl _) _).alloc (by simp) _).trans (hb1.mono (by simp; omega))
  have HR1 := Lib.hid (RdX.below ((HR.out.alloc _).alloc _) hb1)
  clear hb1 HR
  have FB := hB.facts3
  have FC := hC.two
  obtain ⟨b, off, hA, hcell⟩ := HR1.out.fcell (by have := HN.out; omega)
  subst hA
  obtain ⟨c0, c1⟩ := hcell j (by have := HN.out; omega)
  rw [hx] at c0 c1
  have hj0 : (0 : Int) ≤ (j : Int) := by omega
  have hj1 : (j : Int) < (n : Int) := by omega
  have hkj : k - (put - n) = (j : Int) := by omega
  have hka : 0 ≤ k := by omega
  have hkb : k < put := by omega
  have hkc : ¬ k < put - n := by omega
  clear hcell hx hk
  go_wp2_with fail
  refine bodyPost_ret (v := .tuple #[.agg #[.string x, .string y], .int .i64 0]) ?_ rfl ⟨rfl, ?_⟩
  · simp [results, Try.results47, go_sem, FC] <;> rfl
  · (repeat (first | with_reducible exact hbz | with_reducible refine Below.drew ?_ | (with_reducible refine Below.set4 ?_ ?side _ _ _ _; case side => (first | omega | (simp; omega) | (simp; done))) | (with_reducible refine Below.setCell ?_ ?side _; case side => (first | omega | (simp; omega) | (simp; done))) | (with_reducible refine Below.alloc ?_ ?side _; case side => (first | omega | (simp; omega) | (simp; done)))))
end Go.Proofs.Ytihngonemdaihaa
