/- The contract of sender.Write. -/
import Derived.Test.YtpmgoediglmofaaSnBase
namespace Go.Proofs.Ytpmgoediglmofaa
open Go.ChangeShapes Go.WideShapes Go.ChangeAt Go.RowKit
set_option linter.unusedVariables false

set_option maxRecDepth 100000 in
set_option maxHeartbeats 8000000 in
theorem snWrite_ok (w : World) (A : Option Addr) (n c : Nat) (bs : List UInt8) (nx mx : Int) (B : Option Addr) (m d : Nat) (lost : List Rng) (C : Option Addr) (k e : Nat) (acked : List Rng) (ended over : Bool) (h : SnV w A n c bs false nx mx B m d lost C k e acked ended over)
    (X : Option Addr) (x cx : Nat) (xs : List UInt8) (hx : xs.length = x) (hxc : x ≤ cx) (hcx : cx ≤ 9223372036854775807) (hr : RdB w X xs) (hnx : n + x ≤ 600) (f : Bool) (zs : List UInt8) (hz : bs ++ xs = zs) (z : Nat) (hzl : n + x = z) :
    Calls Try.prog 16 #[.agg #[.slice A n c, .bool false, .int .i64 nx, .int .i64 mx, .slice B m d, .slice C k e, .bool ended, .bool over], .slice X x cx, .bool f] w fun e' w' =>
      ∃ (A' : Option Addr) (c' : Nat) (B' : Option Addr) (d' : Nat) (C' : Option Addr) (k' : Nat), e' = .returned (.tuple #[.agg #[.slice A' z c', .bool f, .int .i64 nx, .int .i64 mx, .slice B' m d', .slice C' k k', .bool ended, .bool over], .int .i64 0]) ∧
        SpKeep w w' (fun W => SnV W A' z c' zs f nx mx B' m d' lost C' k k' acked ended over) ∧ Below w.heap.size w w' := by
  have HV := Lib.hid h
  have HX := Lib.hid hx
  have HR := Lib.hid hr
  have HZ := Lib.hid hz
  have hn6 := h.ok.n600
  have hnc := h.hnc
  have hcm := h.hcm
  have HZL := Lib.hid hzl
  clear h hx hr hz hzl
  have g1 : decide (600 - (n : Int) < (x : Int)) = false := decide_eq_false (by omega)
  have g2 : IntKind.i64.wrap (600 - (n : Int)) = 600 - (n : Int) := IntWalk.i64_in _ (by omega)
  go_enter Try.func16, Try.ntmps16
  go_upto_region 1 with (fail)
  refine wp_world (fun w' => Blk w' w.heap.size 50 #[.slice A n c, .bool false, .int .i64 nx, .int .i64 mx, .slice B m d, .slice C k e, .bool ended, .bool over] ∧ Blk w' (w.heap.size + 1) 50 #[.slice none 0 0, .bool false, .int .i64 0, .int .i64 0, .slice none 0 0, .slice none 0 0, .bool false, .bool false] ∧ Below w.heap.size w w') ⟨(Blk.new _ _ _).alloc _, Blk.new1 _ _ _ _, ((Below.refl _ _).alloc (Nat.le_refl _) _).alloc (by simp) _⟩ ?_
  rintro w1 ⟨hS, hZ0, hb1⟩
  have FS := hS.facts8
  go_wp2_with fail
  refine (HV.out.below hb1).check.mono ?_
  rintro e1 w2 ⟨rfl, hb2⟩
  have hS2 := hS.carry hb2
  have hZ2 := hZ0.carry hb2
  have hbb := hb1.trans (hb2.mono hb1.size)
  clear FS hS hZ0 hb1 hb2
  have FS := hS2.facts8
  go_wp2_with fail
  refine (HV.out.below hbb).fresh.mono ?_
  rintro e2 w3 ⟨A', c', B', d', C', k', rfl, hO, hap, hb3⟩
  have hgs2 := hZ2.lt
  have hS3 := hS2.carry hb3
  have hZ3 := hZ2.carry hb3
  have hb13 := hbb.trans (hb3.mono hbb.size)
  have hz3 := hb3.size
  have HAP := Lib.hid hap
  clear FS hS2 hZ2 hbb hb3 hap
  have FS := hS3.facts8
  go_upto_region 9 with (fail)
  refine wp_world (fun w' => Blk w' w.heap.size 50 #[.slice A' n c', .bool false, .int .i64 nx, .int .i64 mx, .slice B' m d', .slice C' k k', .bool ended, .bool over] ∧ Blk w' (w.heap.size + 1) 50 #[.slice none 0 0, .bool false, .int .i64 0, .int .i64 0, .slice none 0 0, .slice none 0 0, .bool false, .bool false] ∧ SnO w' w2.heap.size A' c' bs B' d' lost C' k' acked ∧ Below w.heap.size w w' ∧ w2.heap.size ≤ w'.heap.size) ⟨((((((((hS3.set_ 0 _).set_ 1 _).set_ 2 _).set_ 3 _).set_ 4 _).set_ 5 _).set_ 6 _).set_ 7 _).as (by rfl), by (apply Blk.as; (case h => (repeat (first | with_reducible exact hZ3 | with_reducible apply Blk.drew | with_reducible apply Blk.set4 | with_reducible apply Blk.set_ | (with_reducible apply Blk.far4 (hne := ?side); case side => (first | omega | (simp; omega) | (simp; done))) | (with_reducible apply Blk.far (hp := ?side); case side => (first | omega | (simp; omega) | (simp; done))) | with_reducible apply Blk.alloc))); (case e => (first | with_reducible rfl | (simp; done) | rfl))), ?_, by (repeat (first | with_reducible exact hb13 | with_reducible refine Below.drew ?_ | (with_reducible refine Below.set4 ?_ ?side _ _ _ _; case side => (first | omega | (simp; omega) | (simp; done))) | (with_reducible refine Below.setCell ?_ ?side _; case side => (first | omega | (simp; omega) | (simp; done))) | (with_reducible refine Below.alloc ?_ ?side _; case side => (first | omega | (simp; omega) | (simp; done))))), by simpa using hz3⟩ ?_
  · (repeat (first | with_reducible exact hO | ((with_reducible refine SnO.set ?_ ?side _); case side => (show w.heap.size < w2.heap.size; omega))))
  clear FS hS3 hZ3 hb13 hO hz3
  rintro w4 ⟨hS4, hZ4, hO4, hb4, hz4⟩
  have FS := hS4.facts8
  have HO4 := Lib.hid hO4
  have HX4 := Lib.hid (HR.out.below hb4)
  have hcap : n ≤ c' ∧ c' ≤ 9223372036854775807 := by have h := hO4.a.cap; rw [HV.out.hn] at h; exact h
  have hlt : ∀ x, A' = some x → x.block < w4.heap.size := fun x hx => (hO4.a.lt (n := 0) x.block (by rw [slice_own, hx]; rfl)).2
  have HLT := Lib.hid hlt
  clear hO4 hlt
  go_upto_region 10 with (at_builtin; refine wpList_appL u8c 1 u8c_one _ rfl (.tmp 31) (.tmp 32) _ rfl w2.heap.size 5 _ 1 Try.underlying48 u8InfoS rfl (by decide) (by decide) A' n c' bs rfl HV.out.hn HO4.out.a X x cx xs rfl HX.out HX4.out.x zs HZ.out z HZL.out (by omega) hz4 ?_; intro A5 c5 w5 hO5 hc5 hm5 hb5 hgr5 hat5; have hS5 := hS4.below hb5 (by omega); have FS := hS5.facts8)
  have hbw : w.heap.size ≤ w2.heap.size := by omega
  have hZ5 := hZ4.below hb5 hgs2
  have hb45 := hb4.trans (hb5.mono hbw)
  have hO5_ : SnO w5 w2.heap.size A5 c5 zs B' d' lost C' k' acked := ⟨hO5, HO4.out.l.grown hgr5 (apart_own fun x y hx hy => HAP.out x y hx (.inl hy)), HO4.out.k.grown hgr5 (apart_own fun x y hx hy => HAP.out x y hx (.inr hy))⟩
  refine wp_world (fun w' => Blk w' w.heap.size 50 #[.slice A5 z c5, .bool f, .int .i64 nx, .int .i64 mx, .slice B' m d', .slice C' k k', .bool ended, .bool over] ∧ Blk w' (w.heap.size + 1) 50 #[.slice none 0 0, .bool false, .int .i64 0, .int .i64 0, .slice none 0 0, .slice none 0 0, .bool false, .bool false] ∧ SnO w' w2.heap.size A5 c5 zs B' d' lost C' k' acked ∧ Below w.heap.size w w') ⟨((hS5.set_ 0 _).set_ 1 _).as (by rfl), by (apply Blk.as; (case h => (repeat (first | with_reducible exact hZ5 | with_reducible apply Blk.drew | with_reducible apply Blk.set4 | with_reducible apply Blk.set_ | (with_reducible apply Blk.far4 (hne := ?side); case side => (first | omega | (simp; omega) | (simp; done))) | (with_reducible apply Blk.far (hp := ?side); case side => (first | omega | (simp; omega) | (simp; done))) | with_reducible apply Blk.alloc))); (case e => (first | with_reducible rfl | (simp; done) | rfl))), (hO5_.set (by show w.heap.size < w2.heap.size; omega) _).set (by show w.heap.size < w2.heap.size; omega) _, by (repeat (first | with_reducible exact hb45 | with_reducible refine Below.drew ?_ | (with_reducible refine Below.set4 ?_ ?side _ _ _ _; case side => (first | omega | (simp; omega) | (simp; done))) | (with_reducible refine Below.setCell ?_ ?side _; case side => (first | omega | (simp; omega) | (simp; done))) | (with_reducible refine Below.alloc ?_ ?side _; case side => (first | omega | (simp; omega) | (simp; done)))))⟩ ?_
  clear FS hS4 hZ4 hb4 HO4 hO5 hb5 hgr5 hat5 hS5 hZ5 hb45 hO5_ HX4
  rintro w6 ⟨hS6, hZ6, hO6, hb6⟩
  have FS := hS6.facts8
  have FZ := hZ6.facts8
  have HO6 := Lib.hid hO6
  have HB6 := Lib.hid hb6
  clear hO6 hb6
  go_wp2_with fail
  refine bodyPost_ret (v := .tuple #[.agg #[.slice A5 z c5, .bool f, .int .i64 nx, .int .i64 mx, .slice B' m d', .slice C' k k', .bool ended, .bool over], .int .i64 0]) ?_ rfl ⟨A5, c5, B', d', C', k', rfl, ?_, ?_⟩
  · simp [results, Try.results16, go_sem, FZ] <;> rfl
  · refine SnO.keep (b := w2.heap.size) ?_ (by omega) (by rw [← HZ.out, List.length_append, HV.out.hn, HX.out, HZL.out]) HV.out.hm HV.out.hk (by have h := HV.out.ok.write x (by omega) f; rwa [HZL.out] at h)
    have hO := HO6.out
    (repeat (first | with_reducible exact hO | ((with_reducible refine SnO.set ?_ ?side _); case side => (show w.heap.size + 1 < w2.heap.size; omega))))
  · have h := HB6.out
    (repeat (first | with_reducible exact h | with_reducible refine Below.drew ?_ | (with_reducible refine Below.set4 ?_ ?side _ _ _ _; case side => (first | omega | (simp; omega) | (simp; done))) | (with_reducible refine Below.setCell ?_ ?side _; case side => (first | omega | (simp; omega) | (simp; done))) | (with_reducible refine Below.alloc ?_ ?side _; case side => (first | omega | (simp; omega) | (simp; done)))))
end Go.Proofs.Ytpmgoediglmofaa
