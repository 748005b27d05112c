/- The contract of table.Insert. -/
import Derived.Test.YtihngonemdaihaaFittedWalk
import Derived.Deep.DeepCutAuto
namespace Go.Proofs.Ytihngonemdaihaa
open Go.ChangeShapes Go.WideShapes Go.ChangeAt Go.RowKit
set_option linter.unusedVariables false

set_option maxRecDepth 100000 in
set_option maxHeartbeats 2000000 in
theorem tInsert_own (r : Nat) (put : Int) (A : Option Addr) (n c : Nat) (l : List Fld) (hn : l.length = n) (hnc : n ≤ c) (hcm : c ≤ 9223372036854775807) (h1 : r ≤ 160) (h2 : (n : Int) ≤ put) (h3 : put < 4611686018427387903) (hf : ∀ f ∈ l, FOk f) (hs : tsz l ≤ r)
    (x y : ByteArray) (g0 : 1 ≤ x.size) (g1 : x.size ≤ 20) (g2 : y.size ≤ 40) (p : Nat) (hp : x.size + y.size + 32 = p) (hpr : p ≤ r) (R : List Fld) (k_ : Nat) (hR : fitR l (r - p) ++ [(x, y)] = R) (hk : R.length = k_) (w : World) (hr : RdX fcells 2 w A l) :
    Calls Try.prog 29 #[.agg #[.int .i64 (r : Int), .int .i64 put, .slice A n c], .agg #[.string x, .string y]] w fun e w' => ∃ A' c', e = .returned (.tuple #[.agg #[.int .i64 (r : Int), .int .i64 (put + 1), .slice A' k_ c'], .int .i64 0]) ∧ k_ ≤ c' ∧ c' ≤ 9223372036854775807 ∧ OwnX fcells 2 w' w.heap.size 47 A' c' R ∧ Below w.heap.size w w' := by
  have HN := Lib.hid hn
  have HR := Lib.hid hr
  have HF := Lib.hid hf
  have HRR := Lib.hid hR
  have HK := Lib.hid hk
  have HP := Lib.hid hp
  obtain ⟨Q, hQ⟩ : ∃ Q, fitR l (r - p) = Q := ⟨_, rfl⟩
  have hQl : Q.length + 1 = k_ := by rw [← hk, ← hR, hQ]; simp
  have hQ1 : Q.length ≤ 100000 := by rw [← hQ]; have := tsz_len (fitR l (r - p)); have := fitR_fits l (r - p); omega
  have HQ := Lib.hid hQ
  have HQL := Lib.hid hQl
  have HS := Lib.hid hs
  clear hn hr hf hR hk hp hQ hQl
  go_enter Try.func29, Try.ntmps29
  go_wp2_with fail
  refine (tCheck_ok r put A n c l HN.out hnc hcm (by omega) (by omega) h2 (by omega) HF.out (by have := HS.out; omega) _ (((HR.out.alloc _).alloc _).alloc _)).mono ?_
  rintro e w1 ⟨rfl, hb1⟩
  have hB : Blk w1 w.heap.size 29 #[.int .i64 (r : Int), .int .i64 put, .slice A n c] := (((Blk.new _ _ _).alloc _).alloc _).carry hb1
  have hX : Blk w1 (w.heap.size + 1) 47 #[.string x, .string y] := ((Blk.new1 _ _ _ _).alloc _).carry hb1
  have hC : Blk w1 (w.heap.size + 1 + 1) 29 #[.int .i64 0, .int .i64 0, .slice none 0 0] := (Blk.new2 _ _ _ _ _).carry hb1
  have hbz : Below w.heap.size w w1 := ((((Below.refl _ _).alloc (Nat.le_refl _) _).alloc (by simp) _).alloc (by simp; omega) _).trans (hb1.mono (by simp; omega))
  have HR1 := Lib.hid (RdX.below (((HR.out.alloc _).alloc _).alloc _) hb1)
  clear hb1 HR
  have FB := hB.facts3
  have FX := hX.two
  go_wp2_with fail
  refine (tfield_ok x y g0 g1 g2 _).mono ?_
  rintro e w2 ⟨rfl, hb2⟩
  have hB2 := hB.carry hb2
  have hX2 := hX.carry hb2
  have hC2 := hC.carry hb2
  have hb := hbz.trans (hb2.mono hbz.size)
  have HR2 := Lib.hid (RdX.below HR1.out hb2)
  clear FB FX hB hX hC hbz hb2 HR1
  have hfacts : ∀ w', Below w2.heap.size w2 w' → w'.cell? ⟨w.heap.size, 0, none⟩ = some (.int .i64 (r : Int)) ∧ w'.cell? ⟨w.heap.size + 1, 0, none⟩ = some (.string x) ∧ w'.cell? ⟨w.heap.size + 1, 1, none⟩ = some (.string y) := fun w' hw' => ⟨(hB2.carry hw').facts3.2.1, (hX2.carry hw').two.1, (hX2.carry hw').two.2.1⟩
  have HFA := Lib.hid hfacts
  clear hfacts
  have hrp : decide (r < p) = false := decide_eq_false (by omega)
  have hpm : (put == 4611686018427387903) = false := by simp; omega
  go_upto_region 6 with (fail)
  refine wp_region_quiet (C := fun w' => Below (w2).heap.size (w2) w') (by kernel_rfl) (by kernel_rfl) (Below.refl _ _).drew ?_
  repeat (
    with_reducible refine wpQuiet_step ?_
    intro K hK
    go_simp
    first
      | (refine hK _ ?_; clear hK K)
      | (apply Exists.intro
         refine ⟨fun w' hw' => ?_, hK _ ?_⟩
         first
           | (go_at_call 28; exact (tSize_any x y p HP.out (by omega) w').mono (fun e w'' ⟨he, hb⟩ => ⟨he, hw'.trans (hb.mono hw'.size)⟩))
           | (have FF := HFA.out w' hw'; go_simp; done)
           | (have FF := HFA.out w' hw'; go_simp; exact rfl)
         clear hK K))
  
  refine wpQuiet_nil ?_
  intro wq hwq
  have hB := hB2.carry hwq
  have hX := hX2.carry hwq
  have hC := hC2.carry hwq
  have hbq := hb.trans (hwq.mono hb.size)
  have HRq := Lib.hid (RdX.below HR2.out hwq)
  clear hB2 hX2 hC2 hb hwq HR2 HFA
  have FB := hB.facts3
  have FX := hX.two
  have FC := hC.facts3
  have hsub : IntKind.i64.wrap ((r : Int) - (p : Int)) = ((r - p : Nat) : Int) := by rw [show (r : Int) - (p : Int) = ((r - p : Nat) : Int) by omega]; exact IntWalk.i64_in _ (by omega)
  have hqs0 := hC.lt
  go_upto_region 10 with (fail)
  go_cut [] from 30 to 47 (fun wx => ∃ A' c', Blk wx w.heap.size 29 #[.int .i64 (r : Int), .int .i64 put, .slice A' Q.length c'] ∧ Q.length ≤ c' ∧ OwnX fcells 2 wx wq.heap.size 47 A' c' Q ∧ Blk wx (w.heap.size + 1) 47 #[.string x, .string y] ∧ Blk wx (w.heap.size + 1 + 1) 29 #[.int .i64 0, .int .i64 0, .slice none 0 0] ∧ Below w.heap.size w wx ∧ wq.heap.size ≤ wx.heap.size)
  case first =>
    go_region_with (first
      | (go_at_call 28; refine (tSize_any x y p HP.out (by omega) _).mono ?_; rintro e w4 ⟨rfl, hb4⟩; have FB4 := (hB.drew.carry hb4).facts3)
      | (go_at_call 37; refine (fitted_own (r : Int) put A n c l HN.out hnc hcm (r - p) (by have := HS.out; omega) Q _ HQ.out rfl _ (RdX.below (w := wq.drew) HRq.out hb4)).mono ?_; rintro e w5 ⟨A5, c5, rfl, hc5, hc5', hO5, hb5⟩; have FB5 := ((hB.drew.carry hb4).carry hb5).facts3))
    all_goals
      go_wp2_with fail
      go_meet
      have hB5 := (hB.drew.carry hb4).carry hb5
      have hX5 := (hX.drew.carry hb4).carry hb5
      have hC5 := (hC.drew.carry hb4).carry hb5
      have hgl : w.heap.size < w4.heap.size := (hB.drew.carry hb4).lt
      have hbw := (hbq.drew.trans (hb4.mono (by have := hbq.size; exact this))).trans (hb5.mono (by have := hbq.size; have := hb4.size; omega))
      have hqs : wq.heap.size ≤ w4.heap.size := hb4.size
      have hq5 : wq.heap.size ≤ w5.heap.size := Nat.le_trans hqs hb5.size
      refine ⟨A5, c5, ?_, hc5, ?_, ?_, ?_, ?_, ?_⟩
      · (apply Blk.as; (case h => (repeat (first | with_reducible exact hB5 | with_reducible apply Blk.drew | with_reducible apply Blk.set4 | with_reducible apply Blk.set_ | (with_reducible apply Blk.far4 (hne := ?side); case side => (first | omega | (simp; omega) | (simp; done))) | (with_reducible apply Blk.far (hp := ?side); case side => (first | omega | (simp; omega) | (simp; done))) | with_reducible apply Blk.alloc))); (case e => (first | with_reducible rfl | (simp; done) | rfl)))
      · exact (((hO5.set_below hgl _).set_below hgl _).set_below hgl _).mono hqs
      · (apply Blk.as; (case h => (repeat (first | with_reducible exact hX5 | with_reducible apply Blk.drew | with_reducible apply Blk.set4 | with_reducible apply Blk.set_ | (with_reducible apply Blk.far4 (hne := ?side); case side => (first | omega | (simp; omega) | (simp; done))) | (with_reducible apply Blk.far (hp := ?side); case side => (first | omega | (simp; omega) | (simp; done))) | with_reducible apply Blk.alloc))); (case e => (first | with_reducible rfl | (simp; done) | rfl)))
      · (apply Blk.as; (case h => (repeat (first | with_reducible exact hC5 | with_reducible apply Blk.drew | with_reducible apply Blk.set4 | with_reducible apply Blk.set_ | (with_reducible apply Blk.far4 (hne := ?side); case side => (first | omega | (simp; omega) | (simp; done))) | (with_reducible apply Blk.far (hp := ?side); case side => (first | omega | (simp; omega) | (simp; done))) | with_reducible apply Blk.alloc))); (case e => (first | with_reducible rfl | (simp; done) | rfl)))
      · (repeat (first | with_reducible exact hbw | with_reducible refine Below.drew ?_ | (with_reducible refine Below.set4 ?_ ?side _ _ _ _; case side => (first | omega | (simp; omega) | (simp; done))) | (with_reducible refine Below.setCell ?_ ?side _; case side => (first | omega | (simp; omega) | (simp; done))) | (with_reducible refine Below.alloc ?_ ?side _; case side => (first | omega | (simp; omega) | (simp; done)))))
      · simpa using hq5
  case rest =>
    clear hsub FB FX FC hB hX hC hbq HRq
    obtain ⟨A3, c3, hB, hc3, hO, hX, hC, hb, hqw⟩ := hcut
    have HO := Lib.hid hO
    clear hO
    have FB := hB.facts3
    have FX := hX.two
    go_wp2_with (at_builtin
                 refine wpList_appX fcells 2 fcells_one _ rfl (.tmp 38) (.tmp 40) _ rfl wq.heap.size 47 _ 32 Try.underlying23 fldInfo rfl (by decide) (by decide) A3 Q.length c3 Q rfl rfl (HO.out.alloc _) _ 1 1 [(x, y)] rfl rfl (RdX.oneH _ _ (x, y) _ rfl rfl (by simp)) R (by rw [← HRR.out, HQ.out]) k_ HQL.out (by omega) (by simp; omega) ?_
                 intro A6 c6 w6 hO6 hc6 hc6' hb6 hgr6
                 have FB6 := ((hB.alloc _).below hb6 (by omega)).facts3
                 have FC6 := ((hC.alloc _).below hb6 (by omega)).facts3)
    have hB6 := (hB.alloc (.cells #[.string x, .string y] 47)).below hb6 (by omega)
    have hbn := (hb.alloc hb.size (.cells #[.string x, .string y] 47)).trans (hb6.mono (by omega))
    refine bodyPost_ret (v := .tuple #[.agg #[.int .i64 (r : Int), .int .i64 (put + 1), .slice A6 k_ c6], .int .i64 0]) ?_ rfl ⟨A6, c6, rfl, hc6, hc6', ?_, ?_⟩
    · simp [results, Try.results29, go_sem, FC6]
    · have e1 : w.heap.size < wq.heap.size := by omega
      exact (((((hO6.set_below e1 _).set_below e1 _).set_below hqs0 _).set_below hqs0 _).set_below hqs0 _).mono (by omega)
    · (repeat (first | with_reducible exact hbn | with_reducible refine Below.drew ?_ | (with_reducible refine Below.set4 ?_ ?side _ _ _ _; case side => (first | omega | (simp; omega) | (simp; done))) | (with_reducible refine Below.setCell ?_ ?side _; case side => (first | omega | (simp; omega) | (simp; done))) | (with_reducible refine Below.alloc ?_ ?side _; case side => (first | omega | (simp; omega) | (simp; done)))))

theorem tInsert_ok (r : Nat) (put : Int) (A : Option Addr) (n c : Nat) (l : List Fld) (hn : l.length = n) (hnc : n ≤ c) (hcm : c ≤ 9223372036854775807) (h1 : r ≤ 160) (h2 : (n : Int) ≤ put) (h3 : put < 4611686018427387903) (hf : ∀ f ∈ l, FOk f) (hs : tsz l ≤ r)
    (x y : ByteArray) (g0 : 1 ≤ x.size) (g1 : x.size ≤ 20) (g2 : y.size ≤ 40) (p : Nat) (hp : x.size + y.size + 32 = p) (hpr : p ≤ r) (R : List Fld) (k_ : Nat) (hR : fitR l (r - p) ++ [(x, y)] = R) (hk : R.length = k_) (w : World) (hr : RdX fcells 2 w A l) :
    Calls Try.prog 29 #[.agg #[.int .i64 (r : Int), .int .i64 put, .slice A n c], .agg #[.string x, .string y]] w fun e w' => ∃ A' c', e = .returned (.tuple #[.agg #[.int .i64 (r : Int), .int .i64 (put + 1), .slice A' k_ c'], .int .i64 0]) ∧ k_ ≤ c' ∧ c' ≤ 9223372036854775807 ∧ RdX fcells 2 w' A' R ∧ Below w.heap.size w w' :=
  (tInsert_own r put A n c l hn hnc hcm h1 h2 h3 hf hs x y g0 g1 g2 p hp hpr R k_ hR hk w hr).mono fun e w' ⟨A', c', he, hc, hc', ho, hb⟩ => ⟨A', c', he, hc, hc', ho.rd, hb⟩
end Go.Proofs.Ytihngonemdaihaa
