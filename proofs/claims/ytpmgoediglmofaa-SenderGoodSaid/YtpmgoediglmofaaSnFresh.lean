/- The contract of sender.fresh. -/
import Derived.Test.YtpmgoediglmofaaSenderSt
namespace Go.Proofs.Ytpmgoediglmofaa
open Go.ChangeShapes Go.WideShapes Go.ChangeAt Go.RowKit
set_option linter.unusedVariables false

theorem u8InfoS : (Try.prog.info? 5).map (fun i => (i.zero, i.size, i.bytes)) = some (some (.int .u8 0), 1, 1) := by kernel_rfl
theorem OwnB.setB {w : World} {base : Nat} {E : TypeId} {A : Option Addr} {c : Nat} {bs : List UInt8} (h : OwnB w base E A c bs) {p : Addr} (hp : p.block < base) (u : Value) : OwnB (w.setCell p u) base E A c bs := ownsRow_setCell_below h hp u
theorem OwnB.lt {w : World} {base : Nat} {E : TypeId} {A : Option Addr} {c : Nat} {bs : List UInt8} (h : OwnB w base E A c bs) : ∀ x, A = some x → base ≤ x.block ∧ x.block < w.heap.size := fun x hx => own_block_lt h x.block (by rw [hx]; rfl)
theorem OwnB.monoB {w : World} {base base' : Nat} {E : TypeId} {A : Option Addr} {c : Nat} {bs : List UInt8} (h : OwnB w base E A c bs) (hb : base' ≤ base) : OwnB w base' E A c bs := own_mono h hb

set_option maxRecDepth 100000 in
set_option maxHeartbeats 8000000 in
theorem snFresh_any (A : Option Addr) (n c : Nat) (bs : List UInt8) (fin : Bool) (nx mx : Int) (B : Option Addr) (m d : Nat) (lost : List Rng) (C : Option Addr) (k e : Nat) (acked : List Rng) (ended over : Bool) (hn : bs.length = n) (hm : lost.length = m) (hk : acked.length = k)
    (hnc : n ≤ c) (hcm : c ≤ 9223372036854775807) (hmd : m ≤ d) (hdm : d ≤ 9223372036854775807) (hke : k ≤ e) (hem : e ≤ 9223372036854775807) (n6 : n ≤ 600) (m6 : m ≤ 600) (k6 : k ≤ 600) (w : World) (hA : RdB w A bs) (hB : RdX rcells 2 w B lost) (hC : RdX rcells 2 w C acked) :
    Calls Try.prog 32 #[.agg #[.slice A n c, .bool fin, .int .i64 nx, .int .i64 mx, .slice B m d, .slice C k e, .bool ended, .bool over]] w fun e' w' => ∃ (A' : Option Addr) (c' : Nat) (B' : Option Addr) (d' : Nat) (C' : Option Addr) (k' M : Nat), e' = .returned (.agg #[.slice A' n c', .bool fin, .int .i64 nx, .int .i64 mx, .slice B' m d', .slice C' k k', .bool ended, .bool over]) ∧ (n ≤ c' ∧ c' ≤ 9223372036854775807) ∧ (m ≤ d' ∧ d' ≤ 9223372036854775807) ∧ (k ≤ k' ∧ k' ≤ 9223372036854775807) ∧
      w.heap.size ≤ M ∧ M ≤ w'.heap.size ∧ (∀ x, A' = some x → x.block < M) ∧ OwnB w' w.heap.size 5 A' c' bs ∧ OwnX rcells 2 w' M 35 B' d' lost ∧ OwnX rcells 2 w' M 35 C' k' acked ∧ Below w.heap.size w w' := by
  have HN := Lib.hid hn
  have HM := Lib.hid hm
  have HK := Lib.hid hk
  have HA := Lib.hid hA
  have HB := Lib.hid hB
  have HC := Lib.hid hC
  clear hn hm hk hA hB hC
  go_enter Try.func32, Try.ntmps32
  go_upto_region 1 with (fail)
  refine wp_world (fun w' => Blk w' w.heap.size 50 #[.slice A n c, .bool fin, .int .i64 nx, .int .i64 mx, .slice B m d, .slice C k e, .bool ended, .bool over] ∧ Blk w' (w.heap.size + 1) 50 #[.slice none 0 0, .bool false, .int .i64 0, .int .i64 0, .slice none 0 0, .slice none 0 0, .bool false, .bool false] ∧ Below w.heap.size w w') ⟨(Blk.new _ _ _).alloc _, Blk.new1 _ _ _ _, ((Below.refl _ _).alloc (Nat.le_refl _) _).alloc (by simp) _⟩ ?_
  rintro w1 ⟨hS, hZ, hb1⟩
  have FS := hS.facts8
  have hzl := hZ.lt
  have hA1 := Lib.hid (RdB.below (HA.out.below hb1) ((Below.refl _ _).alloc (Nat.le_refl _) (.cells #[] 5)))
  go_upto_region 2 with (at_builtin; refine wpList_appB _ rfl (.tmp 3) (.tmp 5) _ rfl w1.heap.size 5 Try.underlying48 u8InfoS _ 0 _ [] rfl rfl (OwnB.made _ _ _ (Nat.le_refl _)) A n c bs rfl HN.out hA1.out bs rfl n (by omega) (by omega) (by simp) ?_; intro A' c' w2 hO2 hc2 hm2 hb2; have hb12 : Below w1.heap.size w1 w2 := ((Below.refl _ _).alloc (Nat.le_refl _) _).trans hb2; have hS2 := hS.carry hb12; have hZ2 := hZ.carry hb12; have hbz := hb1.trans (hb12.mono hb1.size); have FS := hS2.facts8; have hs12 := hb12.size)
  refine wp_world (fun w' => Blk w' w.heap.size 50 #[.slice A' n c', .bool fin, .int .i64 nx, .int .i64 mx, .slice B m d, .slice C k e, .bool ended, .bool over] ∧ Blk w' (w.heap.size + 1) 50 #[.slice none 0 0, .bool false, .int .i64 0, .int .i64 0, .slice none 0 0, .slice none 0 0, .bool false, .bool false] ∧ OwnB w' (w.heap.size + 2) 5 A' c' bs ∧ Below w.heap.size w w') ⟨by (apply Blk.as; (case h => (repeat (first | with_reducible exact hS2 | with_reducible apply Blk.drew | with_reducible apply Blk.set4 | with_reducible apply Blk.set_ | (with_reducible apply Blk.far4 (hne := ?side); case side => (first | omega | (simp; omega) | (simp; done))) | (with_reducible apply Blk.far (hp := ?side); case side => (first | omega | (simp; omega) | (simp; done))) | with_reducible apply Blk.alloc))); (case e => (first | with_reducible rfl | (simp; done) | rfl))), by (apply Blk.as; (case h => (repeat (first | with_reducible exact hZ2 | with_reducible apply Blk.drew | with_reducible apply Blk.set4 | with_reducible apply Blk.set_ | (with_reducible apply Blk.far4 (hne := ?side); case side => (first | omega | (simp; omega) | (simp; done))) | (with_reducible apply Blk.far (hp := ?side); case side => (first | omega | (simp; omega) | (simp; done))) | with_reducible apply Blk.alloc))); (case e => (first | with_reducible rfl | (simp; done) | rfl))), (hO2.monoB (by omega)).setB (by simp) _, by (repeat (first | with_reducible exact hbz | with_reducible refine Below.drew ?_ | (with_reducible refine Below.set4 ?_ ?side _ _ _ _; case side => (first | omega | (simp; omega) | (simp; done))) | (with_reducible refine Below.setCell ?_ ?side _; case side => (first | omega | (simp; omega) | (simp; done))) | (with_reducible refine Below.alloc ?_ ?side _; case side => (first | omega | (simp; omega) | (simp; done)))))⟩ ?_
  clear FS hS hZ hb1 hA1 hO2 hb2 hb12 hS2 hZ2 hbz
  rintro w3 ⟨hS, hZ, hO, hb⟩
  have FS := hS.facts8
  have hgs := hS.lt
  have hgn3 : w3.heap.size ≠ w.heap.size := by omega
  have hgz := hZ.lt
  have HAL := Lib.hid (fun x hx => (hO.lt x hx).2 : ∀ x, A' = some x → x.block < w3.heap.size)
  have HO := Lib.hid hO
  have HB3 := Lib.hid (RdX.below HB.out hb)
  have HC3 := Lib.hid (RdX.below HC.out hb)
  clear hO hs12 hzl
  go_region_law ((first
    | (refine step_appL rcells 2 rcells_one (by rfl) (.tmp 12) (.tmp 14) _ (by rfl) w3.heap.size 35 _ 16 Try.underlying23 rngInfo rfl (by decide) (by decide) _ 0 0 [] (by rfl) rfl (by first | exact OwnX.madeH rcells 2 _ _ 35 (by first | exact Nat.le_refl _ | omega | (simp; done) | (simp; omega)) (by first | rfl | (simp; done) | (simp; omega)) | exact OwnX.grown (by first | exact OwnX.madeH rcells 2 _ _ 35 (by first | exact Nat.le_refl _ | omega | (simp; done) | (simp; omega)) (by first | rfl | (simp; done) | (simp; omega)) | exact (OwnX.madeH rcells 2 _ _ 35 (by first | exact Nat.le_refl _ | omega | (simp; done) | (simp; omega)) (by first | rfl | (simp; done) | (simp; omega))).alloc _) hgr5 (.inr (by first | (simp; done) | (simp; omega)))) C k e acked (by rfl) HK.out (RdX.below HC3.out (by first | exact hbb5 | exact hbb5.alloc hbb5.size _)) acked rfl k (by omega) (by omega) (by first | exact Nat.le_refl _ | omega | (simp; done) | (simp; omega)) ?_; intro A6 c6 w6 hO6 hc6 hm6 hb6 hgr6 hat6; have hbb6 : Below w3.heap.size w3 w6 := (by refine Below.trans ?_ hb6; first | exact hbb5 | exact hbb5.alloc hbb5.size _); have kl6 : w.heap.size < w6.heap.size := (by have := hbb6.size; omega); have k3 := (hbb6.cell (p := ⟨w.heap.size, 4, none⟩) hgs).trans FS.2.2.2.2.2.1; have k4 := (hbb6.cell (p := ⟨w.heap.size, 5, none⟩) hgs).trans FS.2.2.2.2.2.2.1; have k5 := hbb6.frozen (p := ⟨w.heap.size, 4, none⟩) hgs; have k6 := hbb6.frozen (p := ⟨w.heap.size, 5, none⟩) hgs; rw [hS.frozen] at k5 k6)
    | (refine step_appL rcells 2 rcells_one (by rfl) (.tmp 8) (.tmp 10) _ (by rfl) w3.heap.size 35 _ 16 Try.underlying23 rngInfo rfl (by decide) (by decide) _ 0 0 [] (by rfl) rfl (by first | exact OwnX.madeH rcells 2 _ _ 35 (by first | exact Nat.le_refl _ | omega | (simp; done) | (simp; omega)) (by first | rfl | (simp; done) | (simp; omega)) | exact (OwnX.madeH rcells 2 _ _ 35 (by first | exact Nat.le_refl _ | omega | (simp; done) | (simp; omega)) (by first | rfl | (simp; done) | (simp; omega))).alloc _) B m d lost (by rfl) HM.out (RdX.below HB3.out (by (repeat (first | with_reducible exact (Below.refl _ _) | with_reducible refine Below.drew ?_ | (with_reducible refine Below.set4 ?_ ?side _ _ _ _; case side => (first | omega | (simp; omega) | (simp; done))) | (with_reducible refine Below.setCell ?_ ?side _; case side => (first | omega | (simp; omega) | (simp; done))) | (with_reducible refine Below.alloc ?_ ?side _; case side => (first | omega | (simp; omega) | (simp; done))))))) lost rfl m (by omega) (by omega) (by first | exact Nat.le_refl _ | omega | (simp; done) | (simp; omega)) ?_; intro A5 c5 w5 hO5 hc5 hm5 hb5 hgr5 hat5; have hbb5 : Below w3.heap.size w3 w5 := (by refine Below.trans ?_ hb5; (repeat (first | with_reducible exact (Below.refl _ _) | with_reducible refine Below.drew ?_ | (with_reducible refine Below.set4 ?_ ?side _ _ _ _; case side => (first | omega | (simp; omega) | (simp; done))) | (with_reducible refine Below.setCell ?_ ?side _; case side => (first | omega | (simp; omega) | (simp; done))) | (with_reducible refine Below.alloc ?_ ?side _; case side => (first | omega | (simp; omega) | (simp; done)))))); have jl5 : w.heap.size < w5.heap.size := (by have := hbb5.size; omega); have hz35 := hbb5.size; have j3 := (hbb5.cell (p := ⟨w.heap.size, 4, none⟩) hgs).trans FS.2.2.2.2.2.1; have j4 := (hbb5.cell (p := ⟨w.heap.size, 5, none⟩) hgs).trans FS.2.2.2.2.2.2.1; have j5 := hbb5.frozen (p := ⟨w.heap.size, 4, none⟩) hgs; have j6 := hbb5.frozen (p := ⟨w.heap.size, 5, none⟩) hgs; rw [hS.frozen] at j5 j6)))
  all_goals
    have hlt5 : ∀ k, A5.map (fun y : Addr => y.block) = some k → k < w5.heap.size := fun k hk => (hO5.lt (n := 0) k (by rw [slice_own]; exact hk)).2
    have hO7 : OwnX rcells 2 w6 w3.heap.size 35 A5 c5 lost := OwnX.grown (by first | exact hO5 | exact hO5.alloc _) hgr6 (.inr fun e => by
      rcases hat5 with h | h <;> (have h1 := hlt5 _ h; rw [h] at e; injection e with e; first | omega | (simp at e h1; done) | (simp at e h1; omega)))
    have hA6 : OwnB w6 (w.heap.size + 2) 5 A' c' bs := own_carry HO.out hbb6
    have hcA : n ≤ c' ∧ c' ≤ 9223372036854775807 := by
      have h := hA6.cap
      unfold maxLen at h
      rw [HN.out] at h
      omega
    have hb8 : Below w.heap.size w w6 := hb.trans (hbb6.mono hb.size)
    have hS6 := hS.below hbb6 hgs
    have hZ6 := hZ.below hbb6 hgz
    have hgz3 := hb.size
    have hM6 := hbb6.size
    go_upto_region 3 with (fail)
    refine wp_world (fun w' => Blk w' w.heap.size 50 #[.slice A' n c', .bool fin, .int .i64 nx, .int .i64 mx, .slice A5 m c5, .slice A6 k c6, .bool ended, .bool over] ∧ Blk w' (w.heap.size + 1) 50 #[.slice none 0 0, .bool false, .int .i64 0, .int .i64 0, .slice none 0 0, .slice none 0 0, .bool false, .bool false] ∧ OwnB w' (w.heap.size + 2) 5 A' c' bs ∧ OwnX rcells 2 w' w3.heap.size 35 A5 c5 lost ∧ OwnX rcells 2 w' w3.heap.size 35 A6 c6 acked ∧ w3.heap.size ≤ w'.heap.size ∧ Below w.heap.size w w')
      ⟨by (apply Blk.as; (case h => (repeat (first | with_reducible exact hS6 | with_reducible apply Blk.drew | with_reducible apply Blk.set4 | with_reducible apply Blk.set_ | (with_reducible apply Blk.far4 (hne := ?side); case side => (first | omega | (simp; omega) | (simp; done))) | (with_reducible apply Blk.far (hp := ?side); case side => (first | omega | (simp; omega) | (simp; done))) | with_reducible apply Blk.alloc))); (case e => (first | with_reducible rfl | (simp; done) | rfl))), by (apply Blk.as; (case h => (repeat (first | with_reducible exact hZ6 | with_reducible apply Blk.drew | with_reducible apply Blk.set4 | with_reducible apply Blk.set_ | (with_reducible apply Blk.far4 (hne := ?side); case side => (first | omega | (simp; omega) | (simp; done))) | (with_reducible apply Blk.far (hp := ?side); case side => (first | omega | (simp; omega) | (simp; done))) | with_reducible apply Blk.alloc))); (case e => (first | with_reducible rfl | (simp; done) | rfl))), (hA6.setB (by first | (simp; done) | (simp; omega)) _).setB (by first | (simp; done) | (simp; omega)) _, (hO7.set_below hgs _).set_below hgs _, (hO6.set_below hgs _).set_below hgs _, by simpa using hM6, by (repeat (first | with_reducible exact hb8 | with_reducible refine Below.drew ?_ | (with_reducible refine Below.set4 ?_ ?side _ _ _ _; case side => (first | omega | (simp; omega) | (simp; done))) | (with_reducible refine Below.setCell ?_ ?side _; case side => (first | omega | (simp; omega) | (simp; done))) | (with_reducible refine Below.alloc ?_ ?side _; case side => (first | omega | (simp; omega) | (simp; done)))))⟩ ?_
    clear FS hS hZ hb hO5 hO6 hO7 hA6 hS6 hZ6 hb8 hbb5 hbb6 hgr5 hgr6 hat5 hat6 hb5 hb6 hlt5 HO HB3 HC3 j3 j4 j5 j6 k3 k4 k5 k6
    rintro w7 ⟨hS, hZ, hA7, hB7, hC7, hM7, hb7⟩
    have FS := hS.facts8
    have FZ := hZ.facts8
    have HA7 := Lib.hid hA7
    have HB7 := Lib.hid hB7
    have HC7 := Lib.hid hC7
    clear hA7 hB7 hC7
    go_wp2_with fail
    refine bodyPost_ret (v := .agg #[.slice A' n c', .bool fin, .int .i64 nx, .int .i64 mx, .slice A5 m c5, .slice A6 k c6, .bool ended, .bool over]) ?_ rfl ⟨A', c', A5, c5, A6, c6, w3.heap.size, rfl, hcA, ⟨hc5, hm5⟩, ⟨hc6, hm6⟩, hgz3, by simpa using hM7, HAL.out, ?_, ?_, ?_, ?_⟩
    · simp [results, Try.results32, go_sem, FZ] <;> rfl
    · have hO : OwnB w7 (w.heap.size + 2) 5 A' c' bs := HA7.out
      refine OwnB.monoB (base := w.heap.size + 2) ?_ (by omega)
      (repeat (first | with_reducible exact hO | (with_reducible refine OwnB.setB ?_ ?side _; case side => (first | (simp; done) | (simp; omega)))))
    · have hO := HB7.out
      (repeat (first | with_reducible exact hO | (with_reducible refine OwnX.set_below ?_ ?side _; case side => (first | omega | (simp; omega)))))
    · have hO := HC7.out
      (repeat (first | with_reducible exact hO | (with_reducible refine OwnX.set_below ?_ ?side _; case side => (first | omega | (simp; omega)))))
    · (repeat (first | with_reducible exact hb7 | with_reducible refine Below.drew ?_ | (with_reducible refine Below.set4 ?_ ?side _ _ _ _; case side => (first | omega | (simp; omega) | (simp; done))) | (with_reducible refine Below.setCell ?_ ?side _; case side => (first | omega | (simp; omega) | (simp; done))) | (with_reducible refine Below.alloc ?_ ?side _; case side => (first | omega | (simp; omega) | (simp; done)))))
end Go.Proofs.Ytpmgoediglmofaa
