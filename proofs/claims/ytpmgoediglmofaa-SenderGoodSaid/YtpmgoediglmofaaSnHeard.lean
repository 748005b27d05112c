/- The contract of sender.Heard. -/
import Derived.Test.YtpmgoediglmofaaSnPart
namespace Go.Proofs.Ytpmgoediglmofaa
open Go.ChangeShapes Go.WideShapes Go.ChangeAt Go.RowKit
set_option linter.unusedVariables false

def heardL (lost : List Rng) (off q : Int) : List Rng := if 0 < q then cutR lost (off, off + q - 1) else lost
def heardA (acked : List Rng) (off q : Int) : List Rng := if 0 < q then addR acked (off, off + q - 1) false else acked
theorem SnOk.heardAny {n : Nat} {fin : Bool} {nx mx : Int} {lost acked : List Rng} {ended over : Bool} (h : SnOk n fin nx mx lost acked ended over) (off q : Int) (f : Bool) (hp : partOk n fin nx ended over off q f) : SnOk n fin nx mx (heardL lost off q) (heardA acked off q) (if f then false else ended) (if f then true else over) := by
  unfold heardL heardA
  by_cases hq : 0 < q
  · rw [if_pos hq, if_pos hq]; exact h.heard off q f hp hq
  · obtain rfl : q = 0 := by have := hp.2.1; omega
    exact h.heard0 off f hp
/-- What Heard answers. -/
def HeardS (w : World) (n : Nat) (bs : List UInt8) (fin : Bool) (nx mx : Int) (lost acked : List Rng) (ended over : Bool) (off q : Int) (f : Bool) (e' : Ending) (w' : World) : Prop :=
  ∃ (A' : Option Addr) (c' : Nat) (B' : Option Addr) (m' d' : Nat) (C' : Option Addr) (k' e2 : Nat), e' = .returned (.tuple #[.agg #[.slice A' n c', .bool fin, .int .i64 nx, .int .i64 mx, .slice B' m' d', .slice C' k' e2, .bool (if f then false else ended), .bool (if f then true else over)], .int .i64 0]) ∧
    SpKeep w w' (fun W => SnV W A' n c' bs fin nx mx B' m' d' (heardL lost off q) C' k' e2 (heardA acked off q) (if f then false else ended) (if f then true else over)) ∧ Below w.heap.size w w'

set_option maxRecDepth 100000 in
set_option maxHeartbeats 8000000 in
theorem snHeard_ok (w : World) (A : Option Addr) (n c : Nat) (bs : List UInt8) (fin : Bool) (nx mx : Int) (B : Option Addr) (m d : Nat) (lost : List Rng) (C : Option Addr) (k e : Nat) (acked : List Rng) (ended over : Bool) (h : SnV w A n c bs fin nx mx B m d lost C k e acked ended over) (off q : Int) (f : Bool) (hp : partOk n fin nx ended over off q f) :
    Calls Try.prog 20 #[.agg #[.slice A n c, .bool fin, .int .i64 nx, .int .i64 mx, .slice B m d, .slice C k e, .bool ended, .bool over], .int .i64 off, .int .i64 q, .bool f] w (HeardS w n bs fin nx mx lost acked ended over off q f) := by
  have HV := Lib.hid h
  have HP := Lib.hid hp
  obtain ⟨p0, p1, p2, p3, p4⟩ := hp
  have hx0 := h.ok.x0
  have hx1 := h.ok.x1
  have hn6 := h.ok.n600
  clear h p4
  go_enter Try.func20, Try.ntmps20
  go_upto_region 1 with (fail)
  refine wp_world (fun w' => Blk w' w.heap.size 50 #[.slice A n c, .bool fin, .int .i64 nx, .int .i64 mx, .slice B m d, .slice C k e, .bool ended, .bool over] ∧ Blk w' (w.heap.size + 1) 50 #[.slice none 0 0, .bool false, .int .i64 0, .int .i64 0, .slice none 0 0, .slice none 0 0, .bool false, .bool false] ∧ Below w.heap.size w w') ⟨(Blk.new _ _ _).alloc _, Blk.new1 _ _ _ _, ((Below.refl _ _).alloc (Nat.le_refl _) _).alloc (by simp) _⟩ ?_
  rintro w1 ⟨hS, hZ0, hb1⟩
  have FS := hS.facts8
  go_wp2_with fail
  refine (snPart_ok _ A n c bs fin nx mx B m d lost C k e acked ended over (HV.out.below hb1) off q f HP.out).mono ?_
  rintro e1 w2 ⟨rfl, hb2⟩
  have hS2 := hS.carry hb2
  have hZ2 := hZ0.carry hb2
  have hbb := hb1.trans (hb2.mono hb1.size)
  have hgs2 := hZ2.lt
  clear FS hS hZ0 hb1 hb2
  go_upto_region 4 with (fail)
  refine wp_world (fun w' => Blk w' w2.heap.size 35 #[.int .i64 off, .int .i64 (off + q - 1)] ∧ Below w2.heap.size w2 w') ⟨Blk.new _ _ _, (Below.refl _ _).alloc (Nat.le_refl _) _⟩ ?_
  rintro w3 ⟨hR3, hb3⟩
  have hS3 := hS2.carry hb3
  have hZ3 := hZ2.carry hb3
  have hbc := hbb.trans (hb3.mono hbb.size)
  have hz3 := hb3.size
  have hgr3 := hR3.lt
  generalize w2.heap.size = gr at *
  clear hS2 hZ2 hbb hb3
  have FS := hS3.facts8
  go_wp2_with fail
  refine (HV.out.below hbc).fresh.mono ?_
  rintro e2 w4 ⟨A', c', B', d', C', k', rfl, hO, _, hb4⟩
  have hS4 := hS3.carry hb4
  have hZ4 := hZ3.carry hb4
  have hR4 := hR3.carry hb4
  have hb14 := hbc.trans (hb4.mono hbc.size)
  have hz4 := hb4.size
  clear FS hS3 hZ3 hR3 hbc hb4
  have FS := hS4.facts8
  go_upto_region 5 with (fail)
  refine wp_world (fun w' => Blk w' w.heap.size 50 #[.slice A' n c', .bool fin, .int .i64 nx, .int .i64 mx, .slice B' m d', .slice C' k k', .bool ended, .bool over] ∧ Blk w' (w.heap.size + 1) 50 #[.slice none 0 0, .bool false, .int .i64 0, .int .i64 0, .slice none 0 0, .slice none 0 0, .bool false, .bool false] ∧ Blk w' gr 35 #[.int .i64 off, .int .i64 (off + q - 1)] ∧ SnO w' w3.heap.size A' c' bs B' d' lost C' k' acked ∧ Below w.heap.size w w' ∧ w3.heap.size ≤ w'.heap.size) ⟨((((((((hS4.set_ 0 _).set_ 1 _).set_ 2 _).set_ 3 _).set_ 4 _).set_ 5 _).set_ 6 _).set_ 7 _).as (by rfl), by (apply Blk.as; (case h => (repeat (first | with_reducible exact hZ4 | with_reducible apply Blk.drew | with_reducible apply Blk.set4 | with_reducible apply Blk.set_ | (with_reducible apply Blk.far4 (hne := ?side); case side => (first | omega | (simp; omega) | (simp; done))) | (with_reducible apply Blk.far (hp := ?side); case side => (first | omega | (simp; omega) | (simp; done))) | with_reducible apply Blk.alloc))); (case e => (first | with_reducible rfl | (simp; done) | rfl))), by (apply Blk.as; (case h => (repeat (first | with_reducible exact hR4 | with_reducible apply Blk.drew | with_reducible apply Blk.set4 | with_reducible apply Blk.set_ | (with_reducible apply Blk.far4 (hne := ?side); case side => (first | omega | (simp; omega) | (simp; done))) | (with_reducible apply Blk.far (hp := ?side); case side => (first | omega | (simp; omega) | (simp; done))) | with_reducible apply Blk.alloc))); (case e => (first | with_reducible rfl | (simp; done) | rfl))), ?_, by (repeat (first | with_reducible exact hb14 | with_reducible refine Below.drew ?_ | (with_reducible refine Below.set4 ?_ ?side _ _ _ _; case side => (first | omega | (simp; omega) | (simp; done))) | (with_reducible refine Below.setCell ?_ ?side _; case side => (first | omega | (simp; omega) | (simp; done))) | (with_reducible refine Below.alloc ?_ ?side _; case side => (first | omega | (simp; omega) | (simp; done))))), by simpa using hz4⟩ ?_
  · (repeat (first | with_reducible exact hO | ((with_reducible refine SnO.set ?_ ?side _); case side => (show w.heap.size < w3.heap.size; omega))))
  clear FS hS4 hZ4 hR4 hb14 hO hz4
  rintro w5 ⟨hS5, hZ5, hR5, hO5, hb5, hz35⟩
  have HO5 := Lib.hid hO5
  have HB5 := Lib.hid hb5
  have HZ5 := Lib.hid hZ5
  clear hO5 hb5 hZ5
  have hfew := HV.out.ok.few
  rw [HV.out.hm, HV.out.hk] at hfew
  have cO := HO5.out.l.cap
  have cK := HO5.out.k.cap
  rw [HV.out.hm] at cO
  rw [HV.out.hk] at cK
  by_cases hq : 0 < q
  · have g1 : decide (0 < q) = true := decide_eq_true hq
    have eL : heardL lost off q = cutR lost (off, off + q - 1) := if_pos hq
    have eA : heardA acked off q = addR acked (off, off + q - 1) false := if_pos hq
    have EL := Lib.hid eL
    have EA := Lib.hid eA
    obtain ⟨m2, hm2⟩ : ∃ m2, (cutR lost (off, off + q - 1)).length = m2 := ⟨_, rfl⟩
    obtain ⟨k2, hk2⟩ : ∃ k2, (addR acked (off, off + q - 1) false).length = k2 := ⟨_, rfl⟩
    have HM2 : Hid ((heardL lost off q).length = m2) := Lib.hid (by rw [eL]; exact hm2)
    have HK2 : Hid ((heardA acked off q).length = k2) := Lib.hid (by rw [eA]; exact hk2)
    have HM2_ := Lib.hid hm2
    have HK2_ := Lib.hid hk2
    clear eL eA hm2 hk2
    have FS := hS5.facts8
    have FR := hR5.two
    go_wp2_with fail
    refine (rCut_own B' m d' lost HV.out.hm HV.out.ok.hl cO.1 cO.2 (by omega) off (off + q - 1) p0 (by omega) (by omega) _ m2 rfl HM2_.out _ HO5.out.l.rd).mono ?_
    rintro e6 w6 ⟨B2, d2, rfl, _, _, hB2, hb6⟩
    have hS6 := hS5.carry hb6
    have hR6 := hR5.carry hb6
    have hZ6 := HZ5.out.carry hb6
    have hO6 := HO5.out.carry hb6
    have hbw6 := HB5.out.trans (hb6.mono HB5.out.size)
    have hz6 := hb6.size
    clear FS FR hS5 hR5 HZ5 HO5 HB5 hb6
    have FS := hS6.facts8
    go_upto_region 7 with (fail)
    refine wp_world (fun w' => Blk w' w.heap.size 50 #[.slice A' n c', .bool fin, .int .i64 nx, .int .i64 mx, .slice B2 m2 d2, .slice C' k k', .bool ended, .bool over] ∧ Blk w' (w.heap.size + 1) 50 #[.slice none 0 0, .bool false, .int .i64 0, .int .i64 0, .slice none 0 0, .slice none 0 0, .bool false, .bool false] ∧ Blk w' gr 35 #[.int .i64 off, .int .i64 (off + q - 1)] ∧ SnO w' w3.heap.size A' c' bs B2 d2 (heardL lost off q) C' k' acked ∧ Below w.heap.size w w' ∧ w3.heap.size ≤ w'.heap.size) ⟨(hS6.set_ 4 _).as (by rfl), by (apply Blk.as; (case h => (repeat (first | with_reducible exact hZ6 | with_reducible apply Blk.drew | with_reducible apply Blk.set4 | with_reducible apply Blk.set_ | (with_reducible apply Blk.far4 (hne := ?side); case side => (first | omega | (simp; omega) | (simp; done))) | (with_reducible apply Blk.far (hp := ?side); case side => (first | omega | (simp; omega) | (simp; done))) | with_reducible apply Blk.alloc))); (case e => (first | with_reducible rfl | (simp; done) | rfl))), by (apply Blk.as; (case h => (repeat (first | with_reducible exact hR6 | with_reducible apply Blk.drew | with_reducible apply Blk.set4 | with_reducible apply Blk.set_ | (with_reducible apply Blk.far4 (hne := ?side); case side => (first | omega | (simp; omega) | (simp; done))) | (with_reducible apply Blk.far (hp := ?side); case side => (first | omega | (simp; omega) | (simp; done))) | with_reducible apply Blk.alloc))); (case e => (first | with_reducible rfl | (simp; done) | rfl))), SnO.set ⟨hO6.a, by rw [EL.out]; exact hB2.mono hz35, hO6.k⟩ (by show w.heap.size < w3.heap.size; omega) _, by (repeat (first | with_reducible exact hbw6 | with_reducible refine Below.drew ?_ | (with_reducible refine Below.set4 ?_ ?side _ _ _ _; case side => (first | omega | (simp; omega) | (simp; done))) | (with_reducible refine Below.setCell ?_ ?side _; case side => (first | omega | (simp; omega) | (simp; done))) | (with_reducible refine Below.alloc ?_ ?side _; case side => (first | omega | (simp; omega) | (simp; done))))), by simp; omega⟩ ?_
    clear FS hS6 hR6 hZ6 hO6 hbw6 hB2
    rintro w6b ⟨hS6, hZ6, hR6, hO6, hb6, hz36⟩
    have FS := hS6.facts8
    have FR := hR6.two
    go_wp2_with fail
    refine (rAdd_own C' k k' acked HV.out.hk HV.out.ok.ha cK.1 cK.2 (by omega) off (off + q - 1) p0 (by omega) (by omega) _ k2 rfl HK2_.out _ hO6.k.rd).mono ?_
    rintro e7 w7 ⟨C2, e2, rfl, _, _, hC2, hb7⟩
    have hS7 := hS6.carry hb7
    have hZ7 := hZ6.carry hb7
    have hO7 := hO6.carry hb7
    have hbw7 := hb6.trans (hb7.mono hb6.size)
    clear FS FR hS6 hR6 hZ6 hO6 hb6 hb7
    have FS := hS7.facts8
    go_upto_region 8 with (fail)
    refine wp_world (fun w' => Blk w' w.heap.size 50 #[.slice A' n c', .bool fin, .int .i64 nx, .int .i64 mx, .slice B2 m2 d2, .slice C2 k2 e2, .bool ended, .bool over] ∧ Blk w' (w.heap.size + 1) 50 #[.slice none 0 0, .bool false, .int .i64 0, .int .i64 0, .slice none 0 0, .slice none 0 0, .bool false, .bool false] ∧ SnO w' w3.heap.size A' c' bs B2 d2 (heardL lost off q) C2 e2 (heardA acked off q) ∧ Below w.heap.size w w') ⟨(hS7.set_ 5 _).as (by rfl), by (apply Blk.as; (case h => (repeat (first | with_reducible exact hZ7 | with_reducible apply Blk.drew | with_reducible apply Blk.set4 | with_reducible apply Blk.set_ | (with_reducible apply Blk.far4 (hne := ?side); case side => (first | omega | (simp; omega) | (simp; done))) | (with_reducible apply Blk.far (hp := ?side); case side => (first | omega | (simp; omega) | (simp; done))) | with_reducible apply Blk.alloc))); (case e => (first | with_reducible rfl | (simp; done) | rfl))), SnO.set ⟨hO7.a, hO7.l, by rw [EA.out]; exact hC2.mono hz36⟩ (by show w.heap.size < w3.heap.size; omega) _, by (repeat (first | with_reducible exact hbw7 | with_reducible refine Below.drew ?_ | (with_reducible refine Below.set4 ?_ ?side _ _ _ _; case side => (first | omega | (simp; omega) | (simp; done))) | (with_reducible refine Below.setCell ?_ ?side _; case side => (first | omega | (simp; omega) | (simp; done))) | (with_reducible refine Below.alloc ?_ ?side _; case side => (first | omega | (simp; omega) | (simp; done)))))⟩ ?_
    clear FS hS7 hZ7 hO7 hbw7 hC2
    rintro w8 ⟨hS7, hZ7, hO7, hb7⟩
    have HO7 := Lib.hid hO7
    have HB7 := Lib.hid hb7
    have HZ7 := Lib.hid hZ7
    clear hZ7 hO7 hb7
    have FS := hS7.facts8
    have FZ := HZ7.out.facts8
    cases f with
    | false =>
      go_wp2_with fail
      refine bodyPost_ret (v := .tuple #[.agg #[.slice A' n c', .bool fin, .int .i64 nx, .int .i64 mx, .slice B2 m2 d2, .slice C2 k2 e2, .bool ended, .bool over], .int .i64 0]) ?_ rfl ⟨A', c', B2, m2, d2, C2, k2, e2, rfl, ?_, ?_⟩
      · simp [results, Try.results20, go_sem, FZ] <;> rfl
      · refine SnO.keep (b := w3.heap.size) ?_ (by omega) HV.out.hn HM2.out HK2.out (HV.out.ok.heardAny off q _ HP.out)
        have hO := HO7.out
        (repeat (first | with_reducible exact hO | ((with_reducible refine SnO.set ?_ ?side _); case side => (first | (show w.heap.size < w3.heap.size; omega) | (show w.heap.size + 1 < w3.heap.size; omega)))))
      · have h := HB7.out
        (repeat (first | with_reducible exact h | with_reducible refine Below.drew ?_ | (with_reducible refine Below.set4 ?_ ?side _ _ _ _; case side => (first | omega | (simp; omega) | (simp; done))) | (with_reducible refine Below.setCell ?_ ?side _; case side => (first | omega | (simp; omega) | (simp; done))) | (with_reducible refine Below.alloc ?_ ?side _; case side => (first | omega | (simp; omega) | (simp; done)))))
    | true =>
      go_wp2_with fail
      refine bodyPost_ret (v := .tuple #[.agg #[.slice A' n c', .bool fin, .int .i64 nx, .int .i64 mx, .slice B2 m2 d2, .slice C2 k2 e2, .bool false, .bool true], .int .i64 0]) ?_ rfl ⟨A', c', B2, m2, d2, C2, k2, e2, rfl, ?_, ?_⟩
      · simp [results, Try.results20, go_sem, FZ] <;> rfl
      · refine SnO.keep (b := w3.heap.size) ?_ (by omega) HV.out.hn HM2.out HK2.out (HV.out.ok.heardAny off q _ HP.out)
        have hO := HO7.out
        (repeat (first | with_reducible exact hO | ((with_reducible refine SnO.set ?_ ?side _); case side => (first | (show w.heap.size < w3.heap.size; omega) | (show w.heap.size + 1 < w3.heap.size; omega)))))
      · have h := HB7.out
        (repeat (first | with_reducible exact h | with_reducible refine Below.drew ?_ | (with_reducible refine Below.set4 ?_ ?side _ _ _ _; case side => (first | omega | (simp; omega) | (simp; done))) | (with_reducible refine Below.setCell ?_ ?side _; case side => (first | omega | (simp; omega) | (simp; done))) | (with_reducible refine Below.alloc ?_ ?side _; case side => (first | omega | (simp; omega) | (simp; done)))))
  · have g1 : decide (0 < q) = false := decide_eq_false hq
    have EL : Hid (heardL lost off q = lost) := if_neg hq
    have EA : Hid (heardA acked off q = acked) := if_neg hq
    obtain ⟨B2, d2, m2, C2, e2, k2, hE⟩ : ∃ (B2 : Option Addr) (d2 m2 : Nat) (C2 : Option Addr) (e2 k2 : Nat), B' = B2 ∧ d' = d2 ∧ m = m2 ∧ C' = C2 ∧ k' = e2 ∧ k = k2 := ⟨_, _, _, _, _, _, rfl, rfl, rfl, rfl, rfl, rfl⟩
    obtain ⟨rfl, rfl, rfl, rfl, rfl, rfl⟩ := hE
    have HM2 : Hid ((heardL lost off q).length = m) := Lib.hid (by rw [EL.out]; exact HV.out.hm)
    have HK2 : Hid ((heardA acked off q).length = k) := Lib.hid (by rw [EA.out]; exact HV.out.hk)
    have HO7 : Hid (SnO w5 w3.heap.size A' c' bs B' d' (heardL lost off q) C' k' (heardA acked off q)) := Lib.hid (by rw [EL.out, EA.out]; exact HO5.out)
    have hS7 := hS5
    have HB7 := HB5
    have HZ7 := HZ5
    clear HO5 hS5 HB5 HZ5 hR5
    have FS := hS7.facts8
    have FZ := HZ7.out.facts8
    cases f with
    | false =>
      go_wp2_with fail
      refine bodyPost_ret (v := .tuple #[.agg #[.slice A' n c', .bool fin, .int .i64 nx, .int .i64 mx, .slice B' m d', .slice C' k k', .bool ended, .bool over], .int .i64 0]) ?_ rfl ⟨A', c', B', m, d', C', k, k', rfl, ?_, ?_⟩
      · simp [results, Try.results20, go_sem, FZ] <;> rfl
      · refine SnO.keep (b := w3.heap.size) ?_ (by omega) HV.out.hn HM2.out HK2.out (HV.out.ok.heardAny off q _ HP.out)
        have hO := HO7.out
        (repeat (first | with_reducible exact hO | ((with_reducible refine SnO.set ?_ ?side _); case side => (first | (show w.heap.size < w3.heap.size; omega) | (show w.heap.size + 1 < w3.heap.size; omega)))))
      · have h := HB7.out
        (repeat (first | with_reducible exact h | with_reducible refine Below.drew ?_ | (with_reducible refine Below.set4 ?_ ?side _ _ _ _; case side => (first | omega | (simp; omega) | (simp; done))) | (with_reducible refine Below.setCell ?_ ?side _; case side => (first | omega | (simp; omega) | (simp; done))) | (with_reducible refine Below.alloc ?_ ?side _; case side => (first | omega | (simp; omega) | (simp; done)))))
    | true =>
      go_wp2_with fail
      refine bodyPost_ret (v := .tuple #[.agg #[.slice A' n c', .bool fin, .int .i64 nx, .int .i64 mx, .slice B' m d', .slice C' k k', .bool false, .bool true], .int .i64 0]) ?_ rfl ⟨A', c', B', m, d', C', k, k', rfl, ?_, ?_⟩
      · simp [results, Try.results20, go_sem, FZ] <;> rfl
      · refine SnO.keep (b := w3.heap.size) ?_ (by omega) HV.out.hn HM2.out HK2.out (HV.out.ok.heardAny off q _ HP.out)
        have hO := HO7.out
        (repeat (first | with_reducible exact hO | ((with_reducible refine SnO.set ?_ ?side _); case side => (first | (show w.heap.size < w3.heap.size; omega) | (show w.heap.size + 1 < w3.heap.size; omega)))))
      · have h := HB7.out
        (repeat (first | with_reducible exact h | with_reducible refine Below.drew ?_ | (with_reducible refine Below.set4 ?_ ?side _ _ _ _; case side => (first | omega | (simp; omega) | (simp; done))) | (with_reducible refine Below.setCell ?_ ?side _; case side => (first | omega | (simp; omega) | (simp; done))) | (with_reducible refine Below.alloc ?_ ?side _; case side => (first | omega | (simp; omega) | (simp; done)))))
end Go.Proofs.Ytpmgoediglmofaa
