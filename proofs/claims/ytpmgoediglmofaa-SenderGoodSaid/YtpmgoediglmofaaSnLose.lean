/- The contract of sender.Lose. -/
import Derived.Test.YtpmgoediglmofaaSnPart
import Derived.Test.YtpmgoediglmofaaHolesO
namespace Go.Proofs.Ytpmgoediglmofaa
open Go.ChangeShapes Go.WideShapes Go.ChangeAt Go.RowKit
set_option linter.unusedVariables false

def loseL (lost acked : List Rng) (off q : Int) : List Rng := if 0 < q then addAll (holesR acked [(off, off + q - 1)]) lost else lost
theorem SnOk.loseAny {n : Nat} {fin : Bool} {nx mx : Int} {lost acked : List Rng} {ended over : Bool} (h : SnOk n fin nx mx lost acked ended over) (off q : Int) (f : Bool) (hp : partOk n fin nx ended over off q f) : SnOk n fin nx mx (loseL lost acked off q) acked (ended && !f) over := by
  unfold loseL
  by_cases hq : 0 < q
  · rw [if_pos hq]; exact h.lose off q f hp hq
  · rw [if_neg hq]; exact h.lose0 f
/-- What is there behind j of the holes. -/
theorem SnOk.loseAt {n : Nat} {fin : Bool} {nx mx : Int} {lost acked : List Rng} {ended over : Bool} (h : SnOk n fin nx mx lost acked ended over) (off q : Int) (f : Bool) (hp : partOk n fin nx ended over off q f) (hq : 0 < q) :
    (∀ x ∈ holesR acked [(off, off + q - 1)], 0 ≤ x.1 ∧ x.1 ≤ x.2 ∧ x.2 < nx) ∧ ∀ j, goodFrom 0 (addAll ((holesR acked [(off, off + q - 1)]).take j) lost) ∧ (addAll ((holesR acked [(off, off + q - 1)]).take j) lost).length ≤ 301 := by
  obtain ⟨p0, p1, p2, p3, p4⟩ := hp
  have hx1 := h.x1
  have hn6 := h.n600
  have hM : SetOk [(off, off + q - 1)] (nx - 1) := ⟨⟨p0, by simp only; omega, by simp only; omega, trivial⟩, fun i hi => by
    rcases (memR_cons _ _ _).1 hi with h1 | h1
    · have := h1.2; simp only at this; omega
    · exact absurd h1 (memR_nil i)⟩
  have hH := holesR_ok acked hM (good_each h.ha)
  have hg0 : ∀ x ∈ holesR acked [(off, off + q - 1)], 0 ≤ x.1 ∧ x.1 ≤ x.2 ∧ x.2 < nx := fun x hx => by
    have h1 := good_each hH.1 x hx
    have h2 := goodFrom_low hH.1 x.1 ⟨x, hx, Int.le_refl _, h1⟩
    have h3 := hH.2 x.2 ⟨x, hx, h1, Int.le_refl _⟩
    omega
  refine ⟨hg0, fun j => ?_⟩
  obtain ⟨hA, hB⟩ := addAll_ok ((holesR acked [(off, off + q - 1)]).take j) h.hl fun x hx => by
    have := hg0 x (List.mem_of_mem_take hx); omega
  refine ⟨hA, good_few (nx := nx) hA (fun i hi => ?_) (by omega)⟩
  rcases (hB i).1 hi with h1 | h1
  · exact h.lh i h1
  · obtain ⟨x, hx, h2, h3⟩ := h1
    have := hg0 x (List.mem_of_mem_take hx); omega
/-- What Lose answers. -/
def LoseS (w : World) (n : Nat) (bs : List UInt8) (fin : Bool) (nx mx : Int) (lost : List Rng) (k : Nat) (acked : List Rng) (ended over : Bool) (off q : Int) (f : Bool) (e' : Ending) (w' : World) : Prop :=
  ∃ (A' : Option Addr) (c' : Nat) (B' : Option Addr) (m' d' : Nat) (C' : Option Addr) (k' : Nat), e' = .returned (.tuple #[.agg #[.slice A' n c', .bool fin, .int .i64 nx, .int .i64 mx, .slice B' m' d', .slice C' k k', .bool (ended && !f), .bool over], .int .i64 0]) ∧
    SpKeep w w' (fun W => SnV W A' n c' bs fin nx mx B' m' d' (loseL lost acked off q) C' k k' acked (ended && !f) over) ∧ Below w.heap.size w w'

set_option maxRecDepth 100000 in
set_option maxHeartbeats 8000000 in
theorem snLose_ok (w : World) (A : Option Addr) (n c : Nat) (bs : List UInt8) (fin : Bool) (nx mx : Int) (B : Option Addr) (m d : Nat) (lost : List Rng) (C : Option Addr) (k e : Nat) (acked : List Rng) (ended over : Bool) (h : SnV w A n c bs fin nx mx B m d lost C k e acked ended over) (off q : Int) (f : Bool) (hp : partOk n fin nx ended over off q f) :
    Calls Try.prog 19 #[.agg #[.slice A n c, .bool fin, .int .i64 nx, .int .i64 mx, .slice B m d, .slice C k e, .bool ended, .bool over], .int .i64 off, .int .i64 q, .bool f] w (LoseS w n bs fin nx mx lost k acked ended over off q f) := by
  have HV := Lib.hid h
  have HP := Lib.hid hp
  obtain ⟨p0, p1, p2, p3, p4⟩ := hp
  have hx0 := h.ok.x0
  have hx1 := h.ok.x1
  have hn6 := h.ok.n600
  clear h p4
  go_enter Try.func19, Try.ntmps19
  go_upto_region 1 with (fail)
  refine wp_world (fun w' => Blk w' w.heap.size 50 #[.slice A n c, .bool fin, .int .i64 nx, .int .i64 mx, .slice B m d, .slice C k e, .bool ended, .bool over] ∧ Blk w' (w.heap.size + 1) 50 #[.slice none 0 0, .bool false, .int .i64 0, .int .i64 0, .slice none 0 0, .slice none 0 0, .bool false, .bool false] ∧ Below w.heap.size w w') ⟨(Blk.new _ _ _).alloc _, Blk.new1 _ _ _ _, ((Below.refl _ _).alloc (Nat.le_refl _) _).alloc (by simp) _⟩ ?_
  rintro w1 ⟨hS, hZ0, hb1⟩
  have FS := hS.facts8
  go_wp2_with fail
  refine (snPart_ok _ A n c bs fin nx mx B m d lost C k e acked ended over (HV.out.below hb1) off q f HP.out).mono ?_
  rintro e1 w2 ⟨rfl, hb2⟩
  have hS2 := hS.carry hb2
  have hZ2 := hZ0.carry hb2
  have hbb := hb1.trans (hb2.mono hb1.size)
  have hgs2 := hZ2.lt
  clear FS hS hZ0 hb1 hb2
  go_upto_region 4 with (fail)
  refine wp_world (fun w' => Blk w' w2.heap.size 35 #[.int .i64 off, .int .i64 (off + q - 1)] ∧ Below w2.heap.size w2 w') ⟨Blk.new _ _ _, (Below.refl _ _).alloc (Nat.le_refl _) _⟩ ?_
  rintro w3 ⟨hR3, hb3⟩
  have hS3 := hS2.carry hb3
  have hZ3 := hZ2.carry hb3
  have hbc := hbb.trans (hb3.mono hbb.size)
  have hz3 := hb3.size
  have hgr3 := hR3.lt
  generalize w2.heap.size = gr at *
  clear hS2 hZ2 hbb hb3
  have FS := hS3.facts8
  go_wp2_with fail
  refine (HV.out.below hbc).fresh.mono ?_
  rintro e2 w4 ⟨A', c', B', d', C', k', rfl, hO, _, hb4⟩
  have hS4 := hS3.carry hb4
  have hZ4 := hZ3.carry hb4
  have hR4 := hR3.carry hb4
  have hb14 := hbc.trans (hb4.mono hbc.size)
  have hz4 := hb4.size
  clear FS hS3 hZ3 hR3 hbc hb4
  have FS := hS4.facts8
  go_upto_region 5 with (fail)
  refine wp_world (fun w' => Blk w' w.heap.size 50 #[.slice A' n c', .bool fin, .int .i64 nx, .int .i64 mx, .slice B' m d', .slice C' k k', .bool ended, .bool over] ∧ Blk w' (w.heap.size + 1) 50 #[.slice none 0 0, .bool false, .int .i64 0, .int .i64 0, .slice none 0 0, .slice none 0 0, .bool false, .bool false] ∧ Blk w' gr 35 #[.int .i64 off, .int .i64 (off + q - 1)] ∧ SnO w' w3.heap.size A' c' bs B' d' lost C' k' acked ∧ Below w.heap.size w w' ∧ w3.heap.size ≤ w'.heap.size) ⟨((((((((hS4.set_ 0 _).set_ 1 _).set_ 2 _).set_ 3 _).set_ 4 _).set_ 5 _).set_ 6 _).set_ 7 _).as (by rfl), by (apply Blk.as; (case h => (repeat (first | with_reducible exact hZ4 | with_reducible apply Blk.drew | with_reducible apply Blk.set4 | with_reducible apply Blk.set_ | (with_reducible apply Blk.far4 (hne := ?side); case side => (first | omega | (simp; omega) | (simp; done))) | (with_reducible apply Blk.far (hp := ?side); case side => (first | omega | (simp; omega) | (simp; done))) | with_reducible apply Blk.alloc))); (case e => (first | with_reducible rfl | (simp; done) | rfl))), by (apply Blk.as; (case h => (repeat (first | with_reducible exact hR4 | with_reducible apply Blk.drew | with_reducible apply Blk.set4 | with_reducible apply Blk.set_ | (with_reducible apply Blk.far4 (hne := ?side); case side => (first | omega | (simp; omega) | (simp; done))) | (with_reducible apply Blk.far (hp := ?side); case side => (first | omega | (simp; omega) | (simp; done))) | with_reducible apply Blk.alloc))); (case e => (first | with_reducible rfl | (simp; done) | rfl))), ?_, by (repeat (first | with_reducible exact hb14 | with_reducible refine Below.drew ?_ | (with_reducible refine Below.set4 ?_ ?side _ _ _ _; case side => (first | omega | (simp; omega) | (simp; done))) | (with_reducible refine Below.setCell ?_ ?side _; case side => (first | omega | (simp; omega) | (simp; done))) | (with_reducible refine Below.alloc ?_ ?side _; case side => (first | omega | (simp; omega) | (simp; done))))), by simpa using hz4⟩ ?_
  · (repeat (first | with_reducible exact hO | ((with_reducible refine SnO.set ?_ ?side _); case side => (show w.heap.size < w3.heap.size; omega))))
  clear FS hS4 hZ4 hR4 hb14 hO hz4
  rintro w5 ⟨hS5, hZ5, hR5, hO5, hb5, hz35⟩
  have HO5 := Lib.hid hO5
  have HB5 := Lib.hid hb5
  have HZ5 := Lib.hid hZ5
  clear hO5 hb5 hZ5
  have hfew := HV.out.ok.few
  rw [HV.out.hm, HV.out.hk] at hfew
  have cO := HO5.out.l.cap
  have cK := HO5.out.k.cap
  rw [HV.out.hm] at cO
  rw [HV.out.hk] at cK
  by_cases hq : 0 < q
  · have g1 : decide (0 < q) = true := decide_eq_true hq
    have EL : Hid (loseL lost acked off q = addAll (holesR acked [(off, off + q - 1)]) lost) := if_pos hq
    have HAT := Lib.hid (HV.out.ok.loseAt off q f HP.out hq)
    obtain ⟨R, hR⟩ : ∃ R, holesR acked [(off, off + q - 1)] = R := ⟨_, rfl⟩
    obtain ⟨r, hr⟩ : ∃ r, R.length = r := ⟨_, rfl⟩
    have HRR := Lib.hid hR
    have HRL := Lib.hid hr
    rw [hR] at HAT EL
    clear hR hr
    have FS := hS5.facts8
    have FR := hR5.two
    go_wp2_with fail
    refine (rHoles_own C' k k' acked HV.out.hk HV.out.ok.ha cK.1 cK.2 off (off + q - 1) p0 (by omega) (by omega) R r HRR.out HRL.out _ HO5.out.k.rd).mono ?_
    rintro e6 w6 ⟨L, cl, rfl, hl1, hl2, hL, hb6⟩
    have hS6 := Lib.hid (hS5.carry hb6)
    have hZ6 := Lib.hid (HZ5.out.carry hb6)
    have hO6 := Lib.hid (HO5.out.carry hb6)
    have hbw6 := Lib.hid (HB5.out.trans (hb6.mono HB5.out.size))
    have hz6 := hb6.size
    have HL := Lib.hid hL
    clear FS FR hS5 hR5 HZ5 HO5 HB5 hb6 hL
    go_wp2_with fail
    go_loopw [41] (fun iv wr => ∃ (j : Nat) (B2 : Option Addr) (m2 d2 : Nat), j ≤ r ∧ iv = .int .i64 (j : Int) ∧ Blk wr w.heap.size 50 #[.slice A' n c', .bool fin, .int .i64 nx, .int .i64 mx, .slice B2 m2 d2, .slice C' k k', .bool ended, .bool over] ∧ Blk wr (w.heap.size + 1) 50 #[.slice none 0 0, .bool false, .int .i64 0, .int .i64 0, .slice none 0 0, .slice none 0 0, .bool false, .bool false] ∧ (addAll (R.take j) lost).length = m2 ∧ SnO wr w3.heap.size A' c' bs B2 d2 (addAll (R.take j) lost) C' k' acked ∧ OwnX rcells 2 wr w5.heap.size 35 L cl R ∧ Below w.heap.size w wr ∧ w5.heap.size ≤ wr.heap.size) (fun iv _ => r - (intOf iv).toNat)
    case atStart => exact ⟨0, B', m, d', Nat.zero_le _, rfl, hS6.out, hZ6.out, HV.out.hm, hO6.out, HL.out, hbw6.out, hz6⟩
    case round =>
      obtain ⟨j, B2, m2, d2, hj, rfl, hSr, hZr, hml, hOr, hLr, hbr, hzr⟩ := hrel
      have HML := Lib.hid hml
      have HOR := Lib.hid hOr
      have HLR := Lib.hid hLr
      have HBR := Lib.hid hbr
      have HZR := Lib.hid hZr
      clear hml hOr hLr hbr hZr hS6 hZ6 hO6 hbw6 HL
      by_cases hlt : j < r
      · obtain ⟨b, off9, hLe, hcell⟩ := HLR.out.rd.rcell (by have := HRL.out; omega)
        obtain ⟨c0, c1⟩ := hcell j (by have := HRL.out; omega)
        have hx := HAT.out.1 _ (getD_in R j (0, 0) (by have := HRL.out; omega))
        have HADD := Lib.hid (addAll_take R j (by have := HRL.out; omega) lost)
        have hgd := (HAT.out.2 j).1
        have hfw := (HAT.out.2 j).2
        rw [HML.out] at hfw
        have HGD := Lib.hid hgd
        clear hcell hgd
        generalize R.getD j (0, 0) = x at *
        obtain ⟨xl, xh⟩ := x
        simp only at c0 c1 hx
        obtain ⟨x0, x1, x2⟩ := hx
        obtain ⟨m3, hm3⟩ : ∃ m3, (addR (addAll (R.take j) lost) (xl, xh) false).length = m3 := ⟨_, rfl⟩
        have HM3 := Lib.hid hm3
        have cB := HOR.out.l.cap
        rw [HML.out] at cB
        clear hm3
        subst hLe
        go_upto_region 10 with (fail)
        refine wp_world (fun w' => Blk w' wr.heap.size 35 #[.int .i64 xl, .int .i64 xh] ∧ Below wr.heap.size wr w') ⟨Blk.new _ _ _, (Below.refl _ _).alloc (Nat.le_refl _) _⟩ ?_
        rintro w7 ⟨hX7, hb7⟩
        have hS7 := hSr.carry hb7
        have HZ7 := Lib.hid (HZR.out.carry hb7)
        have HO7 := Lib.hid (HOR.out.carry hb7)
        have HL7 := Lib.hid (HLR.out.carry hb7)
        have HB7 := Lib.hid (HBR.out.trans (hb7.mono HBR.out.size))
        have hz7 := hb7.size
        generalize wr.heap.size = gx at *
        clear c0 c1 hSr HZR HOR HLR HBR hb7
        have FS := hS7.facts8
        have FX := hX7.two
        go_wp2_with fail
        refine (rAdd_own B2 m2 d2 (addAll (R.take j) lost) HML.out HGD.out cB.1 cB.2 (by omega) xl xh x0 x1 (by omega) _ m3 rfl HM3.out _ HO7.out.l.rd).mono ?_
        rintro e8 w8 ⟨B3, d3, rfl, _, _, hB3, hb8⟩
        have hS8 := hS7.carry hb8
        have hZ8 := HZ7.out.carry hb8
        have hO8 := HO7.out.carry hb8
        have hL8 := HL7.out.carry hb8
        have hbw8 := HB7.out.trans (hb8.mono HB7.out.size)
        have hz8 := hb8.size
        clear FS FX hX7 hS7 HZ7 HO7 HL7 HB7 hb8
        have FS := hS8.facts8
        have hO9 : SnO w8 w3.heap.size A' c' bs B3 d3 (addR (addAll (R.take j) lost) (xl, xh) false) C' k' acked := ⟨hO8.a, hB3.mono (by omega), hO8.k⟩
        go_wp2_with fail
        go_roundw
        case rel =>
          refine ⟨j + 1, B3, m3, d3, by omega, by go_num, (hS8.set_ 4 _).as (by rfl), by (apply Blk.as; (case h => (repeat (first | with_reducible exact hZ8 | with_reducible apply Blk.drew | with_reducible apply Blk.set4 | with_reducible apply Blk.set_ | (with_reducible apply Blk.far4 (hne := ?side); case side => (first | omega | (simp; omega) | (simp; done))) | (with_reducible apply Blk.far (hp := ?side); case side => (first | omega | (simp; omega) | (simp; done))) | with_reducible apply Blk.alloc))); (case e => (first | with_reducible rfl | (simp; done) | rfl))), by rw [HADD.out]; exact HM3.out, by rw [HADD.out]; exact hO9.set (by show w.heap.size < w3.heap.size; omega) _, hL8.set_below (by show w.heap.size < w5.heap.size; omega) _, by (repeat (first | with_reducible exact hbw8 | with_reducible refine Below.drew ?_ | (with_reducible refine Below.set4 ?_ ?side _ _ _ _; case side => (first | omega | (simp; omega) | (simp; done))) | (with_reducible refine Below.setCell ?_ ?side _; case side => (first | omega | (simp; omega) | (simp; done))) | (with_reducible refine Below.alloc ?_ ?side _; case side => (first | omega | (simp; omega) | (simp; done))))), by simp; omega⟩
        case measure => first | (simp [intOf]; done) | (simp [intOf]; omega)
      · obtain rfl : j = r := by omega
        have HM2 : Hid ((loseL lost acked off q).length = m2) := Lib.hid (by rw [EL.out, ← HML.out, List.take_of_length_le (by have := HRL.out; omega)])
        have HO7 : Hid (SnO wr w3.heap.size A' c' bs B2 d2 (loseL lost acked off q) C' k' acked) := Lib.hid (by rw [EL.out]; have h := HOR.out; rwa [List.take_of_length_le (by have := HRL.out; omega)] at h)
        have HB7 := HBR
        have HZ7 := HZR
        have hS7 := hSr
        clear HOR HLR HBR HZR HML HAT hSr
        have FS := hS7.facts8
        have FZ := HZ7.out.facts8
        clear hS7
        cases f with
        | false =>
          cases ended with
          | false =>
            go_wp2_with fail
            refine bodyPost_ret (v := .tuple #[.agg #[.slice A' n c', .bool fin, .int .i64 nx, .int .i64 mx, .slice B2 m2 d2, .slice C' k k', .bool false, .bool over], .int .i64 0]) ?_ rfl ⟨A', c', B2, m2, d2, C', k', rfl, ?_, ?_⟩
            · simp [results, Try.results19, go_sem, FZ] <;> rfl
            · refine SnO.keep (b := w3.heap.size) ?_ (by omega) HV.out.hn HM2.out HV.out.hk (HV.out.ok.loseAny off q _ HP.out)
              have hO := HO7.out
              (repeat (first | with_reducible exact hO | ((with_reducible refine SnO.set ?_ ?side _); case side => (first | (show w.heap.size < w3.heap.size; omega) | (show w.heap.size + 1 < w3.heap.size; omega)))))
            · have h := HB7.out
              (repeat (first | with_reducible exact h | with_reducible refine Below.drew ?_ | (with_reducible refine Below.set4 ?_ ?side _ _ _ _; case side => (first | omega | (simp; omega) | (simp; done))) | (with_reducible refine Below.setCell ?_ ?side _; case side => (first | omega | (simp; omega) | (simp; done))) | (with_reducible refine Below.alloc ?_ ?side _; case side => (first | omega | (simp; omega) | (simp; done)))))
          | true =>
            go_wp2_with fail
            refine bodyPost_ret (v := .tuple #[.agg #[.slice A' n c', .bool fin, .int .i64 nx, .int .i64 mx, .slice B2 m2 d2, .slice C' k k', .bool true, .bool over], .int .i64 0]) ?_ rfl ⟨A', c', B2, m2, d2, C', k', rfl, ?_, ?_⟩
            · simp [results, Try.results19, go_sem, FZ] <;> rfl
            · refine SnO.keep (b := w3.heap.size) ?_ (by omega) HV.out.hn HM2.out HV.out.hk (HV.out.ok.loseAny off q _ HP.out)
              have hO := HO7.out
              (repeat (first | with_reducible exact hO | ((with_reducible refine SnO.set ?_ ?side _); case side => (first | (show w.heap.size < w3.heap.size; omega) | (show w.heap.size + 1 < w3.heap.size; omega)))))
            · have h := HB7.out
              (repeat (first | with_reducible exact h | with_reducible refine Below.drew ?_ | (with_reducible refine Below.set4 ?_ ?side _ _ _ _; case side => (first | omega | (simp; omega) | (simp; done))) | (with_reducible refine Below.setCell ?_ ?side _; case side => (first | omega | (simp; omega) | (simp; done))) | (with_reducible refine Below.alloc ?_ ?side _; case side => (first | omega | (simp; omega) | (simp; done)))))
        | true =>
          cases ended with
          | false =>
            go_wp2_with fail
            refine bodyPost_ret (v := .tuple #[.agg #[.slice A' n c', .bool fin, .int .i64 nx, .int .i64 mx, .slice B2 m2 d2, .slice C' k k', .bool false, .bool over], .int .i64 0]) ?_ rfl ⟨A', c', B2, m2, d2, C', k', rfl, ?_, ?_⟩
            · simp [results, Try.results19, go_sem, FZ] <;> rfl
            · refine SnO.keep (b := w3.heap.size) ?_ (by omega) HV.out.hn HM2.out HV.out.hk (HV.out.ok.loseAny off q _ HP.out)
              have hO := HO7.out
              (repeat (first | with_reducible exact hO | ((with_reducible refine SnO.set ?_ ?side _); case side => (first | (show w.heap.size < w3.heap.size; omega) | (show w.heap.size + 1 < w3.heap.size; omega)))))
            · have h := HB7.out
              (repeat (first | with_reducible exact h | with_reducible refine Below.drew ?_ | (with_reducible refine Below.set4 ?_ ?side _ _ _ _; case side => (first | omega | (simp; omega) | (simp; done))) | (with_reducible refine Below.setCell ?_ ?side _; case side => (first | omega | (simp; omega) | (simp; done))) | (with_reducible refine Below.alloc ?_ ?side _; case side => (first | omega | (simp; omega) | (simp; done)))))
          | true =>
            go_wp2_with fail
            refine bodyPost_ret (v := .tuple #[.agg #[.slice A' n c', .bool fin, .int .i64 nx, .int .i64 mx, .slice B2 m2 d2, .slice C' k k', .bool false, .bool over], .int .i64 0]) ?_ rfl ⟨A', c', B2, m2, d2, C', k', rfl, ?_, ?_⟩
            · simp [results, Try.results19, go_sem, FZ] <;> rfl
            · refine SnO.keep (b := w3.heap.size) ?_ (by omega) HV.out.hn HM2.out HV.out.hk (HV.out.ok.loseAny off q _ HP.out)
              have hO := HO7.out
              (repeat (first | with_reducible exact hO | ((with_reducible refine SnO.set ?_ ?side _); case side => (first | (show w.heap.size < w3.heap.size; omega) | (show w.heap.size + 1 < w3.heap.size; omega)))))
            · have h := HB7.out
              (repeat (first | with_reducible exact h | with_reducible refine Below.drew ?_ | (with_reducible refine Below.set4 ?_ ?side _ _ _ _; case side => (first | omega | (simp; omega) | (simp; done))) | (with_reducible refine Below.setCell ?_ ?side _; case side => (first | omega | (simp; omega) | (simp; done))) | (with_reducible refine Below.alloc ?_ ?side _; case side => (first | omega | (simp; omega) | (simp; done)))))
  · have g1 : decide (0 < q) = false := decide_eq_false hq
    have EL : Hid (loseL lost acked off q = lost) := if_neg hq
    have HM2 : Hid ((loseL lost acked off q).length = m) := Lib.hid (by rw [EL.out]; exact HV.out.hm)
    have HO7 : Hid (SnO w5 w3.heap.size A' c' bs B' d' (loseL lost acked off q) C' k' acked) := Lib.hid (by rw [EL.out]; exact HO5.out)
    have hS7 := hS5
    have HB7 := HB5
    have HZ7 := HZ5
    clear HO5 hS5 HB5 HZ5 hR5
    have FS := hS7.facts8
    have FZ := HZ7.out.facts8
    clear hS7
    cases f with
    | false =>
      cases ended with
      | false =>
        go_wp2_with fail
        refine bodyPost_ret (v := .tuple #[.agg #[.slice A' n c', .bool fin, .int .i64 nx, .int .i64 mx, .slice B' m d', .slice C' k k', .bool false, .bool over], .int .i64 0]) ?_ rfl ⟨A', c', B', m, d', C', k', rfl, ?_, ?_⟩
        · simp [results, Try.results19, go_sem, FZ] <;> rfl
        · refine SnO.keep (b := w3.heap.size) ?_ (by omega) HV.out.hn HM2.out HV.out.hk (HV.out.ok.loseAny off q _ HP.out)
          have hO := HO7.out
          (repeat (first | with_reducible exact hO | ((with_reducible refine SnO.set ?_ ?side _); case side => (first | (show w.heap.size < w3.heap.size; omega) | (show w.heap.size + 1 < w3.heap.size; omega)))))
        · have h := HB7.out
          (repeat (first | with_reducible exact h | with_reducible refine Below.drew ?_ | (with_reducible refine Below.set4 ?_ ?side _ _ _ _; case side => (first | omega | (simp; omega) | (simp; done))) | (with_reducible refine Below.setCell ?_ ?side _; case side => (first | omega | (simp; omega) | (simp; done))) | (with_reducible refine Below.alloc ?_ ?side _; case side => (first | omega | (simp; omega) | (simp; done)))))
      | true =>
        go_wp2_with fail
        refine bodyPost_ret (v := .tuple #[.agg #[.slice A' n c', .bool fin, .int .i64 nx, .int .i64 mx, .slice B' m d', .slice C' k k', .bool true, .bool over], .int .i64 0]) ?_ rfl ⟨A', c', B', m, d', C', k', rfl, ?_, ?_⟩
        · simp [results, Try.results19, go_sem, FZ] <;> rfl
        · refine SnO.keep (b := w3.heap.size) ?_ (by omega) HV.out.hn HM2.out HV.out.hk (HV.out.ok.loseAny off q _ HP.out)
          have hO := HO7.out
          (repeat (first | with_reducible exact hO | ((with_reducible refine SnO.set ?_ ?side _); case side => (first | (show w.heap.size < w3.heap.size; omega) | (show w.heap.size + 1 < w3.heap.size; omega)))))
        · have h := HB7.out
          (repeat (first | with_reducible exact h | with_reducible refine Below.drew ?_ | (with_reducible refine Below.set4 ?_ ?side _ _ _ _; case side => (first | omega | (simp; omega) | (simp; done))) | (with_reducible refine Below.setCell ?_ ?side _; case side => (first | omega | (simp; omega) | (simp; done))) | (with_reducible refine Below.alloc ?_ ?side _; case side => (first | omega | (simp; omega) | (simp; done)))))
    | true =>
      cases ended with
      | false =>
        go_wp2_with fail
        refine bodyPost_ret (v := .tuple #[.agg #[.slice A' n c', .bool fin, .int .i64 nx, .int .i64 mx, .slice B' m d', .slice C' k k', .bool false, .bool over], .int .i64 0]) ?_ rfl ⟨A', c', B', m, d', C', k', rfl, ?_, ?_⟩
        · simp [results, Try.results19, go_sem, FZ] <;> rfl
        · refine SnO.keep (b := w3.heap.size) ?_ (by omega) HV.out.hn HM2.out HV.out.hk (HV.out.ok.loseAny off q _ HP.out)
          have hO := HO7.out
          (repeat (first | with_reducible exact hO | ((with_reducible refine SnO.set ?_ ?side _); case side => (first | (show w.heap.size < w3.heap.size; omega) | (show w.heap.size + 1 < w3.heap.size; omega)))))
        · have h := HB7.out
          (repeat (first | with_reducible exact h | with_reducible refine Below.drew ?_ | (with_reducible refine Below.set4 ?_ ?side _ _ _ _; case side => (first | omega | (simp; omega) | (simp; done))) | (with_reducible refine Below.setCell ?_ ?side _; case side => (first | omega | (simp; omega) | (simp; done))) | (with_reducible refine Below.alloc ?_ ?side _; case side => (first | omega | (simp; omega) | (simp; done)))))
      | true =>
        go_wp2_with fail
        refine bodyPost_ret (v := .tuple #[.agg #[.slice A' n c', .bool fin, .int .i64 nx, .int .i64 mx, .slice B' m d', .slice C' k k', .bool false, .bool over], .int .i64 0]) ?_ rfl ⟨A', c', B', m, d', C', k', rfl, ?_, ?_⟩
        · simp [results, Try.results19, go_sem, FZ] <;> rfl
        · refine SnO.keep (b := w3.heap.size) ?_ (by omega) HV.out.hn HM2.out HV.out.hk (HV.out.ok.loseAny off q _ HP.out)
          have hO := HO7.out
          (repeat (first | with_reducible exact hO | ((with_reducible refine SnO.set ?_ ?side _); case side => (first | (show w.heap.size < w3.heap.size; omega) | (show w.heap.size + 1 < w3.heap.size; omega)))))
        · have h := HB7.out
          (repeat (first | with_reducible exact h | with_reducible refine Below.drew ?_ | (with_reducible refine Below.set4 ?_ ?side _ _ _ _; case side => (first | omega | (simp; omega) | (simp; done))) | (with_reducible refine Below.setCell ?_ ?side _; case side => (first | omega | (simp; omega) | (simp; done))) | (with_reducible refine Below.alloc ?_ ?side _; case side => (first | omega | (simp; omega) | (simp; done)))))
end Go.Proofs.Ytpmgoediglmofaa
