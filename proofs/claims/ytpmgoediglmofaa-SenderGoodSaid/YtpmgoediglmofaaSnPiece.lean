/- The contract of sender.Piece. -/
import Derived.Test.YtpmgoediglmofaaSnBase
import Derived.BigRegion
import Derived.BigQuiet
namespace Go.Proofs.Ytpmgoediglmofaa
open Go.ChangeShapes Go.WideShapes Go.ChangeAt Go.RowKit
set_option linter.unusedVariables false

theorem Blk.facts7 {w : World} {g : Nat} {t : TypeId} {a b c d e f i : Value} (h : Blk w g t #[a, b, c, d, e, f, i]) : g < w.heap.size ∧ w.cell? ⟨g, 0, none⟩ = some a ∧ w.cell? ⟨g, 1, none⟩ = some b ∧ w.cell? ⟨g, 2, none⟩ = some c ∧ w.cell? ⟨g, 3, none⟩ = some d ∧ w.cell? ⟨g, 4, none⟩ = some e ∧ w.cell? ⟨g, 5, none⟩ = some f ∧ w.cell? ⟨g, 6, none⟩ = some i ∧
    w.frozen? ⟨g, 0, none⟩ = false ∧ w.frozen? ⟨g, 1, none⟩ = false ∧ w.frozen? ⟨g, 2, none⟩ = false ∧ w.frozen? ⟨g, 3, none⟩ = false ∧ w.frozen? ⟨g, 4, none⟩ = false ∧ w.frozen? ⟨g, 5, none⟩ = false ∧ w.frozen? ⟨g, 6, none⟩ = false :=
  ⟨h.lt, by rw [h.cell]; rfl, by rw [h.cell]; rfl, by rw [h.cell]; rfl, by rw [h.cell]; rfl, by rw [h.cell]; rfl, by rw [h.cell]; rfl, by rw [h.cell]; rfl, h.frozen 0, h.frozen 1, h.frozen 2, h.frozen 3, h.frozen 4, h.frozen 5, h.frozen 6⟩
theorem SpKeep.and2 {w w' : World} {P Q : World → Prop} (h1 : SpKeep w w' P) (h2 : SpKeep w w' Q) : SpKeep w w' (fun W => P W ∧ Q W) := fun W hW => ⟨h1 W hW, h2 W hW⟩
theorem OwnX.keepB {w0 w : World} {b : Nat} {E : TypeId} {A : Option Addr} {c : Nat} {bs : List UInt8} (h : OwnX u8c 1 w b E A c bs) (hb : w0.heap.size ≤ b) : SpKeep w0 w (fun W => RdB W A bs) := fun W hW => (OwnX.rd (ownx_agree h fun q h1 h2 => hW q (by omega) h2)).b
structure OwnS (w : World) (b : Nat) (A : Option Addr) (c : Nat) (bs : List UInt8) : Prop where
  a : OwnX u8c 1 w b 5 A c bs
theorem OwnS.set {w : World} {b : Nat} {A : Option Addr} {c : Nat} {bs : List UInt8} (h : OwnS w b A c bs) {p : Addr} (hp : p.block < b) (u : Value) : OwnS (w.setCell p u) b A c bs := ⟨h.a.set_below hp u⟩
theorem OwnS.drew {w : World} {b : Nat} {A : Option Addr} {c : Nat} {bs : List UInt8} (h : OwnS w b A c bs) : OwnS w.drew b A c bs := ⟨h.a⟩
theorem OwnS.keepB {w0 w : World} {b : Nat} {A : Option Addr} {c : Nat} {bs : List UInt8} (h : OwnS w b A c bs) (hb : w0.heap.size ≤ b) : SpKeep w0 w (fun W => RdB W A bs) := h.a.keepB hb
theorem run_min4S {P : Program} {w : World} (ts : Array TypeId) (t : TypeId) (k k' k'' k3 : IntKind) (x y z u : Int) : (Builtin.min_ ts t #[.int k x, .int k' y, .int k'' z, .int k3 u]).run P w = .ok (.int k (if u < (if z < (if y < x then y else x) then z else (if y < x then y else x)) then u else (if z < (if y < x then y else x) then z else (if y < x then y else x)))) w := by
  simp [Builtin.min_, Builtin.min2]
/-- Where the next piece begins, and ends. -/
def pcLo (nx : Int) (lost : List Rng) (room : Int) : Int := if 0 < lost.length ∧ 0 < room then (lost.getD 0 (0, 0)).1 else nx
def pcNew (n : Nat) (nx mx room credit : Int) : Int := min (min (min (n : Int) mx) (nx + room)) (nx + min credit 120)
def pcHi (n : Nat) (nx mx : Int) (lost : List Rng) (room credit : Int) : Int := if 0 < lost.length ∧ 0 < room then min ((lost.getD 0 (0, 0)).2 + 1) ((lost.getD 0 (0, 0)).1 + room) else pcNew n nx mx room credit
theorem SnOk.pc {n : Nat} {fin : Bool} {nx mx : Int} {lost acked : List Rng} {ended over : Bool} (h : SnOk n fin nx mx lost acked ended over) (room credit : Int) (h0 : 0 ≤ room) (h1 : 0 ≤ credit) :
    0 ≤ pcLo nx lost room ∧ pcLo nx lost room ≤ pcHi n nx mx lost room credit ∧ pcHi n nx mx lost room credit ≤ n ∧ pcHi n nx mx lost room credit ≤ mx ∧ (pcLo nx lost room < pcHi n nx mx lost room credit ∨ (pcLo nx lost room = nx ∧ pcHi n nx mx lost room credit = nx)) := by
  have hx0 := h.x0
  have hx1 := h.x1
  have hm0 := h.m0
  unfold pcLo pcHi pcNew
  by_cases hc : 0 < lost.length ∧ 0 < room
  · rw [if_pos hc, if_pos hc]
    have hin := getD_in lost 0 (0, 0) hc.1
    have h2 := good_each h.hl _ hin
    have h3 := goodFrom_low h.hl _ ⟨_, hin, Int.le_refl _, h2⟩
    have h4 := h.lh' _ hin
    omega
  · rw [if_neg hc, if_neg hc]
    omega
/-- Is the end told, too? -/
def pcFin (n : Nat) (fin ended over : Bool) (hi : Int) : Bool := fin && !ended && !over && decide (hi = (n : Int))
def pcLost (lost : List Rng) (lo hi : Int) : List Rng := if lo < hi then cutR lost (lo, hi - 1) else lost
theorem SnOk.pieceAny {n : Nat} {fin : Bool} {nx mx : Int} {lost acked : List Rng} {ended over : Bool} (h : SnOk n fin nx mx lost acked ended over) (room credit : Int) (h0 : 0 ≤ room) (h1 : 0 ≤ credit) (lo hi : Int) (hlo : pcLo nx lost room = lo) (hhi : pcHi n nx mx lost room credit = hi) :
    SnOk n fin (max nx hi) mx (pcLost lost lo hi) acked (ended || pcFin n fin ended over hi) over := by
  obtain ⟨p0, p1, p2, p3, p4⟩ := h.pc room credit h0 h1
  rw [hlo, hhi] at p1 p4
  rw [hlo] at p0
  rw [hhi] at p2 p3
  have hF : pcFin n fin ended over hi = true → fin = true ∧ ended = false ∧ over = false ∧ hi = n := fun hf => by
    unfold pcFin at hf; simp at hf; exact ⟨hf.1.1.1, hf.1.1.2, hf.1.2, hf.2⟩
  unfold pcLost
  by_cases hl : lo < hi
  · rw [if_pos hl]; exact h.piece lo hi p0 hl p2 p3 _ hF
  · rw [if_neg hl]
    obtain ⟨e1, e2⟩ := p4.resolve_left hl
    rw [show max nx hi = nx by omega]
    cases hf : pcFin n fin ended over hi with
    | false => simpa using h
    | true =>
      have := hF hf
      simpa using h.endOnly ⟨this.1, this.2.1, this.2.2.1, by omega⟩
/-- What Piece answers. -/
def PieceS (w : World) (n : Nat) (bs : List UInt8) (fin : Bool) (nx mx : Int) (lost : List Rng) (k : Nat) (acked : List Rng) (ended over : Bool) (lo hi : Nat) (F got : Bool) (e' : Ending) (w' : World) : Prop :=
  ∃ (A' : Option Addr) (c' : Nat) (B' : Option Addr) (m' d' : Nat) (C' : Option Addr) (k' : Nat) (D : Option Addr) (nd cd : Nat), e' = .returned (.tuple #[.agg #[.slice A' n c', .bool fin, .int .i64 (max nx hi), .int .i64 mx, .slice B' m' d', .slice C' k k', .bool (ended || F), .bool over],
      .agg #[.int .i64 (if got then 8 else 0), .int .i64 0, .int .i64 (if got then (lo : Int) else 0), .bool F, .int .i64 0, .slice none 0 0, .slice D nd cd], .bool got, .int .i64 0]) ∧
    SpKeep w w' (fun W => SnV W A' n c' bs fin (max nx hi) mx B' m' d' (pcLost lost lo hi) C' k k' acked (ended || F) over ∧ RdB W D ((bs.drop lo).take (hi - lo))) ∧ nd = hi - lo ∧ nd ≤ cd ∧ cd ≤ 9223372036854775807 ∧ Below w.heap.size w w'

set_option maxRecDepth 100000 in
set_option maxHeartbeats 8000000 in
theorem snPiece_ok (w : World) (A : Option Addr) (n c : Nat) (bs : List UInt8) (fin : Bool) (nx mx : Int) (B : Option Addr) (m d : Nat) (lost : List Rng) (C : Option Addr) (k e : Nat) (acked : List Rng) (ended over : Bool) (h : SnV w A n c bs fin nx mx B m d lost C k e acked ended over)
    (room credit : Int) (hr0 : 0 ≤ room) (hr1 : room ≤ 120) (hc0 : 0 ≤ credit) (hc1 : credit ≤ 9223372036854775807) (lo hi : Nat) (hlo : pcLo nx lost room = lo) (hhi : pcHi n nx mx lost room credit = hi) (F got : Bool) (hF : pcFin n fin ended over hi = F) (hg : (decide ((lo : Int) < hi) || F) = got) :
    Calls Try.prog 18 #[.agg #[.slice A n c, .bool fin, .int .i64 nx, .int .i64 mx, .slice B m d, .slice C k e, .bool ended, .bool over], .int .i64 room, .int .i64 credit] w (PieceS w n bs fin nx mx lost k acked ended over lo hi F got) := by
  have HV := Lib.hid h
  have hx0 := h.ok.x0
  have hx1 := h.ok.x1
  have hn6 := h.ok.n600
  have hm0 := h.ok.m0
  have hm1 := h.ok.m1
  obtain ⟨p0, p1, p2, p3, p4⟩ := h.ok.pc room credit hr0 hc0
  rw [hlo, hhi] at p1 p4
  rw [hlo] at p0
  rw [hhi] at p2 p3
  have HOK : Hid (SnOk n fin (max nx hi) mx (pcLost lost lo hi) acked (ended || F) over) := Lib.hid (by have hk := h.ok.pieceAny room credit hr0 hc0 lo hi hlo hhi; rw [hF] at hk; exact hk)
  have HLO := Lib.hid hlo
  have HHI := Lib.hid hhi
  have HF := Lib.hid hF
  have HG := Lib.hid hg
  have P4 := Lib.hid p4
  clear h hlo hhi hF hg p4
  have t1 : decide (room < 0) = false := decide_eq_false (by omega)
  have t2 : decide ((120 : Int) < room) = false := decide_eq_false (by omega)
  have t3 : decide (credit < 0) = false := decide_eq_false (by omega)
  go_enter Try.func18, Try.ntmps18
  go_upto_region 1 with (fail)
  refine wp_world (fun w' => Blk w' w.heap.size 50 #[.slice A n c, .bool fin, .int .i64 nx, .int .i64 mx, .slice B m d, .slice C k e, .bool ended, .bool over] ∧ Blk w' (w.heap.size + 1) 50 #[.slice none 0 0, .bool false, .int .i64 0, .int .i64 0, .slice none 0 0, .slice none 0 0, .bool false, .bool false] ∧ Blk w' (w.heap.size + 1 + 1) 59 #[.int .i64 0, .int .i64 0, .int .i64 0, .bool false, .int .i64 0, .slice none 0 0, .slice none 0 0] ∧ Below w.heap.size w w') ⟨((Blk.new _ _ _).alloc _).alloc _, (Blk.new1 _ _ _ _).alloc _, Blk.new2 _ _ _ _ _, (((Below.refl _ _).alloc (Nat.le_refl _) _).alloc (by simp) _).alloc (by simp; omega) _⟩ ?_
  rintro w1 ⟨hS, hZ0, hF0, hb1⟩
  have FS := hS.facts8
  go_wp2_with fail
  refine (HV.out.below hb1).check.mono ?_
  rintro e1 w2 ⟨rfl, hb2⟩
  have hS2 := hS.carry hb2
  have hZ2 := hZ0.carry hb2
  have hF2 := hF0.carry hb2
  have hbb := hb1.trans (hb2.mono hb1.size)
  have hgs2 := hF2.lt
  clear FS hS hZ0 hF0 hb1 hb2
  have FS := hS2.facts8
  go_wp2_with fail
  refine (HV.out.below hbb).fresh.mono ?_
  rintro e2 w4 ⟨A', c', B', d', C', k', rfl, hO, _, hb4⟩
  have hS4 := hS2.carry hb4
  have hZ4 := hZ2.carry hb4
  have hF4 := hF2.carry hb4
  have hb14 := hbb.trans (hb4.mono hbb.size)
  have hz4 := hb4.size
  clear FS hS2 hZ2 hF2 hbb hb4
  have FS := hS4.facts8
  go_upto_region 7 with (fail)
  refine wp_world (fun w' => Blk w' w.heap.size 50 #[.slice A' n c', .bool fin, .int .i64 nx, .int .i64 mx, .slice B' m d', .slice C' k k', .bool ended, .bool over] ∧ Blk w' (w.heap.size + 1) 50 #[.slice none 0 0, .bool false, .int .i64 0, .int .i64 0, .slice none 0 0, .slice none 0 0, .bool false, .bool false] ∧ Blk w' (w.heap.size + 1 + 1) 59 #[.int .i64 0, .int .i64 0, .int .i64 0, .bool false, .int .i64 0, .slice none 0 0, .slice none 0 0] ∧ SnO w' w2.heap.size A' c' bs B' d' lost C' k' acked ∧ Below w.heap.size w w' ∧ w2.heap.size ≤ w'.heap.size) ⟨((((((((hS4.set_ 0 _).set_ 1 _).set_ 2 _).set_ 3 _).set_ 4 _).set_ 5 _).set_ 6 _).set_ 7 _).as (by rfl), by (apply Blk.as; (case h => (repeat (first | with_reducible exact hZ4 | with_reducible apply Blk.drew | with_reducible apply Blk.set4 | with_reducible apply Blk.set_ | (with_reducible apply Blk.far4 (hne := ?side); case side => (first | omega | (simp; omega) | (simp; done))) | (with_reducible apply Blk.far (hp := ?side); case side => (first | omega | (simp; omega) | (simp; done))) | with_reducible apply Blk.alloc))); (case e => (first | with_reducible rfl | (simp; done) | rfl))), by (apply Blk.as; (case h => (repeat (first | with_reducible exact hF4 | with_reducible apply Blk.drew | with_reducible apply Blk.set4 | with_reducible apply Blk.set_ | (with_reducible apply Blk.far4 (hne := ?side); case side => (first | omega | (simp; omega) | (simp; done))) | (with_reducible apply Blk.far (hp := ?side); case side => (first | omega | (simp; omega) | (simp; done))) | with_reducible apply Blk.alloc))); (case e => (first | with_reducible rfl | (simp; done) | rfl))), ?_, by (repeat (first | with_reducible exact hb14 | with_reducible refine Below.drew ?_ | (with_reducible refine Below.set4 ?_ ?side _ _ _ _; case side => (first | omega | (simp; omega) | (simp; done))) | (with_reducible refine Below.setCell ?_ ?side _; case side => (first | omega | (simp; omega) | (simp; done))) | (with_reducible refine Below.alloc ?_ ?side _; case side => (first | omega | (simp; omega) | (simp; done))))), by simpa using hz4⟩ ?_
  · (repeat (first | with_reducible exact hO | ((with_reducible refine SnO.set ?_ ?side _); case side => (show w.heap.size < w2.heap.size; omega))))
  clear FS hS4 hZ4 hF4 hb14 hO hz4 t1 t2 t3
  rintro w5 ⟨hS5, hZ5, hF5, hO5, hb5, hz25⟩
  have HO5 := Lib.hid hO5
  have HB5 := Lib.hid hb5
  have HZ5 := Lib.hid hZ5
  have HF5 := Lib.hid hF5
  clear hO5 hb5 hZ5 hF5
  have FS := hS5.facts8
  obtain ⟨N0, hN0⟩ : ∃ N0, pcNew n nx mx room credit = N0 := ⟨_, rfl⟩
  have HN0 := Lib.hid hN0
  go_cut [11, 12] (fun s11 s12 wx => s11 = .int .i64 nx ∧ s12 = .int .i64 N0 ∧ Below w5.heap.size w5 wx)
  case first =>
    -- [[first1
    have w1_ : IntKind.i64.wrap (nx + room) = nx + room := IntWalk.i64_in _ (by omega)
    obtain ⟨cr, hcr⟩ : ∃ cr : Int, (if (120 : Int) < credit then 120 else credit) = cr := ⟨_, rfl⟩
    have hcr2 : min credit 120 = cr := by rw [← hcr]; split <;> omega
    have hcr0 : 0 ≤ cr := by rw [← hcr]; split <;> omega
    have hcr1 : cr ≤ 120 := by rw [← hcr]; split <;> omega
    have w2_ : IntKind.i64.wrap (nx + cr) = nx + cr := IntWalk.i64_in _ (by omega)
    have hm4 : ∀ W, (Builtin.min_ #[3, 3, 3, 3] 3 #[.int .i64 (n : Int), .int .i64 mx, .int .i64 (nx + room), .int .i64 (nx + cr)]).run Try.prog W = .ok (.int .i64 N0) W := fun W => by
      have e : (if nx + cr < (if nx + room < (if mx < (n : Int) then mx else (n : Int)) then nx + room else (if mx < (n : Int) then mx else (n : Int))) then nx + cr else (if nx + room < (if mx < (n : Int) then mx else (n : Int)) then nx + room else (if mx < (n : Int) then mx else (n : Int)))) = N0 := by
        rw [← hN0]; unfold pcNew; rw [hcr2]; split <;> split <;> split <;> omega
      have h := run_min4S (P := Try.prog) (w := W) #[3, 3, 3, 3] 3 .i64 .i64 .i64 .i64 (n : Int) mx (nx + room) (nx + cr)
      rw [e] at h
      exact h
    clear hN0
    go_quiet (fail)
    go_wp2_with fail
    go_meet
    refine ⟨rfl, rfl, ?_⟩
    exact (Below.refl _ _).drewN1 _
    -- ]]first1
  case rest =>
    obtain ⟨rfl, rfl, hbx⟩ := hcut
    have hS6 := hS5.carry hbx
    have HZ6 := Lib.hid (HZ5.out.carry hbx)
    have HF6 := Lib.hid (HF5.out.carry hbx)
    have HO6 := Lib.hid (HO5.out.carry hbx)
    have HB6 := Lib.hid (HB5.out.trans (hbx.mono HB5.out.size))
    have hz6 : w2.heap.size ≤ wc.heap.size := Nat.le_trans hz25 hbx.size
    clear FS hS5 HZ5 HF5 HO5 HB5 hbx hN0
    have FS := hS6.facts8
    obtain ⟨T, hT⟩ : ∃ T, decide (0 < m ∧ 0 < room) = T := ⟨_, rfl⟩
    have HT := Lib.hid hT
    clear hT
    go_upto_region 8 with (fail)
    refine wp_world (fun w' => Blk w' w.heap.size 50 #[.slice A' n c', .bool fin, .int .i64 nx, .int .i64 mx, .slice B' m d', .slice C' k k', .bool ended, .bool over] ∧ Blk w' (w.heap.size + 1) 50 #[.slice none 0 0, .bool false, .int .i64 0, .int .i64 0, .slice none 0 0, .slice none 0 0, .bool false, .bool false] ∧ Blk w' (w.heap.size + 1 + 1) 59 #[.int .i64 0, .int .i64 0, .int .i64 0, .bool false, .int .i64 0, .slice none 0 0, .slice none 0 0] ∧ SnO w' w2.heap.size A' c' bs B' d' lost C' k' acked ∧ Below w.heap.size w w' ∧ w2.heap.size ≤ w'.heap.size) ⟨hS6, HZ6.out, HF6.out, HO6.out, HB6.out, hz6⟩ ?_
    clear FS hS6 HZ6 HF6 HO6 HB6 hz6
    rintro w6 ⟨hS6, hZ6, hF6, hO6, hb6, hz6⟩
    have HZ6 := Lib.hid hZ6
    have HF6 := Lib.hid hF6
    have HO6 := Lib.hid hO6
    have HB6 := Lib.hid hb6
    clear hZ6 hF6 hO6 hb6
    go_cut [60] (fun s60 wx => s60 = .bool T ∧ Below w6.heap.size w6 wx)
    case first =>
      -- [[first2
      have FS := hS6.facts8
      have hT := HT.out
      by_cases hm : 0 < m
      · by_cases hr : 0 < room
        · have g2 : decide (0 < room) = true := decide_eq_true hr
          have g1 : decide (0 < m) = true := decide_eq_true hm
          rw [decide_eq_true (show 0 < m ∧ 0 < room from ⟨hm, hr⟩)] at hT
          subst hT
          clear HT
          go_wp2_with fail
          all_goals first
            | (exfalso; rename_i hx hy; simp at hx; done)
            | (go_meet; exact ⟨rfl, Below.refl _ _⟩)
        · have g2 : decide (0 < room) = false := decide_eq_false hr
          have g1 : decide (0 < m) = true := decide_eq_true hm
          rw [decide_eq_false (show ¬ (0 < m ∧ 0 < room) from fun h => hr h.2)] at hT
          subst hT
          clear HT
          go_wp2_with fail
          all_goals first
            | (exfalso; rename_i hx hy; simp at hx; done)
            | (go_meet; exact ⟨rfl, Below.refl _ _⟩)
      · obtain rfl : m = 0 := by omega
        simp at hT
        subst hT
        clear HT
        go_wp2_with fail
        all_goals first
          | (exfalso; rename_i hx hy; simp at hx; done)
          | (go_meet; exact ⟨rfl, Below.refl _ _⟩)
      -- ]]first2
    case rest =>
      obtain ⟨rfl, hbx⟩ := hcut
      have hS7 := hS6.carry hbx
      have HZ7 := Lib.hid (HZ6.out.carry hbx)
      have HF7 := Lib.hid (HF6.out.carry hbx)
      have HO7 := Lib.hid (HO6.out.carry hbx)
      have HB7 := Lib.hid (HB6.out.trans (hbx.mono HB6.out.size))
      have hz7 : w2.heap.size ≤ wc.heap.size := Nat.le_trans hz6 hbx.size
      clear hS6 HZ6 HF6 HO6 HB6 hbx hz6
      go_upto_if 60 with (fail)
      refine wp_world (fun w' => Blk w' w.heap.size 50 #[.slice A' n c', .bool fin, .int .i64 nx, .int .i64 mx, .slice B' m d', .slice C' k k', .bool ended, .bool over] ∧ Blk w' (w.heap.size + 1) 50 #[.slice none 0 0, .bool false, .int .i64 0, .int .i64 0, .slice none 0 0, .slice none 0 0, .bool false, .bool false] ∧ Blk w' (w.heap.size + 1 + 1) 59 #[.int .i64 0, .int .i64 0, .int .i64 0, .bool false, .int .i64 0, .slice none 0 0, .slice none 0 0] ∧ SnO w' w2.heap.size A' c' bs B' d' lost C' k' acked ∧ Below w.heap.size w w' ∧ w2.heap.size ≤ w'.heap.size) ⟨hS7, HZ7.out, HF7.out, HO7.out, HB7.out, hz7⟩ ?_
      clear hS7 HZ7 HF7 HO7 HB7 hz7
      rintro w7 ⟨hS7, hZ7, hF7, hO7, hb7, hz7⟩
      have HZ7 := Lib.hid hZ7
      have HF7 := Lib.hid hF7
      have HO7 := Lib.hid hO7
      have HB7 := Lib.hid hb7
      clear hZ7 hF7 hO7 hb7
      go_cut [11, 12] (fun s11 s12 wx => s11 = .int .i64 (lo : Int) ∧ s12 = .int .i64 (hi : Int) ∧ Below w7.heap.size w7 wx)
      case first =>
        -- [[first3
        have FS := hS7.facts8
        have hT := HT.out
        have hlo := HLO.out
        have hhi := HHI.out
        have hn0 := HN0.out
        have hlm := HV.out.hm
        have HLM := Lib.hid hlm
        clear HT HN0
        unfold pcLo at hlo
        unfold pcHi at hhi
        rw [hlm] at hlo hhi
        cases T with
        | true =>
          have hc := of_decide_eq_true hT
          rw [if_pos hc] at hlo hhi
          obtain ⟨b, off, hBe, hcell⟩ := HO7.out.l.rd.rcell (by rw [HLM.out]; exact hc.1)
          obtain ⟨c0, c1⟩ := hcell 0 (by rw [HLM.out]; exact hc.1)
          have hgd := goodFrom_at HV.out.ok.hl (by decide) 0 (by rw [HLM.out]; exact hc.1)
          have hlx := lastHi HV.out.ok.lh' 0 (by rw [HLM.out]; exact hc.1)
          rw [Nat.zero_mul, Nat.add_zero] at c0 c1
          clear hcell hlm
          generalize lost.getD 0 (0, 0) = x at *
          obtain ⟨xl, xh⟩ := x
          simp only at c0 c1 hlo hhi hgd hlx
          subst hlo
          have v1 : IntKind.i64.wrap (xh + 1) = xh + 1 := IntWalk.i64_in _ (by omega)
          have v2 : IntKind.i64.wrap ((lo : Int) + room) = (lo : Int) + room := IntWalk.i64_in _ (by omega)
          have v3 : (if (lo : Int) + room < xh + 1 then (lo : Int) + room else xh + 1) = (hi : Int) := by rw [← hhi]; split <;> omega
          have v4 : min (xh + 1) ((lo : Int) + room) = (hi : Int) := hhi
          subst hBe
          have hm0_ : 0 < m := hc.1
          clear hc hhi hn0 hT
          go_wp2_with fail
          go_meet
          exact ⟨rfl, by first | rfl | simp_all, Below.refl _ _⟩
        | false =>
          have hc := of_decide_eq_false hT
          rw [if_neg hc] at hlo hhi
          have e1 : nx = (lo : Int) := hlo
          have e2 : N0 = (hi : Int) := by rw [← hn0, hhi]
          have E1 := Lib.hid e1
          have E2 := Lib.hid e2
          clear hlo hhi hn0 hT hc e1 e2 hlm
          go_wp2_with fail
          go_meet
          exact ⟨by rw [E1.out], by rw [E2.out], Below.refl _ _⟩
        -- ]]first3
      case rest =>
        obtain ⟨rfl, rfl, hbx⟩ := hcut
        have hS8 := hS7.carry hbx
        have HZ8 := Lib.hid (HZ7.out.carry hbx)
        have HF8 := Lib.hid (HF7.out.carry hbx)
        have HO8 := Lib.hid (HO7.out.carry hbx)
        have HB8 := Lib.hid (HB7.out.trans (hbx.mono HB7.out.size))
        have hz8 : w2.heap.size ≤ wc.heap.size := Nat.le_trans hz7 hbx.size
        clear hS7 HZ7 HF7 HO7 HB7 hbx hz7 HT HN0
        go_upto_region 11 with (fail)
        refine wp_world (fun w' => Blk w' w.heap.size 50 #[.slice A' n c', .bool fin, .int .i64 nx, .int .i64 mx, .slice B' m d', .slice C' k k', .bool ended, .bool over] ∧ Blk w' (w.heap.size + 1) 50 #[.slice none 0 0, .bool false, .int .i64 0, .int .i64 0, .slice none 0 0, .slice none 0 0, .bool false, .bool false] ∧ Blk w' (w.heap.size + 1 + 1) 59 #[.int .i64 0, .int .i64 0, .int .i64 0, .bool false, .int .i64 0, .slice none 0 0, .slice none 0 0] ∧ SnO w' w2.heap.size A' c' bs B' d' lost C' k' acked ∧ Below w.heap.size w w' ∧ w2.heap.size ≤ w'.heap.size) ⟨hS8, HZ8.out, HF8.out, HO8.out, HB8.out, hz8⟩ ?_
        clear hS8 HZ8 HF8 HO8 HB8 hz8
        rintro w7 ⟨hS7, hZ7, hF7, hO7, hb7, hz7⟩
        have HZ7 := Lib.hid hZ7
        have HF7 := Lib.hid hF7
        have HO7 := Lib.hid hO7
        have HB7 := Lib.hid hb7
        clear hZ7 hF7 hO7 hb7
        go_cut [13] (fun s13 wx => s13 = .bool F ∧ Below w7.heap.size w7 wx)
        case first =>
          -- [[first4
          have FS := hS7.facts8
          have hF := HF.out
          have hca := HV.out.ok.cases
          have HCA := Lib.hid hca
          clear HF HG hca
          unfold pcFin at hF
          rcases HCA.out with ⟨rfl, rfl⟩ | ⟨rfl, h2, rfl, rfl⟩ | ⟨rfl, h2, rfl, rfl⟩
          · cases fin with
            | false =>
              simp at hF
              subst hF
              clear HCA
              go_wp2_with fail
              all_goals first
                | (exfalso; rename_i hx hy; simp at hx; done)
                | (go_meet; exact ⟨rfl, Below.refl _ _⟩)
            | true =>
              by_cases hn : (hi : Int) = (n : Int)
              · have hn2 : hi = n := by omega
                rw [decide_eq_true hn] at hF
                simp at hF
                subst hF
                clear HCA
                have HN := Lib.hid hn2
                clear hn hn2
                obtain ⟨tt, htt⟩ : ∃ tt, ((hi : Int) == (n : Int)) = tt := ⟨_, rfl⟩
                have e1 : tt = true := by rw [← htt, HN.out]; simp
                go_wp2_with fail
                all_goals first
                  | (exfalso; rename_i hx hy; simp at hx; done)
                  | (go_meet; exact ⟨by first | rfl | (simp [HN.out]; done), Below.refl _ _⟩)
              · rw [decide_eq_false hn] at hF
                simp at hF
                subst hF
                clear HCA
                have HN := Lib.hid hn
                go_wp2_with fail
                all_goals first
                  | (exfalso; rename_i hx hy; simp at hx; done)
                  | (go_meet; exact ⟨by first | rfl | (simp; omega), Below.refl _ _⟩)
          all_goals
            simp at hF
            subst hF
            clear HCA
            have H2 := Lib.hid h2
            clear h2
            go_wp2_with fail
            all_goals first
              | (exfalso; rename_i hx hy; simp at hx; done)
              | (go_meet; exact ⟨rfl, Below.refl _ _⟩)
          -- ]]first4
        case rest =>
          obtain ⟨rfl, hbx⟩ := hcut
          have hS8 := hS7.carry hbx
          have HZ8 := Lib.hid (HZ7.out.carry hbx)
          have HF8 := Lib.hid (HF7.out.carry hbx)
          have HO8 := Lib.hid (HO7.out.carry hbx)
          have HB8 := Lib.hid (HB7.out.trans (hbx.mono HB7.out.size))
          have hz8 : w2.heap.size ≤ wc.heap.size := Nat.le_trans hz7 hbx.size
          clear hS7 HZ7 HF7 HO7 HB7 hbx hz7
          have hcap : n ≤ c' ∧ c' ≤ 9223372036854775807 := by have h := HO8.out.a.cap; rw [HV.out.hn] at h; exact h
          obtain ⟨X, hX⟩ : ∃ X, max nx (hi : Int) = X := ⟨_, rfl⟩
          have hX2 : (if nx < (hi : Int) then (hi : Int) else nx) = X := by rw [← hX]; split <;> omega
          obtain ⟨EF, hEF⟩ : ∃ EF, (ended || F) = EF := ⟨_, rfl⟩
          have HX := Lib.hid hX
          have HEF := Lib.hid hEF
          clear hEF
          by_cases hl : lo < hi
          · skip
            -- [[cutway
            have g1 : decide ((hi : Int) ≤ (lo : Int)) = false := decide_eq_false (by omega)
            have g2 : decide (hi ≤ lo) = false := decide_eq_false (by omega)
            have g3 : decide ((lo : Int) < (hi : Int)) = true := decide_eq_true (by omega)
            have g4 : decide (lo < hi) = true := decide_eq_true hl
            have g5 : IntKind.i64.wrap ((hi : Int) - 1) = (hi : Int) - 1 := IntWalk.i64_in _ (by omega)
            obtain rfl : got = true := by have h := HG.out; rw [g3] at h; simpa using h.symm
            have cO := HO8.out.l.cap
            rw [HV.out.hm] at cO
            have hfew := HV.out.ok.few
            rw [HV.out.hm] at hfew
            have EL : Hid (pcLost lost lo hi = cutR lost ((lo : Int), (hi : Int) - 1)) := if_pos (by omega)
            obtain ⟨m2, hm2⟩ : ∃ m2, (cutR lost ((lo : Int), (hi : Int) - 1)).length = m2 := ⟨_, rfl⟩
            have HM2 : Hid ((pcLost lost lo hi).length = m2) := Lib.hid (by rw [EL.out]; exact hm2)
            have HM2_ := Lib.hid hm2
            clear hm2
            have FS := hS8.facts8
            go_wp2_with fail
            refine (rCut_own B' m d' lost HV.out.hm HV.out.ok.hl cO.1 cO.2 (by omega) (lo : Int) ((hi : Int) - 1) (by omega) (by omega) (by omega) _ m2 rfl HM2_.out _ HO8.out.l.rd).mono ?_
            rintro e6 w9 ⟨B2, d2, rfl, _, _, hB2, hb9⟩
            have hS9 := hS8.carry hb9
            have hZ9 := HZ8.out.carry hb9
            have hF9 := HF8.out.carry hb9
            have hO9 := HO8.out.carry hb9
            have hbw9 := HB8.out.trans (hb9.mono HB8.out.size)
            have hz9 := hb9.size
            clear FS hS8 HZ8 HF8 HO8 HB8 hb9
            have FS := hS9.facts8
            have hO10 : SnO w9 w2.heap.size A' c' bs B2 d2 (pcLost lost lo hi) C' k' acked := ⟨hO9.a, by rw [EL.out]; exact hB2.mono hz8, hO9.k⟩
            go_upto_region 16 with (fail)
            refine wp_world (fun w' => Blk w' w.heap.size 50 #[.slice A' n c', .bool fin, .int .i64 nx, .int .i64 mx, .slice B2 m2 d2, .slice C' k k', .bool ended, .bool over] ∧ Blk w' (w.heap.size + 1) 50 #[.slice none 0 0, .bool false, .int .i64 0, .int .i64 0, .slice none 0 0, .slice none 0 0, .bool false, .bool false] ∧ Blk w' (w.heap.size + 1 + 1) 59 #[.int .i64 0, .int .i64 0, .int .i64 0, .bool false, .int .i64 0, .slice none 0 0, .slice none 0 0] ∧ SnO w' w2.heap.size A' c' bs B2 d2 (pcLost lost lo hi) C' k' acked ∧ Below w.heap.size w w' ∧ w2.heap.size ≤ w'.heap.size) ⟨(hS9.set_ 4 _).as (by rfl), by (apply Blk.as; (case h => (repeat (first | with_reducible exact hZ9 | with_reducible apply Blk.drew | with_reducible apply Blk.set4 | with_reducible apply Blk.set_ | (with_reducible apply Blk.far4 (hne := ?side); case side => (first | omega | (simp; omega) | (simp; done))) | (with_reducible apply Blk.far (hp := ?side); case side => (first | omega | (simp; omega) | (simp; done))) | with_reducible apply Blk.alloc))); (case e => (first | with_reducible rfl | (simp; done) | rfl))), by (apply Blk.as; (case h => (repeat (first | with_reducible exact hF9 | with_reducible apply Blk.drew | with_reducible apply Blk.set4 | with_reducible apply Blk.set_ | (with_reducible apply Blk.far4 (hne := ?side); case side => (first | omega | (simp; omega) | (simp; done))) | (with_reducible apply Blk.far (hp := ?side); case side => (first | omega | (simp; omega) | (simp; done))) | with_reducible apply Blk.alloc))); (case e => (first | with_reducible rfl | (simp; done) | rfl))), hO10.set (by show w.heap.size < w2.heap.size; omega) _, by (repeat (first | with_reducible exact hbw9 | with_reducible refine Below.drew ?_ | (with_reducible refine Below.set4 ?_ ?side _ _ _ _; case side => (first | omega | (simp; omega) | (simp; done))) | (with_reducible refine Below.setCell ?_ ?side _; case side => (first | omega | (simp; omega) | (simp; done))) | (with_reducible refine Below.alloc ?_ ?side _; case side => (first | omega | (simp; omega) | (simp; done))))), by simp; omega⟩ ?_
            clear FS hS9 hZ9 hF9 hO9 hbw9 hB2 hO10
            rintro w8 ⟨hS8, hZ8, hF8, hO8, hb8, hz8⟩
            have hq0 : w.heap.size ≤ w8.heap.size := by omega
            have hq1 : w.heap.size + 1 < w8.heap.size := by omega
            have hq2 : w.heap.size + 1 + 1 < w8.heap.size := by omega
            have FS := hS8.facts8
            have HZ8 := Lib.hid hZ8
            have HF8 := Lib.hid hF8
            have HO8 := Lib.hid hO8
            have HB8 := Lib.hid hb8
            clear hZ8 hF8 hO8 hb8
            have u0 : (0 : Int) ≤ (lo : Int) := by omega
            have u1 : (lo : Int) ≤ (hi : Int) := by omega
            have u2 : (hi : Int) ≤ (c' : Int) := by omega
            have u3 : (0 : Int) ≤ (hi : Int) := by omega
            obtain ⟨D, hD0⟩ : ∃ D : Option Addr, Option.map (fun x : Addr => x.add lo) A' = D := ⟨_, rfl⟩
            have hcl : ¬ c' = lo := by omega
            obtain ⟨q, hq⟩ : ∃ q, hi - lo = q := ⟨_, rfl⟩
            have HQ := Lib.hid hq
            have HDL : Hid (((bs.drop lo).take q).length = q) := by show _ = _; rw [List.length_take, List.length_drop, HV.out.hn]; omega
            have HDR : ∀ W, RdB W A' bs → RdB W D ((bs.drop lo).take q) := fun W hA => by
              have h := (RdB.cut (k := lo) (cap := c') hA (by rw [HV.out.hn]; omega) (by rw [HV.out.hn]; omega)).front (k := q) (by rw [List.length_drop, HV.out.hn]; omega)
              rw [if_neg hcl] at h; rw [← hD0]; exact h
            have HDR := Lib.hid HDR
            clear hcl
            go_upto_region 17 with (at_builtin; go_loud ((refine wpList_appL u8c 1 u8c_one _ rfl (.tmp 120) (.tmp 125) _ rfl w8.heap.size 5 _ 1 Try.underlying48 u8InfoS rfl (by decide) (by decide) _ 0 _ [] rfl rfl (OwnX.madeH u8c 1 _ _ _ (Nat.le_refl _) (by first | rfl | (simp; done))) D q _ ((bs.drop lo).take q) rfl HDL.out (RdX.alloc (HDR.out _ HO8.out.a.rd.b).x _) ((bs.drop lo).take q) rfl q (by omega) (by omega) (by simp) ?_); intro D7 cd w9 hO9 hc9 hm9 hb9 hgr9 hat9; have HO9 := Lib.hid hO9; have hb89 : Below w8.heap.size w8 w9 := ((Below.refl _ _).alloc (Nat.le_refl _) _).trans hb9; clear hO9 hb9 hgr9 hat9))
            refine wp_world (fun w' => Blk w' w.heap.size 50 #[.slice A' n c', .bool fin, .int .i64 nx, .int .i64 mx, .slice B2 m2 d2, .slice C' k k', .bool ended, .bool over] ∧ Blk w' (w.heap.size + 1) 50 #[.slice none 0 0, .bool false, .int .i64 0, .int .i64 0, .slice none 0 0, .slice none 0 0, .bool false, .bool false] ∧ Blk w' (w.heap.size + 1 + 1) 59 #[.int .i64 0, .int .i64 0, .int .i64 0, .bool false, .int .i64 0, .slice none 0 0, .slice none 0 0] ∧ Blk w' w9.heap.size 59 #[.int .i64 8, .int .i64 0, .int .i64 (lo : Int), .bool F, .int .i64 0, .slice none 0 0, .slice D7 q cd] ∧ SnO w' w2.heap.size A' c' bs B2 d2 (pcLost lost lo hi) C' k' acked ∧ OwnX u8c 1 w' w8.heap.size 5 D7 cd ((bs.drop lo).take q) ∧ Below w.heap.size w w') ⟨(hS8.carry hb89).alloc _, (HZ8.out.carry hb89).alloc _, (HF8.out.carry hb89).alloc _, Blk.new _ _ _, (HO8.out.carry hb89).alloc _, HO9.out.alloc _, (HB8.out.trans (hb89.mono HB8.out.size)).alloc (HB8.out.trans (hb89.mono HB8.out.size)).size _⟩ ?_
            have hz89 := hb89.size
            clear FS hS8 HZ8 HF8 HO8 HB8 HO9 hb89
            generalize w9.heap.size = gf at *
            rintro w10 ⟨hS10, hZ10, hF10, hG10, hO10, hD10, hb10⟩
            have FS := hS10.facts8
            have HG10 := Lib.hid hG10
            have HZ10 := Lib.hid hZ10
            have HF10 := Lib.hid hF10
            have HO10 := Lib.hid hO10
            have HD10 := Lib.hid hD10
            have HB10 := Lib.hid hb10
            clear hZ10 hF10 hO10 hD10 hb10 hG10
            go_upto_region 18 with (fail)
            have hS11 : Blk (w10.setCell ⟨w.heap.size, 2, none⟩ (.int .i64 X)) w.heap.size 50 #[.slice A' n c', .bool fin, .int .i64 X, .int .i64 mx, .slice B2 m2 d2, .slice C' k k', .bool ended, .bool over] := (hS10.set_ 2 _).as (by rfl)
            have hZ11 := (HZ10.out.far (p := ⟨w.heap.size, 2, none⟩) (by show w.heap.size + 1 ≠ w.heap.size; omega) (.int .i64 X))
            have hF11 := (HF10.out.far (p := ⟨w.heap.size, 2, none⟩) (by show w.heap.size + 1 + 1 ≠ w.heap.size; omega) (.int .i64 X))
            have hG11 := (HG10.out.far (p := ⟨w.heap.size, 2, none⟩) (by show gf ≠ w.heap.size; omega) (.int .i64 X))
            have hO11 := HO10.out.set (p := ⟨w.heap.size, 2, none⟩) (by show w.heap.size < w2.heap.size; omega) (.int .i64 X)
            have hD11 := HD10.out.set_below (p := ⟨w.heap.size, 2, none⟩) (by show w.heap.size < w8.heap.size; omega) (.int .i64 X)
            have hB11 := HB10.out.setCell (p := ⟨w.heap.size, 2, none⟩) (by show w.heap.size ≤ w.heap.size; omega) (.int .i64 X)
            refine wp_world (fun w' => Blk w' w.heap.size 50 #[.slice A' n c', .bool fin, .int .i64 X, .int .i64 mx, .slice B2 m2 d2, .slice C' k k', .bool ended, .bool over] ∧ Blk w' (w.heap.size + 1) 50 #[.slice none 0 0, .bool false, .int .i64 0, .int .i64 0, .slice none 0 0, .slice none 0 0, .bool false, .bool false] ∧ Blk w' (w.heap.size + 1 + 1) 59 #[.int .i64 0, .int .i64 0, .int .i64 0, .bool false, .int .i64 0, .slice none 0 0, .slice none 0 0] ∧ Blk w' gf 59 #[.int .i64 8, .int .i64 0, .int .i64 (lo : Int), .bool F, .int .i64 0, .slice none 0 0, .slice D7 q cd] ∧ SnO w' w2.heap.size A' c' bs B2 d2 (pcLost lost lo hi) C' k' acked ∧ OwnX u8c 1 w' w8.heap.size 5 D7 cd ((bs.drop lo).take q) ∧ Below w.heap.size w w') ⟨hS11, hZ11, hF11, hG11, hO11, hD11, hB11⟩ ?_
            clear FS hS10 HZ10 HF10 HG10 HO10 HD10 HB10 hS11 hZ11 hF11 hG11 hO11 hD11 hB11
            rintro w12 ⟨hS12, hZ12, hF12, hG12, hO12, hD12, hb12⟩
            go_cut [] (fun wx => Blk wx w.heap.size 50 #[.slice A' n c', .bool fin, .int .i64 X, .int .i64 mx, .slice B2 m2 d2, .slice C' k k', .bool EF, .bool over] ∧ Blk wx (w.heap.size + 1) 50 #[.slice none 0 0, .bool false, .int .i64 0, .int .i64 0, .slice none 0 0, .slice none 0 0, .bool false, .bool false] ∧ Blk wx (w.heap.size + 1 + 1) 59 #[.int .i64 0, .int .i64 0, .int .i64 0, .bool false, .int .i64 0, .slice none 0 0, .slice none 0 0] ∧ Blk wx gf 59 #[.int .i64 8, .int .i64 0, .int .i64 (lo : Int), .bool F, .int .i64 0, .slice none 0 0, .slice D7 q cd] ∧ SnO wx w2.heap.size A' c' bs B2 d2 (pcLost lost lo hi) C' k' acked ∧ OwnX u8c 1 wx w8.heap.size 5 D7 cd ((bs.drop lo).take q) ∧ Below w.heap.size w wx)
            case first =>
              have FS := hS12.facts8
              have hEF_ := HEF.out
              clear HEF HF HG
              cases ended
              all_goals
                cases F
                all_goals
                  simp at hEF_
                  subst hEF_
                  go_wp2_with fail
                  all_goals first
                    | (exfalso; rename_i hx hy; simp at hx; done)
                    | (go_meet; exact ⟨(hS12.set_ 6 _).as (by rfl), hZ12.far (by show w.heap.size + 1 ≠ w.heap.size; omega) _, hF12.far (by show w.heap.size + 1 + 1 ≠ w.heap.size; omega) _, hG12.far (by show gf ≠ w.heap.size; omega) _, hO12.set (by show w.heap.size < w2.heap.size; omega) _, hD12.set_below (by show w.heap.size < w8.heap.size; omega) _, hb12.setCell (by show w.heap.size ≤ w.heap.size; omega) _⟩)
            case rest =>
              clear hS12 hZ12 hF12 hG12 hO12 hD12 hb12
              obtain ⟨hS13, hZ13, hF13, hG13, hO13, hD13, hb13⟩ := hcut
              have FS := hS13.facts8
              have FZ := hZ13.facts8
              have FF := hF13.facts7
              have FG := hG13.facts7
              have HO13 := Lib.hid hO13
              have HD13 := Lib.hid hD13
              have HB13 := Lib.hid hb13
              clear hO13 hD13 hb13
              go_upto_region 19 with (fail)
              have HN1 : (¬ gf = w.heap.size + 1 ∧ ¬ w.heap.size + 1 = gf) ∧ (¬ gf = w.heap.size + 1 + 1 ∧ ¬ w.heap.size + 1 + 1 = gf) ∧ (¬ w.heap.size = w.heap.size + 1 + 1 ∧ ¬ w.heap.size + 1 + 1 = w.heap.size) := by refine ⟨⟨?_, ?_⟩, ⟨?_, ?_⟩, ?_, ?_⟩ <;> omega
              go_region
              all_goals
                go_wp2_with fail
                refine bodyPost_ret (v := .tuple #[.agg #[.slice A' n c', .bool fin, .int .i64 X, .int .i64 mx, .slice B2 m2 d2, .slice C' k k', .bool EF, .bool over], .agg #[.int .i64 8, .int .i64 0, .int .i64 (lo : Int), .bool F, .int .i64 0, .slice none 0 0, .slice D7 q cd], .bool true, .int .i64 0]) ?_ rfl ⟨A', c', B2, m2, d2, C', k', D7, q, cd, ?_, ?_, HQ.out.symm, hc9, hm9, ?_⟩
                · simp [results, Try.results18, go_sem, FZ, FF] <;> rfl
                · rw [HX.out, HEF.out]; rfl
                · refine SpKeep.and2 (SnO.keep (b := w2.heap.size) ?_ (by omega) HV.out.hn HM2.out HV.out.hk HOK.out) ?_
                  · have hO := HO13.out
                    (repeat (first | with_reducible exact hO | with_reducible apply SnO.drew | ((with_reducible refine SnO.set ?_ ?side _); case side => (first | omega | (dsimp only; omega)))))
                  · rw [HQ.out]
                    clear HN1
                    refine OwnS.keepB (c := cd) (b := w8.heap.size) ?_ hq0
                    have hD := OwnS.mk HD13.out
                    (repeat (first | with_reducible exact hD | ((with_reducible refine OwnS.set ?_ ?side _); case side => (with_reducible first | exact hq2 | exact hq1)) | with_reducible apply OwnS.drew))
                · have h := HB13.out
                  (repeat (first | with_reducible exact h | with_reducible refine Below.drew ?_ | (with_reducible refine Below.set4 ?_ ?side _ _ _ _; case side => (first | omega | (simp; omega) | (simp; done))) | (with_reducible refine Below.setCell ?_ ?side _; case side => (first | omega | (simp; omega) | (simp; done))) | (with_reducible refine Below.alloc ?_ ?side _; case side => (first | omega | (simp; omega) | (simp; done)))))
            -- ]]cutway
          · obtain rfl : hi = lo := by omega
            have EL : Hid (pcLost lost hi hi = lost) := if_neg (by omega)
            have HM2 : Hid ((pcLost lost hi hi).length = m) := Lib.hid (by rw [EL.out]; exact HV.out.hm)
            have hnx : nx = hi := by rcases P4.out with h | h <;> omega
            have HO8 : Hid (SnO wc w2.heap.size A' c' bs B' d' (pcLost lost hi hi) C' k' acked) := Lib.hid (by rw [EL.out]; exact HO8.out)
            cases F with
            | true =>
              -- [[endway
              obtain rfl : got = true := by have h := HG.out; simpa using h.symm
              have FS := hS8.facts8
              clear hnx
              go_upto_region 16 with (fail)
              refine wp_world (fun w' => Blk w' w.heap.size 50 #[.slice A' n c', .bool fin, .int .i64 nx, .int .i64 mx, .slice B' m d', .slice C' k k', .bool ended, .bool over] ∧ Blk w' (w.heap.size + 1) 50 #[.slice none 0 0, .bool false, .int .i64 0, .int .i64 0, .slice none 0 0, .slice none 0 0, .bool false, .bool false] ∧ Blk w' (w.heap.size + 1 + 1) 59 #[.int .i64 0, .int .i64 0, .int .i64 0, .bool false, .int .i64 0, .slice none 0 0, .slice none 0 0] ∧ SnO w' w2.heap.size A' c' bs B' d' (pcLost lost hi hi) C' k' acked ∧ Below w.heap.size w w' ∧ w2.heap.size ≤ w'.heap.size) ⟨hS8, HZ8.out, HF8.out, HO8.out, HB8.out, hz8⟩ ?_
              clear FS hS8 HZ8 HF8 HO8 HB8 hz8
              rintro w8 ⟨hS8, hZ8, hF8, hO8, hb8, hz8⟩
              have hq0 : w.heap.size ≤ w8.heap.size := by omega
              have hq1 : w.heap.size + 1 < w8.heap.size := by omega
              have hq2 : w.heap.size + 1 + 1 < w8.heap.size := by omega
              have FS := hS8.facts8
              have HZ8 := Lib.hid hZ8
              have HF8 := Lib.hid hF8
              have HO8 := Lib.hid hO8
              have HB8 := Lib.hid hb8
              clear hZ8 hF8 hO8 hb8
              have u0 : (0 : Int) ≤ (hi : Int) := by omega
              have u1 : (hi : Int) ≤ (hi : Int) := by omega
              have u2 : (hi : Int) ≤ (c' : Int) := by omega
              have u3 : (0 : Int) ≤ (hi : Int) := by omega
              obtain ⟨D, hD0⟩ : ∃ D : Option Addr, (if c' = hi then A' else Option.map (fun x : Addr => x.add hi) A') = D := ⟨_, rfl⟩
              obtain ⟨q, hq⟩ : ∃ q, hi - hi = q := ⟨_, rfl⟩
              have HQ := Lib.hid hq
              have HDL : Hid (((bs.drop hi).take q).length = q) := by show _ = _; rw [List.length_take, List.length_drop, HV.out.hn]; omega
              have HDR : ∀ W, RdB W A' bs → RdB W D ((bs.drop hi).take q) := fun W hA => by
                have h := (RdB.cut (k := hi) (cap := c') hA (by rw [HV.out.hn]; omega) (by rw [HV.out.hn]; omega)).front (k := q) (by rw [List.length_drop, HV.out.hn]; omega)
                rw [← hD0]; exact h
              have HDR := Lib.hid HDR
              go_upto_region 17 with (at_builtin; go_loud ((refine wpList_appL u8c 1 u8c_one _ rfl (.tmp 120) (.tmp 125) _ rfl w8.heap.size 5 _ 1 Try.underlying48 u8InfoS rfl (by decide) (by decide) _ 0 _ [] rfl rfl (OwnX.madeH u8c 1 _ _ _ (Nat.le_refl _) (by first | rfl | (simp; done))) D q _ ((bs.drop hi).take q) rfl HDL.out (RdX.alloc (HDR.out _ HO8.out.a.rd.b).x _) ((bs.drop hi).take q) rfl q (by omega) (by omega) (by simp) ?_); intro D7 cd w9 hO9 hc9 hm9 hb9 hgr9 hat9; have HO9 := Lib.hid hO9; have hb89 : Below w8.heap.size w8 w9 := ((Below.refl _ _).alloc (Nat.le_refl _) _).trans hb9; clear hO9 hb9 hgr9 hat9))
              refine wp_world (fun w' => Blk w' w.heap.size 50 #[.slice A' n c', .bool fin, .int .i64 nx, .int .i64 mx, .slice B' m d', .slice C' k k', .bool ended, .bool over] ∧ Blk w' (w.heap.size + 1) 50 #[.slice none 0 0, .bool false, .int .i64 0, .int .i64 0, .slice none 0 0, .slice none 0 0, .bool false, .bool false] ∧ Blk w' (w.heap.size + 1 + 1) 59 #[.int .i64 0, .int .i64 0, .int .i64 0, .bool false, .int .i64 0, .slice none 0 0, .slice none 0 0] ∧ Blk w' w9.heap.size 59 #[.int .i64 8, .int .i64 0, .int .i64 (hi : Int), .bool true, .int .i64 0, .slice none 0 0, .slice D7 q cd] ∧ SnO w' w2.heap.size A' c' bs B' d' (pcLost lost hi hi) C' k' acked ∧ OwnX u8c 1 w' w8.heap.size 5 D7 cd ((bs.drop hi).take q) ∧ Below w.heap.size w w') ⟨(hS8.carry hb89).alloc _, (HZ8.out.carry hb89).alloc _, (HF8.out.carry hb89).alloc _, Blk.new _ _ _, (HO8.out.carry hb89).alloc _, HO9.out.alloc _, (HB8.out.trans (hb89.mono HB8.out.size)).alloc (HB8.out.trans (hb89.mono HB8.out.size)).size _⟩ ?_
              have hz89 := hb89.size
              clear FS hS8 HZ8 HF8 HO8 HB8 HO9 hb89
              generalize w9.heap.size = gf at *
              rintro w10 ⟨hS10, hZ10, hF10, hG10, hO10, hD10, hb10⟩
              have FS := hS10.facts8
              have HG10 := Lib.hid hG10
              have HZ10 := Lib.hid hZ10
              have HF10 := Lib.hid hF10
              have HO10 := Lib.hid hO10
              have HD10 := Lib.hid hD10
              have HB10 := Lib.hid hb10
              clear hZ10 hF10 hO10 hD10 hb10 hG10
              go_upto_region 18 with (fail)
              have hS11 : Blk (w10.setCell ⟨w.heap.size, 2, none⟩ (.int .i64 X)) w.heap.size 50 #[.slice A' n c', .bool fin, .int .i64 X, .int .i64 mx, .slice B' m d', .slice C' k k', .bool ended, .bool over] := (hS10.set_ 2 _).as (by rfl)
              have hZ11 := (HZ10.out.far (p := ⟨w.heap.size, 2, none⟩) (by show w.heap.size + 1 ≠ w.heap.size; omega) (.int .i64 X))
              have hF11 := (HF10.out.far (p := ⟨w.heap.size, 2, none⟩) (by show w.heap.size + 1 + 1 ≠ w.heap.size; omega) (.int .i64 X))
              have hG11 := (HG10.out.far (p := ⟨w.heap.size, 2, none⟩) (by show gf ≠ w.heap.size; omega) (.int .i64 X))
              have hO11 := HO10.out.set (p := ⟨w.heap.size, 2, none⟩) (by show w.heap.size < w2.heap.size; omega) (.int .i64 X)
              have hD11 := HD10.out.set_below (p := ⟨w.heap.size, 2, none⟩) (by show w.heap.size < w8.heap.size; omega) (.int .i64 X)
              have hB11 := HB10.out.setCell (p := ⟨w.heap.size, 2, none⟩) (by show w.heap.size ≤ w.heap.size; omega) (.int .i64 X)
              refine wp_world (fun w' => Blk w' w.heap.size 50 #[.slice A' n c', .bool fin, .int .i64 X, .int .i64 mx, .slice B' m d', .slice C' k k', .bool ended, .bool over] ∧ Blk w' (w.heap.size + 1) 50 #[.slice none 0 0, .bool false, .int .i64 0, .int .i64 0, .slice none 0 0, .slice none 0 0, .bool false, .bool false] ∧ Blk w' (w.heap.size + 1 + 1) 59 #[.int .i64 0, .int .i64 0, .int .i64 0, .bool false, .int .i64 0, .slice none 0 0, .slice none 0 0] ∧ Blk w' gf 59 #[.int .i64 8, .int .i64 0, .int .i64 (hi : Int), .bool true, .int .i64 0, .slice none 0 0, .slice D7 q cd] ∧ SnO w' w2.heap.size A' c' bs B' d' (pcLost lost hi hi) C' k' acked ∧ OwnX u8c 1 w' w8.heap.size 5 D7 cd ((bs.drop hi).take q) ∧ Below w.heap.size w w') ⟨hS11, hZ11, hF11, hG11, hO11, hD11, hB11⟩ ?_
              clear FS hS10 HZ10 HF10 HG10 HO10 HD10 HB10 hS11 hZ11 hF11 hG11 hO11 hD11 hB11
              rintro w12 ⟨hS12, hZ12, hF12, hG12, hO12, hD12, hb12⟩
              go_cut [] (fun wx => Blk wx w.heap.size 50 #[.slice A' n c', .bool fin, .int .i64 X, .int .i64 mx, .slice B' m d', .slice C' k k', .bool EF, .bool over] ∧ Blk wx (w.heap.size + 1) 50 #[.slice none 0 0, .bool false, .int .i64 0, .int .i64 0, .slice none 0 0, .slice none 0 0, .bool false, .bool false] ∧ Blk wx (w.heap.size + 1 + 1) 59 #[.int .i64 0, .int .i64 0, .int .i64 0, .bool false, .int .i64 0, .slice none 0 0, .slice none 0 0] ∧ Blk wx gf 59 #[.int .i64 8, .int .i64 0, .int .i64 (hi : Int), .bool true, .int .i64 0, .slice none 0 0, .slice D7 q cd] ∧ SnO wx w2.heap.size A' c' bs B' d' (pcLost lost hi hi) C' k' acked ∧ OwnX u8c 1 wx w8.heap.size 5 D7 cd ((bs.drop hi).take q) ∧ Below w.heap.size w wx)
              case first =>
                have FS := hS12.facts8
                have hEF_ := HEF.out
                clear HEF HF HG
                cases ended
                all_goals
                    simp at hEF_
                    subst hEF_
                    go_wp2_with fail
                    all_goals first
                      | (exfalso; rename_i hx hy; simp at hx; done)
                      | (go_meet; exact ⟨(hS12.set_ 6 _).as (by rfl), hZ12.far (by show w.heap.size + 1 ≠ w.heap.size; omega) _, hF12.far (by show w.heap.size + 1 + 1 ≠ w.heap.size; omega) _, hG12.far (by show gf ≠ w.heap.size; omega) _, hO12.set (by show w.heap.size < w2.heap.size; omega) _, hD12.set_below (by show w.heap.size < w8.heap.size; omega) _, hb12.setCell (by show w.heap.size ≤ w.heap.size; omega) _⟩)
              case rest =>
                clear hS12 hZ12 hF12 hG12 hO12 hD12 hb12
                obtain ⟨hS13, hZ13, hF13, hG13, hO13, hD13, hb13⟩ := hcut
                have FS := hS13.facts8
                have FZ := hZ13.facts8
                have FF := hF13.facts7
                have FG := hG13.facts7
                have HO13 := Lib.hid hO13
                have HD13 := Lib.hid hD13
                have HB13 := Lib.hid hb13
                clear hO13 hD13 hb13
                go_upto_region 19 with (fail)
                have HN1 : (¬ gf = w.heap.size + 1 ∧ ¬ w.heap.size + 1 = gf) ∧ (¬ gf = w.heap.size + 1 + 1 ∧ ¬ w.heap.size + 1 + 1 = gf) ∧ (¬ w.heap.size = w.heap.size + 1 + 1 ∧ ¬ w.heap.size + 1 + 1 = w.heap.size) := by refine ⟨⟨?_, ?_⟩, ⟨?_, ?_⟩, ?_, ?_⟩ <;> omega
                go_region
                all_goals
                  go_wp2_with fail
                  refine bodyPost_ret (v := .tuple #[.agg #[.slice A' n c', .bool fin, .int .i64 X, .int .i64 mx, .slice B' m d', .slice C' k k', .bool EF, .bool over], .agg #[.int .i64 8, .int .i64 0, .int .i64 (hi : Int), .bool true, .int .i64 0, .slice none 0 0, .slice D7 q cd], .bool true, .int .i64 0]) ?_ rfl ⟨A', c', B', m, d', C', k', D7, q, cd, ?_, ?_, HQ.out.symm, hc9, hm9, ?_⟩
                  · simp [results, Try.results18, go_sem, FZ, FF] <;> rfl
                  · rw [HX.out, HEF.out]; rfl
                  · refine SpKeep.and2 (SnO.keep (b := w2.heap.size) ?_ (by omega) HV.out.hn HM2.out HV.out.hk HOK.out) ?_
                    · have hO := HO13.out
                      (repeat (first | with_reducible exact hO | with_reducible apply SnO.drew | ((with_reducible refine SnO.set ?_ ?side _); case side => (first | omega | (dsimp only; omega)))))
                    · rw [HQ.out]
                      clear HN1
                      refine OwnS.keepB (c := cd) (b := w8.heap.size) ?_ hq0
                      have hD := OwnS.mk HD13.out
                      (repeat (first | with_reducible exact hD | ((with_reducible refine OwnS.set ?_ ?side _); case side => (with_reducible first | exact hq2 | exact hq1)) | with_reducible apply OwnS.drew))
                  · have h := HB13.out
                    (repeat (first | with_reducible exact h | with_reducible refine Below.drew ?_ | (with_reducible refine Below.set4 ?_ ?side _ _ _ _; case side => (first | omega | (simp; omega) | (simp; done))) | (with_reducible refine Below.setCell ?_ ?side _; case side => (first | omega | (simp; omega) | (simp; done))) | (with_reducible refine Below.alloc ?_ ?side _; case side => (first | omega | (simp; omega) | (simp; done)))))
              -- ]]endway
            | false =>
              -- [[noway
              obtain rfl : got = false := by have h := HG.out; simpa using h.symm
              obtain rfl : EF = ended := by have h := HEF.out; simpa using h.symm
              have hXn : X = nx := by have h := HX.out; omega
              clear hX hX2
              subst hXn
              have FS := hS8.facts8
              have FZ := HZ8.out.facts8
              have FF := HF8.out.facts7
              have HNX := Lib.hid hnx
              clear hnx
              go_wp2_with fail
              refine bodyPost_ret (v := .tuple #[.agg #[.slice A' n c', .bool fin, .int .i64 X, .int .i64 mx, .slice B' m d', .slice C' k k', .bool EF, .bool over], .agg #[.int .i64 0, .int .i64 0, .int .i64 0, .bool false, .int .i64 0, .slice none 0 0, .slice none 0 0], .bool false, .int .i64 0]) ?_ rfl ⟨A', c', B', m, d', C', k', none, 0, 0, ?_, ?_, by omega, by omega, by decide, ?_⟩
              · simp [results, Try.results18, go_sem, FZ, FF] <;> rfl
              · rw [HX.out, HEF.out]; rfl
              · intro W hW
                refine ⟨SnO.keep (b := w2.heap.size) ?_ (by omega) HV.out.hn HM2.out HV.out.hk HOK.out W hW, ?_⟩
                · have hO := HO8.out
                  (repeat (first | with_reducible exact hO | with_reducible apply SnO.drew | ((with_reducible refine SnO.set ?_ ?side _); case side => (first | (show w.heap.size + 1 < w2.heap.size; omega) | (show w.heap.size + 1 + 1 < w2.heap.size; omega)))))
                · rw [Nat.sub_self, List.take_zero]; exact RdB.nil
              · have h := HB8.out
                (repeat (first | with_reducible exact h | with_reducible refine Below.drew ?_ | (with_reducible refine Below.set4 ?_ ?side _ _ _ _; case side => (first | omega | (simp; omega) | (simp; done))) | (with_reducible refine Below.setCell ?_ ?side _; case side => (first | omega | (simp; omega) | (simp; done))) | (with_reducible refine Below.alloc ?_ ?side _; case side => (first | omega | (simp; omega) | (simp; done)))))
              -- ]]noway
end Go.Proofs.Ytpmgoediglmofaa
