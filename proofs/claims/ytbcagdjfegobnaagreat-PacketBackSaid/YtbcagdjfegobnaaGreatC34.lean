/- Texts of the proof, laid together: Gate5 OrderInv Flow1 Flow2 Flow3 Flow4 Flow5 Flow6 Flow7 Flow FlowK. -/
import Derived.Test.YtbcagdjfegobnaaGreatC28
import Derived.Test.YtbcagdjfegobnaaGreatC16
import Derived.Orders
import Derived.Test.YtbcagdjfegobnaaGreatC24
import Derived.StillTail
/- Gates: the desk at which mail is written; the contract of desk.send. -/
namespace Go.Proofs.YtbcagdjfegobnaaGreat
open Go.ChangeShapes Go.WideShapes Go.ChangeAt Go.RowKit
set_option linter.unusedVariables false

/-- Mail, as_v it lies in memory. -/
structure MlB where
  peer : Int
  D : Option Addr
  n : Nat
  c : Nat
  data : List UInt8
def mlc (m : MlB) : List Value := [.int .i64 m.peer, .slice m.D m.n m.c]
theorem mlc_len (m : MlB) : (mlc m).length = 2 := rfl
theorem mlc_one (ms : List MlB) : ∀ u ∈ ms.flatMap mlc, u.oneCell' = true := by
  intro u hu
  obtain ⟨x, _, hx⟩ := List.mem_flatMap.1 hu
  simp [mlc] at hx
  rcases hx with rfl | rfl <;> rfl
theorem mlInfo : (Tryz.prog.info? 75).map (fun i => (i.zero, i.size, i.bytes)) = some (some (.agg #[.int .i64 0, .slice none 0 0]), 2, 32) := by kernel_rfl
def upd (t : Nat → Tly) (p : Nat) (v : Tly) : Nat → Tly := fun i => if i = p then v else t i
def GtD.set (g : GtD) (p : Nat) (v : Tly) : GtD := { g with t := upd g.t p v }
/-- The cells of a desk. -/
def dkc (g : GtD) (A : Option Addr) (n c : Nat) (O : Option Addr) (m co : Nat) : Array Value :=
  #[.int .u64 g.secret, .int .i64 g.now, .int .i64 g.next, .slice A n c, .bool (g.t 0).1, .int .i64 (g.t 0).2.1, .int .i64 (g.t 0).2.2, .bool (g.t 1).1, .int .i64 (g.t 1).2.1, .int .i64 (g.t 1).2.2,
    .bool (g.t 2).1, .int .i64 (g.t 2).2.1, .int .i64 (g.t 2).2.2, .bool (g.t 3).1, .int .i64 (g.t 3).2.1, .int .i64 (g.t 3).2.2, .bool g.retry, .int .i64 g.shed, .slice O m co]
theorem dkc_one (g : GtD) (A : Option Addr) (n c : Nat) (O : Option Addr) (m co : Nat) : ∀ u ∈ (dkc g A n c O m co).toList, u.oneCell' = true := by
  intro u hu
  simp only [dkc, List.mem_cons, List.not_mem_nil, or_false] at hu
  rcases hu with rfl | rfl | rfl | rfl | rfl | rfl | rfl | rfl | rfl | rfl | rfl | rfl | rfl | rfl | rfl | rfl | rfl | rfl | rfl <;> rfl
theorem own_ne {α : Type} {f : α → List Value} {m base : Nat} {E t : TypeId} {w : World} {A : Option Addr} {c : Nat} {xs : List α} {g : Nat} {cs : Array Value} (h : OwnX f m w base E A c xs) (hg : Blk w g t cs) (hne : E ≠ t) : ∀ a, A = some a → a.block ≠ g := by
  intro a ha e
  subst ha
  rcases h.2 with ⟨h1, _⟩ | ⟨q, cap, cur, hv, _, hh, _⟩
  · cases h1
  · injection hv with h1
    injection h1 with h1
    subst h1
    subst e
    unfold Blk at hg
    rw [hh] at hg
    injection hg with h3
    injection h3 with _ h4
    exact hne h4
theorem own_apartE {α β : Type} {f : α → List Value} {f' : β → List Value} {m m' base base' : Nat} {E E' : TypeId} {w : World} {A A' : Option Addr} {c c' : Nat} {xs : List α} {ys : List β} (h : OwnX f m w base E A c xs) (h' : OwnX f' m' w base' E' A' c' ys) (hne : E ≠ E') : A.map (·.block) = none ∨ A.map (·.block) ≠ A'.map (·.block) := by
  cases A with
  | none => exact .inl rfl
  | some a =>
    right
    intro e
    cases A' with
    | none => cases e
    | some a' =>
      have e : a.block = a'.block := Option.some.inj e
      rcases h'.2 with ⟨h1, _⟩ | ⟨q, cap, cur, hv, _, hh, _⟩
      · cases h1
      · injection hv with h1
        injection h1 with h1
        subst h1
        exact own_ne h (g := q) (t := E') (cs := cur) hh hne a rfl e
/-- A desk in memory: its notes and its mail are the call's own. -/
structure DkV (w : World) (base gd : Nat) (g : GtD) (A : Option Addr) (n c : Nat) (xs : List NtB) (O : Option Addr) (m co : Nat) (ms : List MlB) : Prop where
  hn : xs.length = n
  hm : ms.length = m
  hg : base ≤ gd
  d : Blk w gd 133 (dkc g A n c O m co)
  nt : OwnX ntc 29 w base 53 A c xs
  ml : OwnX mlc 2 w base 75 O co ms
  dat : ∀ x ∈ ms, OwnX u8c 1 w 0 5 x.D x.c x.data ∧ x.data.length = x.n
section
variable {w w' : World} {base gd : Nat} {g : GtD} {A : Option Addr} {n c : Nat} {xs : List NtB} {O : Option Addr} {m co : Nat} {ms : List MlB}
theorem DkV.carry (h : DkV w base gd g A n c xs O m co ms) (hb : Below w.heap.size w w') : DkV w' base gd g A n c xs O m co ms :=
  ⟨h.hn, h.hm, h.hg, h.d.carry hb, h.nt.carry hb, h.ml.carry hb, fun x hx => ⟨(h.dat x hx).1.carry hb, (h.dat x hx).2⟩⟩
theorem DkV.wr (h : DkV w base gd g A n c xs O m co ms) {g' : GtD} (hB : Blk w' gd 133 (dkc g' A n c O m co)) (hw : Wr gd w w') : DkV w' base gd g' A n c xs O m co ms :=
  ⟨h.hn, h.hm, h.hg, hB, h.nt.wr hw (own_ne h.nt h.d (by decide)), h.ml.wr hw (own_ne h.ml h.d (by decide)), fun x hx => ⟨(h.dat x hx).1.wr hw (own_ne (h.dat x hx).1 h.d (by decide)), (h.dat x hx).2⟩⟩
/-- .. when one mail more is written. -/
theorem DkV.mail (h : DkV w base gd g A n c xs O m co ms) {O' : Option Addr} {co' : Nat} {x : MlB} (hO : OwnX mlc 2 w' base 75 O' co' (ms ++ [x])) (hg : w.grownBy w' (O.map (·.block))) (hx : OwnX u8c 1 w 0 5 x.D x.c x.data) (hxl : x.data.length = x.n)
    {w2 : World} (hB : Blk w2 gd 133 (dkc g A n c O' (m + 1) co')) (hw : Wr gd w' w2) : DkV w2 base gd g A n c xs O' (m + 1) co' (ms ++ [x]) := by
  have hgd : some gd ≠ O.map (·.block) := fun e => by
    cases hO' : O with
    | none => rw [hO'] at e; cases e
    | some a => rw [hO'] at e; exact own_ne h.ml h.d (by decide) a hO' (Option.some.inj e).symm
  have hd : Blk w' gd 133 (dkc g A n c O m co) := h.d.grown hg hgd
  have hn := h.nt.grown hg (own_apartE h.nt h.ml (by decide))
  refine ⟨h.hn, by rw [List.length_append, h.hm]; rfl, h.hg, hB, hn.wr hw (own_ne hn hd (by decide)), hO.wr hw (own_ne hO hd (by decide)), fun y hy => ?_⟩
  have h1 : OwnX u8c 1 w 0 5 y.D y.c y.data ∧ y.data.length = y.n := by
    rcases List.mem_append.1 hy with h1 | h1
    · exact h.dat y h1
    · rw [List.mem_singleton.1 h1]; exact ⟨hx, hxl⟩
  have h2 := h1.1.grown hg (own_apartE h1.1 h.ml (by decide))
  exact ⟨h2.wr hw (own_ne h2 hd (by decide)), h1.2⟩
end

theorem tallySend_yes (t : Tly) (ok : TlyOk t) (h1 : t.2.1 ≤ 1099511627376) (h3 : t.2.2 ≤ 1099511627376) (n : Int) (n0 : 0 ≤ n) (n1 : n ≤ 400) (h5 : t.1 = true ∨ t.2.2 + n ≤ 3 * t.2.1) (w : World) :
    Calls Tryz.prog 129 #[.agg #[.bool t.1, .int .i64 t.2.1, .int .i64 t.2.2], .int .i64 n] w fun e w' => e = .returned (.tuple #[.agg #[.bool t.1, .int .i64 t.2.1, .int .i64 (t.2.2 + n)], .int .i64 0]) ∧ Below w.heap.size w w' := by
  obtain ⟨k, g, s⟩ := t
  obtain ⟨⟨h0, _⟩, ⟨h2, _⟩, h4⟩ := ok
  cases k
  · exact tallySend_f g s n h0 h1 h2 h3 (h4 rfl) n0 n1 (h5.resolve_left (by simp)) w
  · exact tallySend_t g s n h0 h1 h2 h3 n0 n1 w
theorem tallySend_no (t : Tly) (ok : TlyOk t) (h1 : t.2.1 ≤ 1099511627376) (h3 : t.2.2 ≤ 1099511627376) (n : Int) (n0 : 0 ≤ n) (n1 : n ≤ 400) (h5 : t.1 = false ∧ 3 * t.2.1 < t.2.2 + n) (w : World) :
    Calls Tryz.prog 129 #[.agg #[.bool t.1, .int .i64 t.2.1, .int .i64 t.2.2], .int .i64 n] w fun e w' => e = .returned (.tuple #[.agg #[.bool false, .int .i64 0, .int .i64 0], .int .i64 15]) ∧ Below w.heap.size w w' := by
  obtain ⟨k, g, s⟩ := t
  obtain ⟨⟨h0, _⟩, ⟨h2, _⟩, h4⟩ := ok
  obtain ⟨rfl, h6⟩ := h5
  exact tallySend_amp g s n h0 h1 h2 h3 (h4 rfl) n0 n1 h6 w
theorem Blk.c19 {w : World} {g : Nat} {t : TypeId} {x0 x1 x2 x3 x4 x5 x6 x7 x8 x9 x10 x11 x12 x13 x14 x15 x16 x17 x18 : Value} (h : Blk w g t #[x0, x1, x2, x3, x4, x5, x6, x7, x8, x9, x10, x11, x12, x13, x14, x15, x16, x17, x18]) : g < w.heap.size ∧ w.cell? ⟨g, 0, none⟩ = some x0 ∧ w.cell? ⟨g, 1, none⟩ = some x1 ∧ w.cell? ⟨g, 2, none⟩ = some x2 ∧ w.cell? ⟨g, 3, none⟩ = some x3 ∧ w.cell? ⟨g, 4, none⟩ = some x4 ∧ w.cell? ⟨g, 5, none⟩ = some x5 ∧ w.cell? ⟨g, 6, none⟩ = some x6 ∧ w.cell? ⟨g, 7, none⟩ = some x7 ∧ w.cell? ⟨g, 8, none⟩ = some x8 ∧ w.cell? ⟨g, 9, none⟩ = some x9 ∧ w.cell? ⟨g, 10, none⟩ = some x10 ∧ w.cell? ⟨g, 11, none⟩ = some x11 ∧ w.cell? ⟨g, 12, none⟩ = some x12 ∧ w.cell? ⟨g, 13, none⟩ = some x13 ∧ w.cell? ⟨g, 14, none⟩ = some x14 ∧ w.cell? ⟨g, 15, none⟩ = some x15 ∧ w.cell? ⟨g, 16, none⟩ = some x16 ∧ w.cell? ⟨g, 17, none⟩ = some x17 ∧ w.cell? ⟨g, 18, none⟩ = some x18 :=
  ⟨h.lt, by rw [h.cell]; rfl, by rw [h.cell]; rfl, by rw [h.cell]; rfl, by rw [h.cell]; rfl, by rw [h.cell]; rfl, by rw [h.cell]; rfl, by rw [h.cell]; rfl, by rw [h.cell]; rfl, by rw [h.cell]; rfl, by rw [h.cell]; rfl, by rw [h.cell]; rfl, by rw [h.cell]; rfl, by rw [h.cell]; rfl, by rw [h.cell]; rfl, by rw [h.cell]; rfl, by rw [h.cell]; rfl, by rw [h.cell]; rfl, by rw [h.cell]; rfl, by rw [h.cell]; rfl⟩
theorem RdX.oneM (w : World) (E : TypeId) (x : MlB) : RdX mlc 2 (w.alloc (.cells #[.int .i64 x.peer, .slice x.D x.n x.c] E)) (some ⟨w.heap.size, 0, none⟩) [x] := by
  have hB := Blk.new w E #[.int .i64 x.peer, .slice x.D x.n x.c]
  refine ⟨by simp [mlc_len], fun _ => ⟨w.heap.size, 0, rfl, fun j u hu => ?_⟩⟩
  rw [hB.cell, Nat.zero_add]
  simpa [mlc] using hu

set_option maxRecDepth 100000 in
set_option maxHeartbeats 4000000 in
theorem send_yes (p : Nat) (hp : p < 4) (B : Option Addr) (bn bc : Nat) (bs : List UInt8) (hbn : bs.length = bn) (hb400 : bn ≤ 400) (base gd : Nat) (g : GtD) (A : Option Addr) (n c : Nat) (xs : List NtB) (O : Option Addr) (m co : Nat) (hm10 : m ≤ 100) (ms : List MlB)
    (ok : TlyOk (g.t p)) (h1 : (g.t p).2.1 ≤ 1099511627376) (h3 : (g.t p).2.2 ≤ 1099511627376) (h5 : (g.t p).1 = true ∨ (g.t p).2.2 + bn ≤ 3 * (g.t p).2.1) (w : World) (h : DkV w base gd g A n c xs O m co ms) (hB : OwnX u8c 1 w 0 5 B bc bs) (hbase : base ≤ w.heap.size) :
    Calls Tryz.prog 102 #[.pointer (some ⟨gd, 0, none⟩), .int .i64 p, .slice B bn bc] w fun e w' => e = .returned (.bool true) ∧
      (∃ O' co', DkV w' base gd (g.set p ((g.t p).1, (g.t p).2.1, (g.t p).2.2 + bn)) A n c xs O' (m + 1) co' (ms ++ [⟨p, B, bn, bc, bs⟩])) ∧ Below base w w' := by
  have HV := Lib.hid h
  have HB := Lib.hid hB
  have HBN := Lib.hid hbn
  have hgd := h.hg
  have HS := Lib.hid (fun W => tallySend_yes (g.t p) ok h1 h3 bn (by omega) (by omega) h5 W)
  have F : _ := Blk.c19 (by have := h.d; unfold dkc at this; exact this)
  clear h hB hbn ok h5
  rcases (show p = 0 ∨ p = 1 ∨ p = 2 ∨ p = 3 by omega) with rfl | rfl | rfl | rfl
  · -- [[p0
    go_enter Tryz.func102, Tryz.ntmps102
    go_wp2_with fail
    refine (HS.out _).mono ?_
    rintro e w1 ⟨rfl, hb1⟩
    have HV1 := Lib.hid (HV.out.carry hb1)
    have HB1 := Lib.hid (HB.out.carry hb1)
    have hb := hb1.mono hbase
    have hs1 := hb1.size
    clear F hb1
    go_upto_region 4 with (fail)
    obtain ⟨q, hq⟩ : ∃ q, w1.heap.size = q := ⟨_, rfl⟩
    refine wp_world (fun w' => Blk w' q 26 #[.bool (g.t 0).1, .int .i64 (g.t 0).2.1, .int .i64 ((g.t 0).2.2 + bn)] ∧ DkV w' base gd g A n c xs O m co ms ∧ OwnX u8c 1 w' 0 5 B bc bs ∧ Below base w w') ⟨Blk.newF hq, HV1.out.carry ((Below.refl _ _).alloc (Nat.le_refl _) _), HB1.out.alloc _, hb.alloc (by omega) _⟩ ?_
    try rw [hq]
    clear hq HV1 HB1 hb HV HB
    rintro w2 ⟨hT, hV, hX, hb⟩
    have FT := hT.c3
    have F : _ := Blk.c19 (by have := hV.d; unfold dkc at this; exact this)
    have z4 := hV.d.zs
    have HV := Lib.hid hV
    have HX := Lib.hid hX
    have HBL := Lib.hid hb
    clear hT hV hX hb
    go_region
    all_goals
      go_upto_region 5 with (fail)
      refine wp_world (fun w' => DkV w' base gd (g.set 0 ((g.t 0).1, (g.t 0).2.1, (g.t 0).2.2 + bn)) A n c xs O m co ms ∧ OwnX u8c 1 w' 0 5 B bc bs ∧ Below base w w') ⟨?gva, ?gvb, ?gvc⟩ ?_
      case gva => exact (HV.out.carry (Below.refl _ _).drew).wr ((((HV.out.d.drew.set_ 4 _).set_ 5 _).set_ 6 _).as (by simp [dkc, upd, GtD.set])) (((Wr.set _ gd 4 _).trans (Wr.set _ gd 5 _)).trans (Wr.set _ gd 6 _))
      case gvb => exact (HX.out.carry (Below.refl _ _).drew).wr (((Wr.set _ gd 4 _).trans (Wr.set _ gd 5 _)).trans (Wr.set _ gd 6 _)) (own_ne HX.out HV.out.d (by decide))
      case gvc => exact (((Wr.set _ gd 4 _).trans (Wr.set _ gd 5 _)).trans (Wr.set _ gd 6 _)).trans_below HBL.out.drew hgd
      clear F FT z4 HV HX HBL
      rintro w3 ⟨hV, hX, hb⟩
      have f18 : w3.cell? ⟨gd, 18, none⟩ = some (.slice O m co) := by rw [hV.d.cell]; rfl
      have HV := Lib.hid hV
      have HX := Lib.hid hX
      have HBL := Lib.hid hb
      have hbz := hV.nt
      have hb3 := hb.size
      clear hV hX hb hbz
      go_wp2_with (at_builtin
                   refine wpList_appL mlc 2 mlc_one _ rfl (.tmp 35) (.tmp 39) _ rfl base 75 _ 32 Tryz.underlying71 mlInfo rfl (by decide) (by decide) O m co ms rfl HV.out.hm (HV.out.ml.alloc _) _ 1 1 [⟨0, B, bn, bc, bs⟩] rfl rfl (RdX.oneM _ _ ⟨0, B, bn, bc, bs⟩) (ms ++ [⟨0, B, bn, bc, bs⟩]) rfl (m + 1) rfl (by omega) (by simp; omega) ?_
                   intro A7 c7 w7 hO7 hc7 hm7 hb7 hg7 ha7
                   have hD7 := (HV.out.d.alloc (.cells #[.int .i64 0, .slice B bn bc] 75)).grown hg7 (fun e => by
                     cases hO' : O with
                     | none => rw [hO'] at e; cases e
                     | some a => rw [hO'] at e; exact own_ne HV.out.ml HV.out.d (by decide) a hO' (Option.some.inj e).symm)
                   have f18 : w7.cell? ⟨gd, 18, none⟩ = some (.slice O m co) := by rw [hD7.cell]; rfl
                   have z18 := hD7.zs 18)
      refine bodyPost_ret (v := .bool true) (by simp [results, Tryz.results102, go_sem]) rfl ⟨rfl, ⟨A7, c7, ?_⟩, ?_⟩
      · exact (HV.out.carry ((Below.refl _ _).alloc (Nat.le_refl _) _)).mail (x := ⟨0, B, bn, bc, bs⟩) hO7 hg7 (HX.out.alloc _) HBN.out ((hD7.set_ 18 _).as (by rfl)) (Wr.set _ gd 18 _)
      · exact (Wr.set _ gd 18 _).trans_below ((HBL.out.alloc (by omega) _).trans hb7) hgd
    -- ]]p0
  · -- [[p1
    go_enter Tryz.func102, Tryz.ntmps102
    go_wp2_with fail
    refine (HS.out _).mono ?_
    rintro e w1 ⟨rfl, hb1⟩
    have HV1 := Lib.hid (HV.out.carry hb1)
    have HB1 := Lib.hid (HB.out.carry hb1)
    have hb := hb1.mono hbase
    have hs1 := hb1.size
    clear F hb1
    go_upto_region 4 with (fail)
    obtain ⟨q, hq⟩ : ∃ q, w1.heap.size = q := ⟨_, rfl⟩
    refine wp_world (fun w' => Blk w' q 26 #[.bool (g.t 1).1, .int .i64 (g.t 1).2.1, .int .i64 ((g.t 1).2.2 + bn)] ∧ DkV w' base gd g A n c xs O m co ms ∧ OwnX u8c 1 w' 0 5 B bc bs ∧ Below base w w') ⟨Blk.newF hq, HV1.out.carry ((Below.refl _ _).alloc (Nat.le_refl _) _), HB1.out.alloc _, hb.alloc (by omega) _⟩ ?_
    try rw [hq]
    clear hq HV1 HB1 hb HV HB
    rintro w2 ⟨hT, hV, hX, hb⟩
    have FT := hT.c3
    have F : _ := Blk.c19 (by have := hV.d; unfold dkc at this; exact this)
    have z4 := hV.d.zs
    have HV := Lib.hid hV
    have HX := Lib.hid hX
    have HBL := Lib.hid hb
    clear hT hV hX hb
    go_region
    all_goals
      go_upto_region 5 with (fail)
      refine wp_world (fun w' => DkV w' base gd (g.set 1 ((g.t 1).1, (g.t 1).2.1, (g.t 1).2.2 + bn)) A n c xs O m co ms ∧ OwnX u8c 1 w' 0 5 B bc bs ∧ Below base w w') ⟨?gva, ?gvb, ?gvc⟩ ?_
      case gva => exact (HV.out.carry (Below.refl _ _).drew).wr ((((HV.out.d.drew.set_ 7 _).set_ 8 _).set_ 9 _).as (by simp [dkc, upd, GtD.set])) (((Wr.set _ gd 7 _).trans (Wr.set _ gd 8 _)).trans (Wr.set _ gd 9 _))
      case gvb => exact (HX.out.carry (Below.refl _ _).drew).wr (((Wr.set _ gd 7 _).trans (Wr.set _ gd 8 _)).trans (Wr.set _ gd 9 _)) (own_ne HX.out HV.out.d (by decide))
      case gvc => exact (((Wr.set _ gd 7 _).trans (Wr.set _ gd 8 _)).trans (Wr.set _ gd 9 _)).trans_below HBL.out.drew hgd
      clear F FT z4 HV HX HBL
      rintro w3 ⟨hV, hX, hb⟩
      have f18 : w3.cell? ⟨gd, 18, none⟩ = some (.slice O m co) := by rw [hV.d.cell]; rfl
      have HV := Lib.hid hV
      have HX := Lib.hid hX
      have HBL := Lib.hid hb
      have hbz := hV.nt
      have hb3 := hb.size
      clear hV hX hb hbz
      go_wp2_with (at_builtin
                   refine wpList_appL mlc 2 mlc_one _ rfl (.tmp 35) (.tmp 39) _ rfl base 75 _ 32 Tryz.underlying71 mlInfo rfl (by decide) (by decide) O m co ms rfl HV.out.hm (HV.out.ml.alloc _) _ 1 1 [⟨1, B, bn, bc, bs⟩] rfl rfl (RdX.oneM _ _ ⟨1, B, bn, bc, bs⟩) (ms ++ [⟨1, B, bn, bc, bs⟩]) rfl (m + 1) rfl (by omega) (by simp; omega) ?_
                   intro A7 c7 w7 hO7 hc7 hm7 hb7 hg7 ha7
                   have hD7 := (HV.out.d.alloc (.cells #[.int .i64 1, .slice B bn bc] 75)).grown hg7 (fun e => by
                     cases hO' : O with
                     | none => rw [hO'] at e; cases e
                     | some a => rw [hO'] at e; exact own_ne HV.out.ml HV.out.d (by decide) a hO' (Option.some.inj e).symm)
                   have f18 : w7.cell? ⟨gd, 18, none⟩ = some (.slice O m co) := by rw [hD7.cell]; rfl
                   have z18 := hD7.zs 18)
      refine bodyPost_ret (v := .bool true) (by simp [results, Tryz.results102, go_sem]) rfl ⟨rfl, ⟨A7, c7, ?_⟩, ?_⟩
      · exact (HV.out.carry ((Below.refl _ _).alloc (Nat.le_refl _) _)).mail (x := ⟨1, B, bn, bc, bs⟩) hO7 hg7 (HX.out.alloc _) HBN.out ((hD7.set_ 18 _).as (by rfl)) (Wr.set _ gd 18 _)
      · exact (Wr.set _ gd 18 _).trans_below ((HBL.out.alloc (by omega) _).trans hb7) hgd
    -- ]]p1
  · -- [[p2
    go_enter Tryz.func102, Tryz.ntmps102
    go_wp2_with fail
    refine (HS.out _).mono ?_
    rintro e w1 ⟨rfl, hb1⟩
    have HV1 := Lib.hid (HV.out.carry hb1)
    have HB1 := Lib.hid (HB.out.carry hb1)
    have hb := hb1.mono hbase
    have hs1 := hb1.size
    clear F hb1
    go_upto_region 4 with (fail)
    obtain ⟨q, hq⟩ : ∃ q, w1.heap.size = q := ⟨_, rfl⟩
    refine wp_world (fun w' => Blk w' q 26 #[.bool (g.t 2).1, .int .i64 (g.t 2).2.1, .int .i64 ((g.t 2).2.2 + bn)] ∧ DkV w' base gd g A n c xs O m co ms ∧ OwnX u8c 1 w' 0 5 B bc bs ∧ Below base w w') ⟨Blk.newF hq, HV1.out.carry ((Below.refl _ _).alloc (Nat.le_refl _) _), HB1.out.alloc _, hb.alloc (by omega) _⟩ ?_
    try rw [hq]
    clear hq HV1 HB1 hb HV HB
    rintro w2 ⟨hT, hV, hX, hb⟩
    have FT := hT.c3
    have F : _ := Blk.c19 (by have := hV.d; unfold dkc at this; exact this)
    have z4 := hV.d.zs
    have HV := Lib.hid hV
    have HX := Lib.hid hX
    have HBL := Lib.hid hb
    clear hT hV hX hb
    go_region
    all_goals
      go_upto_region 5 with (fail)
      refine wp_world (fun w' => DkV w' base gd (g.set 2 ((g.t 2).1, (g.t 2).2.1, (g.t 2).2.2 + bn)) A n c xs O m co ms ∧ OwnX u8c 1 w' 0 5 B bc bs ∧ Below base w w') ⟨?gva, ?gvb, ?gvc⟩ ?_
      case gva => exact (HV.out.carry (Below.refl _ _).drew).wr ((((HV.out.d.drew.set_ 10 _).set_ 11 _).set_ 12 _).as (by simp [dkc, upd, GtD.set])) (((Wr.set _ gd 10 _).trans (Wr.set _ gd 11 _)).trans (Wr.set _ gd 12 _))
      case gvb => exact (HX.out.carry (Below.refl _ _).drew).wr (((Wr.set _ gd 10 _).trans (Wr.set _ gd 11 _)).trans (Wr.set _ gd 12 _)) (own_ne HX.out HV.out.d (by decide))
      case gvc => exact (((Wr.set _ gd 10 _).trans (Wr.set _ gd 11 _)).trans (Wr.set _ gd 12 _)).trans_below HBL.out.drew hgd
      clear F FT z4 HV HX HBL
      rintro w3 ⟨hV, hX, hb⟩
      have f18 : w3.cell? ⟨gd, 18, none⟩ = some (.slice O m co) := by rw [hV.d.cell]; rfl
      have HV := Lib.hid hV
      have HX := Lib.hid hX
      have HBL := Lib.hid hb
      have hbz := hV.nt
      have hb3 := hb.size
      clear hV hX hb hbz
      go_wp2_with (at_builtin
                   refine wpList_appL mlc 2 mlc_one _ rfl (.tmp 35) (.tmp 39) _ rfl base 75 _ 32 Tryz.underlying71 mlInfo rfl (by decide) (by decide) O m co ms rfl HV.out.hm (HV.out.ml.alloc _) _ 1 1 [⟨2, B, bn, bc, bs⟩] rfl rfl (RdX.oneM _ _ ⟨2, B, bn, bc, bs⟩) (ms ++ [⟨2, B, bn, bc, bs⟩]) rfl (m + 1) rfl (by omega) (by simp; omega) ?_
                   intro A7 c7 w7 hO7 hc7 hm7 hb7 hg7 ha7
                   have hD7 := (HV.out.d.alloc (.cells #[.int .i64 2, .slice B bn bc] 75)).grown hg7 (fun e => by
                     cases hO' : O with
                     | none => rw [hO'] at e; cases e
                     | some a => rw [hO'] at e; exact own_ne HV.out.ml HV.out.d (by decide) a hO' (Option.some.inj e).symm)
                   have f18 : w7.cell? ⟨gd, 18, none⟩ = some (.slice O m co) := by rw [hD7.cell]; rfl
                   have z18 := hD7.zs 18)
      refine bodyPost_ret (v := .bool true) (by simp [results, Tryz.results102, go_sem]) rfl ⟨rfl, ⟨A7, c7, ?_⟩, ?_⟩
      · exact (HV.out.carry ((Below.refl _ _).alloc (Nat.le_refl _) _)).mail (x := ⟨2, B, bn, bc, bs⟩) hO7 hg7 (HX.out.alloc _) HBN.out ((hD7.set_ 18 _).as (by rfl)) (Wr.set _ gd 18 _)
      · exact (Wr.set _ gd 18 _).trans_below ((HBL.out.alloc (by omega) _).trans hb7) hgd
    -- ]]p2
  · -- [[p3
    go_enter Tryz.func102, Tryz.ntmps102
    go_wp2_with fail
    refine (HS.out _).mono ?_
    rintro e w1 ⟨rfl, hb1⟩
    have HV1 := Lib.hid (HV.out.carry hb1)
    have HB1 := Lib.hid (HB.out.carry hb1)
    have hb := hb1.mono hbase
    have hs1 := hb1.size
    clear F hb1
    go_upto_region 4 with (fail)
    obtain ⟨q, hq⟩ : ∃ q, w1.heap.size = q := ⟨_, rfl⟩
    refine wp_world (fun w' => Blk w' q 26 #[.bool (g.t 3).1, .int .i64 (g.t 3).2.1, .int .i64 ((g.t 3).2.2 + bn)] ∧ DkV w' base gd g A n c xs O m co ms ∧ OwnX u8c 1 w' 0 5 B bc bs ∧ Below base w w') ⟨Blk.newF hq, HV1.out.carry ((Below.refl _ _).alloc (Nat.le_refl _) _), HB1.out.alloc _, hb.alloc (by omega) _⟩ ?_
    try rw [hq]
    clear hq HV1 HB1 hb HV HB
    rintro w2 ⟨hT, hV, hX, hb⟩
    have FT := hT.c3
    have F : _ := Blk.c19 (by have := hV.d; unfold dkc at this; exact this)
    have z4 := hV.d.zs
    have HV := Lib.hid hV
    have HX := Lib.hid hX
    have HBL := Lib.hid hb
    clear hT hV hX hb
    go_region
    all_goals
      go_upto_region 5 with (fail)
      refine wp_world (fun w' => DkV w' base gd (g.set 3 ((g.t 3).1, (g.t 3).2.1, (g.t 3).2.2 + bn)) A n c xs O m co ms ∧ OwnX u8c 1 w' 0 5 B bc bs ∧ Below base w w') ⟨?gva, ?gvb, ?gvc⟩ ?_
      case gva => exact (HV.out.carry (Below.refl _ _).drew).wr ((((HV.out.d.drew.set_ 13 _).set_ 14 _).set_ 15 _).as (by simp [dkc, upd, GtD.set])) (((Wr.set _ gd 13 _).trans (Wr.set _ gd 14 _)).trans (Wr.set _ gd 15 _))
      case gvb => exact (HX.out.carry (Below.refl _ _).drew).wr (((Wr.set _ gd 13 _).trans (Wr.set _ gd 14 _)).trans (Wr.set _ gd 15 _)) (own_ne HX.out HV.out.d (by decide))
      case gvc => exact (((Wr.set _ gd 13 _).trans (Wr.set _ gd 14 _)).trans (Wr.set _ gd 15 _)).trans_below HBL.out.drew hgd
      clear F FT z4 HV HX HBL
      rintro w3 ⟨hV, hX, hb⟩
      have f18 : w3.cell? ⟨gd, 18, none⟩ = some (.slice O m co) := by rw [hV.d.cell]; rfl
      have HV := Lib.hid hV
      have HX := Lib.hid hX
      have HBL := Lib.hid hb
      have hbz := hV.nt
      have hb3 := hb.size
      clear hV hX hb hbz
      go_wp2_with (at_builtin
                   refine wpList_appL mlc 2 mlc_one _ rfl (.tmp 35) (.tmp 39) _ rfl base 75 _ 32 Tryz.underlying71 mlInfo rfl (by decide) (by decide) O m co ms rfl HV.out.hm (HV.out.ml.alloc _) _ 1 1 [⟨3, B, bn, bc, bs⟩] rfl rfl (RdX.oneM _ _ ⟨3, B, bn, bc, bs⟩) (ms ++ [⟨3, B, bn, bc, bs⟩]) rfl (m + 1) rfl (by omega) (by simp; omega) ?_
                   intro A7 c7 w7 hO7 hc7 hm7 hb7 hg7 ha7
                   have hD7 := (HV.out.d.alloc (.cells #[.int .i64 3, .slice B bn bc] 75)).grown hg7 (fun e => by
                     cases hO' : O with
                     | none => rw [hO'] at e; cases e
                     | some a => rw [hO'] at e; exact own_ne HV.out.ml HV.out.d (by decide) a hO' (Option.some.inj e).symm)
                   have f18 : w7.cell? ⟨gd, 18, none⟩ = some (.slice O m co) := by rw [hD7.cell]; rfl
                   have z18 := hD7.zs 18)
      refine bodyPost_ret (v := .bool true) (by simp [results, Tryz.results102, go_sem]) rfl ⟨rfl, ⟨A7, c7, ?_⟩, ?_⟩
      · exact (HV.out.carry ((Below.refl _ _).alloc (Nat.le_refl _) _)).mail (x := ⟨3, B, bn, bc, bs⟩) hO7 hg7 (HX.out.alloc _) HBN.out ((hD7.set_ 18 _).as (by rfl)) (Wr.set _ gd 18 _)
      · exact (Wr.set _ gd 18 _).trans_below ((HBL.out.alloc (by omega) _).trans hb7) hgd
    -- ]]p3

set_option maxRecDepth 100000 in
set_option maxHeartbeats 4000000 in
theorem send_no (p : Nat) (hp : p < 4) (B : Option Addr) (bn bc : Nat) (hb400 : bn ≤ 400) (base gd : Nat) (g : GtD) (A : Option Addr) (n c : Nat) (xs : List NtB) (O : Option Addr) (m co : Nat) (ms : List MlB)
    (ok : TlyOk (g.t p)) (h1 : (g.t p).2.1 ≤ 1099511627376) (h3 : (g.t p).2.2 ≤ 1099511627376) (h5 : (g.t p).1 = false ∧ 3 * (g.t p).2.1 < (g.t p).2.2 + bn) (w : World) (h : DkV w base gd g A n c xs O m co ms) :
    Calls Tryz.prog 102 #[.pointer (some ⟨gd, 0, none⟩), .int .i64 p, .slice B bn bc] w fun e w' => e = .returned (.bool false) ∧ Below w.heap.size w w' := by
  have HS := Lib.hid (fun W => tallySend_no (g.t p) ok h1 h3 bn (by omega) (by omega) h5 W)
  have F : _ := Blk.c19 (by have := h.d; unfold dkc at this; exact this)
  clear h ok h5
  rcases (show p = 0 ∨ p = 1 ∨ p = 2 ∨ p = 3 by omega) with rfl | rfl | rfl | rfl
  all_goals
    go_enter Tryz.func102, Tryz.ntmps102
    go_wp2_with fail
    refine (HS.out _).mono ?_
    rintro e w1 ⟨rfl, hb1⟩
    have hb := hb1.alloc (Nat.le_trans (Nat.le_refl _) hb1.size) (.cells #[.bool false, .int .i64 0, .int .i64 0] 26)
    go_wp2_with fail
    go_ret
    exact ⟨rfl, hb⟩
end Go.Proofs.YtbcagdjfegobnaaGreat
/- A region that draws its order, by a condition that every step keeps. -/
namespace Go.Proofs.YtbcagdjfegobnaaGreat
open Go.RowKit
set_option linter.unusedVariables false

section
variable {P : Program} {ops : Array Oper} {Q : Exit → Act → World → Prop} {md : Region.Mode}
theorem getD_lt {l : Array Bool} {i : Nat} (h : l.getD i true = false) : ∃ hi : i < l.size, l[i] = false := by
  unfold Array.getD at h
  split at h
  · rename_i hi; exact ⟨hi, h⟩
  · cases h
theorem count_listed {l : Array Bool} {i : Nat} (h : l.getD i true = false) : (l.setIfInBounds i true).toList.count false + 1 = l.toList.count false := by
  obtain ⟨hi, hv⟩ := getD_lt h
  have h1 : l.toList[i]'(by simpa using hi) = false := by simpa using hv
  rw [Array.toList_setIfInBounds, List.count_set (by simpa using hi), h1]
  have : 0 < l.toList.count false := List.count_pos_iff.2 (by rw [← h1]; exact List.getElem_mem _)
  rw [if_pos (by decide), if_neg (by decide)]
  omega
/-- An operation, as_v it stands in the region. -/
theorem wpOp_if {i : Nat} {o : Oper} {K : Act → World → Prop} {a : Act} {w : World} (ho : ops[i]? = some o) (h : if Region.wanted o (yielded ops a.tmps) = true then Oper.wp P o a w K Q else K (a.put o.dst undef) w) : wpOp P ops Q i K a w := by
  unfold wpOp
  rw [ho]
  dsimp only
  split
  · rename_i hw; rw [if_pos hw] at h; exact .inl h
  · rename_i hw; rw [if_neg hw] at h; exact h
/-- Whatever order is drawn: a condition that holds at the start, that every operation keeps that may come up, and that at the end says what is wanted. -/
theorem wpAny_inv {I : Array Bool → Act → World → Prop} (hstep : ∀ l a w i, I l a w → i ∈ Region.ready md ops l → wpOp P ops Q i (I (l.setIfInBounds i true)) a w)
    (hend : ∀ l a w, I l a w → Region.ready md ops l = [] → Q .normal a w) : ∀ (fuel : Nat) (l : Array Bool) (a : Act) (w : World), l.toList.count false ≤ fuel → I l a w → wpAny P md ops Q fuel l a w
  | 0, l, a, w, hc, hI => by
    have hr : Region.ready md ops l = [] := List.eq_nil_iff_forall_not_mem.2 fun i hi => by
      have := count_listed (mem_ready.1 hi).1
      omega
    exact ⟨hr, hend _ _ _ hI hr⟩
  | fuel + 1, l, a, w, hc, hI => ⟨fun h => hend _ _ _ hI h, fun i hi => wpOp_mono (fun a' w' h => wpAny_inv hstep hend fuel _ a' w' (by have := count_listed (mem_ready.1 hi).1; omega) h) (hstep l a w i hI hi)⟩
/-- Where none may come up, all have come up. -/
def backEdges (ops : Array Oper) : Bool := (List.range ops.size).all fun i => ((ops[i]?).map fun o => o.after.toList.all fun e => e.on < i).getD true
theorem ready_all {l : Array Bool} (h : Region.ready md ops l = []) (hsz : l.size = ops.size) (hb : backEdges ops = true) : ∀ n i, i < n → l.getD i true = true
  | 0, i, hi => absurd hi (Nat.not_lt_zero _)
  | n + 1, i, hi => by
    rcases Nat.lt_or_ge i n with h1 | h1
    · exact ready_all h hsz hb n i h1
    · obtain rfl : i = n := by omega
      cases hv : l.getD i true with
      | true => rfl
      | false =>
        exfalso
        obtain ⟨hi2, _⟩ := getD_lt hv
        have hi3 : i < ops.size := by omega
        have hm : i ∈ Region.ready md ops l := mem_ready.2 ⟨hv, ops[i], by simp [hi3], fun e he _ => by
          have h2 := List.all_eq_true.1 hb i (List.mem_range.2 hi3)
          simp only [Array.getElem?_eq_getElem hi3, Option.map_some, Option.getD_some] at h2
          have h3 := List.all_eq_true.1 h2 e (by simpa using he)
          have h4 : e.on < i := by simpa using h3
          have h5 := ready_all h hsz hb i e.on h4
          unfold Array.getD at h5 ⊢
          have h6 : e.on < l.size := by omega
          rw [dif_pos h6] at h5 ⊢
          exact h5⟩
        rw [h] at hm
        cases hm
end

/-- A chain 'append([]T{}, x...)' of a region: what has come up of it. A: where its row lies. -/
structure Chn {α : Type} (f : α → List Value) (m : Nat) (E : TypeId) (M : Nat) (w : World) (pt src : Value) (n : Nat) (xs : List α) (b0 b1 b2 b3 : Bool) (x0 x1 x2 x3 : Value) (A : Option Addr) : Prop where
  n0 : b0 = false → A = none
  e0 : b0 = true → b3 = false → x0 = .slice A 0 0 ∧ OwnX f m w M E A 0 []
  e1 : b1 = true → x1 = pt
  e2 : b2 = true → x2 = src
  e3 : b3 = true → ∃ c, x3 = .slice A n c ∧ n ≤ c ∧ c ≤ 9223372036854775807 ∧ OwnX f m w M E A c xs
  d3 : b3 = true → b0 = true
section
variable {α : Type} {f : α → List Value} {m : Nat} {E : TypeId} {M : Nat} {w w' : World} {pt src : Value} {n : Nat} {xs : List α} {b0 b1 b2 b3 : Bool} {x0 x1 x2 x3 : Value} {A : Option Addr}
theorem Chn.keep (h : Chn f m E M w pt src n xs b0 b1 b2 b3 x0 x1 x2 x3 A) (hk : ∀ c (ys : List α), OwnX f m w M E A c ys → OwnX f m w' M E A c ys) : Chn f m E M w' pt src n xs b0 b1 b2 b3 x0 x1 x2 x3 A where
  n0 := h.n0
  e0 := fun a b => ⟨(h.e0 a b).1, hk _ _ (h.e0 a b).2⟩
  e1 := h.e1
  e2 := h.e2
  e3 := fun a => by obtain ⟨c, h1, h2, h3, h4⟩ := h.e3 a; exact ⟨c, h1, h2, h3, hk _ _ h4⟩
  d3 := h.d3
theorem Chn.lt (h : Chn f m E M w pt src n xs b0 b1 b2 b3 x0 x1 x2 x3 A) : ∀ q, A.map (fun y : Addr => y.block) = some q → M ≤ q ∧ q < w.heap.size := fun q hq => by
  cases hb : b0 with
  | false => rw [h.n0 hb] at hq; cases hq
  | true =>
    cases hb3 : b3 with
    | false => exact (h.e0 hb hb3).2.lt (n := 0) q (by rw [slice_own]; exact hq)
    | true => obtain ⟨c, _, _, _, h4⟩ := h.e3 hb3; exact h4.lt (n := 0) q (by rw [slice_own]; exact hq)
theorem Chn.alloc (h : Chn f m E M w pt src n xs b0 b1 b2 b3 x0 x1 x2 x3 A) (o : Obj) : Chn f m E M (w.alloc o) pt src n xs b0 b1 b2 b3 x0 x1 x2 x3 A := h.keep fun _ _ ho => ho.alloc o
theorem Chn.set (h : Chn f m E M w pt src n xs b0 b1 b2 b3 x0 x1 x2 x3 A) {p : Addr} (hp : p.block < M) (u : Value) : Chn f m E M (w.setCell p u) pt src n xs b0 b1 b2 b3 x0 x1 x2 x3 A := h.keep fun _ _ ho => ho.set_below hp u
theorem Chn.grown (h : Chn f m E M w pt src n xs b0 b1 b2 b3 x0 x1 x2 x3 A) {row : Option Nat} (hg : w.grownBy w' row) (hne : ∀ q, A.map (fun y : Addr => y.block) = some q → row ≠ some q) : Chn f m E M w' pt src n xs b0 b1 b2 b3 x0 x1 x2 x3 A :=
  h.keep fun _ _ ho => ho.grown hg (by
    cases hA : A.map (fun y : Addr => y.block) with
    | none => exact .inl rfl
    | some q => exact .inr fun e => hne q hA e.symm)
theorem Chn.build (h : Chn f m E M w pt src n xs false b1 b2 b3 x0 x1 x2 x3 A) (hM : M ≤ w.heap.size) : Chn f m E M (w.alloc (.cells #[] E)) pt src n xs true b1 b2 b3 (.slice (some ⟨w.heap.size, 0, none⟩) 0 0) x1 x2 x3 (some ⟨w.heap.size, 0, none⟩) where
  n0 := fun a => by cases a
  e0 := fun _ _ => ⟨rfl, OwnX.made f m w M E hM⟩
  e1 := h.e1
  e2 := h.e2
  e3 := fun a => by have := h.d3 a; cases this
  d3 := fun _ => rfl
theorem Chn.addr (h : Chn f m E M w pt src n xs b0 b1 b2 b3 x0 x1 x2 x3 A) : Chn f m E M w pt src n xs b0 true b2 b3 x0 pt x2 x3 A := ⟨h.n0, h.e0, fun _ => rfl, h.e2, h.e3, h.d3⟩
theorem Chn.load (h : Chn f m E M w pt src n xs b0 b1 b2 b3 x0 x1 x2 x3 A) : Chn f m E M w pt src n xs b0 b1 true b3 x0 x1 src x3 A := ⟨h.n0, h.e0, h.e1, fun _ => rfl, h.e3, h.d3⟩
theorem Chn.app (h : Chn f m E M w pt src n xs true b1 b2 false x0 x1 x2 x3 A) {A' : Option Addr} {c : Nat} (ho : OwnX f m w' M E A' c xs) (h1 : n ≤ c) (h2 : c ≤ 9223372036854775807) : Chn f m E M w' pt src n xs true b1 b2 true x0 x1 x2 (.slice A' n c) A' :=
  ⟨fun a => Bool.noConfusion a, fun _ a => Bool.noConfusion a, h.e1, h.e2, fun _ => ⟨c, rfl, h1, h2, ho⟩, fun _ => rfl⟩
theorem Chn.zero (hA : A = none) : Chn f m E M w pt src n xs false false false false x0 x1 x2 x3 A :=
  ⟨fun _ => hA, fun a => Bool.noConfusion a, fun a => Bool.noConfusion a, fun a => Bool.noConfusion a, fun a => Bool.noConfusion a, fun a => Bool.noConfusion a⟩
end
end Go.Proofs.YtbcagdjfegobnaaGreat
/- A region that draws its order, walked once in the order of the text: operations that yield one value in every world of a class, and events (calls, new blocks) of which a condition is told that stays. -/
namespace Go.Proofs.YtbcagdjfegobnaaGreat
open Go.RowKit
set_option linter.unusedVariables false

/-- An operation leaves the world alone and yields v. -/
def stillR (w : World) (v : Value) : Result Next → Prop
  | .ok (.value u) w' => w' = w ∧ u = v
  | .ok .skip w' => w' = w ∧ v = undef
  | _ => False
/-- An operation yields a value and a world of which R holds. -/
def doesR (P : Program) (R : Value → World → Prop) : Result Next → Prop
  | .ok (.value u) w' => R u w'
  | .ok .skip w' => R undef w'
  | .ok (.enter f args) w' => Calls P f args w' (fun e w'' => ∃ v, e = .returned v ∧ R v w'')
  | _ => False
theorem stillR.one {w : World} {v u : Value} {r : Result Next} (h : stillR w v r) (k : stillR w u r) : v = u := by
  cases r with
  | ok n w' => cases n <;> simp only [stillR] at h k <;> first | exact h.2.symm.trans k.2 | exact h.2.trans k.2.symm
  | halt x w' => exact h.elim
theorem doesR.mono {P : Program} {R R' : Value → World → Prop} {r : Result Next} (h : doesR P R r) (hr : ∀ v w, R v w → R' v w) : doesR P R' r := by
  cases r with
  | ok n w' => cases n <;> simp only [doesR] at h ⊢ <;> first | exact hr _ _ h | exact h.mono fun e w'' ⟨v, he, hv⟩ => ⟨v, he, hr _ _ hv⟩ | exact h
  | halt x w' => exact h
theorem doesR.some {P : Program} {R : Value → World → Prop} {r : Result Next} (h : doesR P R r) : ∃ v w, R v w := by
  cases r with
  | ok n w' =>
    cases n <;> simp only [doesR] at h
    case value u => exact ⟨_, _, h⟩
    case skip => exact ⟨_, _, h⟩
    case enter f args => obtain ⟨e, w'', _, ⟨v, _, hv⟩, _⟩ := h []; exact ⟨_, _, hv⟩
  | halt x w' => exact h.elim
theorem wp_of_still {P : Program} {o : Oper} {a : Act} {w : World} {K : Act → World → Prop} {Q : Exit → Act → World → Prop} {v : Value} (h : stillR w v ((execOp a.eval o).run P w)) (hk : K (a.put o.dst v) w) : o.wp P a w K Q := by
  unfold Oper.wp
  generalize (execOp a.eval o).run P w = r at *
  cases r with
  | ok n w' =>
    cases n <;> simp only [stillR] at h <;> simp only [Oper.upon]
    case value u => obtain ⟨rfl, rfl⟩ := h; exact hk
    case skip => obtain ⟨rfl, rfl⟩ := h; exact hk
  | halt x w' => exact h.elim
theorem wp_of_does {P : Program} {o : Oper} {a : Act} {w : World} {K : Act → World → Prop} {Q : Exit → Act → World → Prop} {R : Value → World → Prop} (h : doesR P R ((execOp a.eval o).run P w)) (hk : ∀ v w', R v w' → K (a.put o.dst v) w') : o.wp P a w K Q := by
  unfold Oper.wp
  generalize (execOp a.eval o).run P w = r at *
  cases r with
  | ok n w' =>
    cases n <;> simp only [doesR] at h <;> simp only [Oper.upon]
    case value u => exact hk _ _ h
    case skip => exact hk _ _ h
    case enter f args => exact h.mono fun e w'' ⟨v, he, hv⟩ => by subst he; exact hk _ _ hv
  | halt x w' => exact h.elim

section
variable (ops : Array Oper)
/-- What an operation waits for, at once. -/
def waits (k : Nat) : List Nat := match ops[k]? with
  | some o => (o.after.toList.filter (Region.binds .any)).map (·.on)
  | none => []
/-- .. and at length. -/
def waitsAll : Nat → Nat → List Nat
  | 0, _ => []
  | f + 1, k => waits ops k ++ (waits ops k).flatMap (waitsAll f)
def depB (k i : Nat) : Bool := (waitsAll ops ops.size k).contains i
def dstOf (k : Nat) : Option Tmp := (ops[k]?).bind (·.dst)
def looks (k : Nat) : List Tmp := match ops[k]? with
  | some o => o.looksAt ops
  | none => []
/-- Operations that yield the same in whatever world: they may be taken ahead of all. -/
def pureOp (o : Oper) : Bool := match o.op with
  | .extract _ _ => true
  | .move _ => true
  | .nilCheck _ => true
  | .fieldAddr _ _ _ => true
  | _ => false
def pu (j : Nat) : Bool := match ops[j]? with
  | some o => pureOp o
  | none => false
def pureB (core ev : Nat → Bool) : Bool := Region.noSelect ops &&
  (List.range ops.size).all fun j => !(core j && pu ops j) || (!ev j && (List.range ops.size).all fun i => i == j || ((waits ops i).contains j || (depB ops j i || (match ops[i]?, ops[j]? with | some oi, some oj => oj.apart ops oi | _, _ => true))))
/-- The order of the text serves: each operation of the core waits for operations of the core ahead of it alone; a slot is written once, and read by those alone that wait for its writer; the others wait for the whole core. -/
def flowB (core : Nat → Bool) (sz : Nat) : Bool :=
  (List.range ops.size).all fun k =>
    (waits ops k).all (fun e => e < k) &&
    (if core k then
      (waits ops k).all core &&
      (List.range ops.size).all (fun j => !core j || ((match dstOf ops j with
        | some d => d < sz && (!(looks ops k).contains d || depB ops k j) && (j == k || dstOf ops k != some d)
        | none => true))) &&
      (match ops[k]? with | some o => (match o.op with | Op.select _ _ => false | _ => true) | none => true)
    else (List.range ops.size).all (fun j => !core j || (depB ops k j || pu ops j)))
end

section
variable {ops : Array Oper}
theorem looks_of {k : Nat} {o : Oper} (ho : ops[k]? = some o) : looks ops k = o.looksAt ops := by simp [looks, ho]
theorem agree_exec {k : Nat} {o : Oper} (ho : ops[k]? = some o) (hs : ∀ cs b, o.op ≠ .select cs b) {a b : Act} (h : ∀ t ∈ looks ops k, a.tmps[t]? = b.tmps[t]?) : execOp a.eval o = execOp b.eval o :=
  execOp_congr o hs fun x hx => by
    cases x with
    | tmp t =>
      have ht : t ∈ looks ops k := by
        rw [looks_of ho]
        exact List.mem_append_left _ (List.mem_filterMap.2 ⟨.tmp t, by simpa using hx, rfl⟩)
      simp only [Act.eval, Array.getD_eq_getD_getElem?, h t ht]
    | _ => rfl
theorem agree_wanted {k : Nat} {o : Oper} (ho : ops[k]? = some o) {a b : Act} (h : ∀ t ∈ looks ops k, a.tmps[t]? = b.tmps[t]?) : Region.wanted o (yielded ops a.tmps) = Region.wanted o (yielded ops b.tmps) := by
  unfold Region.wanted
  cases hg : o.guard with
  | none => rfl
  | some p =>
    obtain ⟨j, want⟩ := p
    have e : yielded ops a.tmps j = yielded ops b.tmps j := by
      unfold yielded
      cases hd : (ops[j]?).bind (·.dst) with
      | none => simp
      | some d =>
        have ht : d ∈ looks ops k := by
          rw [looks_of ho]
          exact List.mem_append_right _ (by simp [hg, hd])
        simp [h d ht]
    simp [e]
end
end Go.Proofs.YtbcagdjfegobnaaGreat
/- A region that draws its order, walked once in the order of the text: the theorem. -/
namespace Go.Proofs.YtbcagdjfegobnaaGreat
open Go.RowKit
set_option linter.unusedVariables false

section
variable (ops : Array Oper) (core : Nat → Bool)
/-- Who writes a slot. -/
def writer (t : Tmp) : Option Nat := (List.range ops.size).find? fun j => core j && dstOf ops j == some t
def lookV (a0 : Act) (vals : Nat → Value) (t : Tmp) : Value := match writer ops core t with
  | some j => vals j
  | none => a0.tmps.getD t undef
/-- The frame when all of the core have yielded these values. -/
def AV (a0 : Act) (vals : Nat → Value) : Act := { a0 with tmps := Array.ofFn fun t : Fin a0.tmps.size => lookV ops core a0 vals t }
end
section
variable {ops : Array Oper} {core : Nat → Bool}
theorem AV_get (a0 : Act) (vals : Nat → Value) (t : Nat) : (AV ops core a0 vals).tmps[t]? = if t < a0.tmps.size then some (lookV ops core a0 vals t) else none := by
  simp [AV, Array.getElem?_ofFn]
theorem writer_spec {t : Tmp} {j : Nat} (h : writer ops core t = some j) : j < ops.size ∧ core j = true ∧ dstOf ops j = some t := by
  have h1 := List.mem_of_find?_eq_some h
  have h2 := List.find?_some h
  simp at h1 h2
  exact ⟨h1, h2.1, h2.2⟩
theorem writer_none {t : Tmp} (h : writer ops core t = none) (j : Nat) (hj : j < ops.size) (hc : core j = true) : dstOf ops j ≠ some t := by
  have := List.find?_eq_none.1 h j (by simpa using hj)
  simpa [hc] using this
/-- What flowB says. -/
structure FlowOk (ops : Array Oper) (core : Nat → Bool) (sz : Nat) : Prop where
  back : ∀ k, k < ops.size → ∀ e ∈ waits ops k, e < k
  cl : ∀ k, k < ops.size → core k = true → ∀ e ∈ waits ops k, core e = true
  ssa : ∀ k j d, k < ops.size → core k = true → j < ops.size → core j = true → dstOf ops j = some d → d < sz ∧ (d ∈ looks ops k → depB ops k j = true) ∧ (j ≠ k → dstOf ops k ≠ some d)
  sel : ∀ k o cs b, ops[k]? = some o → core k = true → o.op ≠ .select cs b
  last : ∀ k j, k < ops.size → core k = false → j < ops.size → core j = true → depB ops k j = true ∨ pu ops j = true
theorem flow_ok {sz : Nat} (h : flowB ops core sz = true) : FlowOk ops core sz := by
  unfold flowB at h
  have h := fun k (hk : k < ops.size) => List.all_eq_true.1 h k (List.mem_range.2 hk)
  refine ⟨fun k hk e he => ?_, fun k hk hc e he => ?_, fun k j d hk hc hj hcj hd => ?_, fun k o cs b ho hc e => ?_, fun k j hk hc hj hcj => ?_⟩
  · have := h k hk
    rw [Bool.and_eq_true] at this
    simpa using List.all_eq_true.1 this.1 e he
  · have := h k hk
    rw [Bool.and_eq_true, if_pos hc, Bool.and_eq_true, Bool.and_eq_true] at this
    exact List.all_eq_true.1 this.2.1.1 e he
  · have := h k hk
    rw [Bool.and_eq_true, if_pos hc, Bool.and_eq_true, Bool.and_eq_true] at this
    have := List.all_eq_true.1 this.2.1.2 j (List.mem_range.2 hj)
    simp only [hcj, hd, Bool.not_true, Bool.false_or, Bool.and_eq_true, decide_eq_true_eq] at this
    obtain ⟨⟨h1, h2⟩, h3⟩ := this
    refine ⟨h1, fun hl => ?_, fun hne => ?_⟩
    · simpa [hl] using h2
    · simpa [hne] using h3
  · have hk : k < ops.size := (Array.getElem?_eq_some_iff.1 ho).1
    have := h k hk
    rw [Bool.and_eq_true, if_pos hc, Bool.and_eq_true, Bool.and_eq_true] at this
    have := this.2.2
    simp [ho, e] at this
  · have := h k hk
    rw [Bool.and_eq_true, if_neg (by simp [hc])] at this
    have := List.all_eq_true.1 this.2 j (List.mem_range.2 hj)
    simpa [hcj] using this
theorem writer_of {sz : Nat} (hok : FlowOk ops core sz) {t : Tmp} {j : Nat} (hj : j < ops.size) (hc : core j = true) (hd : dstOf ops j = some t) : writer ops core t = some j := by
  cases hw : writer ops core t with
  | none => exact absurd hd (writer_none hw j hj hc)
  | some i =>
    obtain ⟨h1, h2, h3⟩ := writer_spec hw
    by_cases e : i = j
    · rw [e]
    · exact absurd hd ((hok.ssa j i t hj hc h1 h2 h3).2.2 e)
theorem waitsAll_in {l : Nat → Prop} (hcl : ∀ k, l k → ∀ e ∈ waits ops k, l e) : ∀ (f k : Nat), (∀ e ∈ waits ops k, l e) → ∀ i ∈ waitsAll ops f k, l i
  | 0, k, hk, i, hi => by cases hi
  | f + 1, k, hk, i, hi => by
    rcases List.mem_append.1 hi with h | h
    · exact hk i h
    · obtain ⟨e, he, hi⟩ := List.mem_flatMap.1 h
      exact waitsAll_in hcl f e (hcl e (hk e he)) i hi
theorem waitsAll_lt {sz : Nat} (hok : FlowOk ops core sz) : ∀ (f k : Nat), k < ops.size → ∀ i ∈ waitsAll ops f k, i < k
  | 0, k, hk, i, hi => by cases hi
  | f + 1, k, hk, i, hi => by
    rcases List.mem_append.1 hi with h | h
    · exact hok.back k hk i h
    · obtain ⟨e, he, hi⟩ := List.mem_flatMap.1 h
      have h1 := hok.back k hk e he
      have h2 := waitsAll_lt hok f e (by omega) i hi
      omega
theorem dep_lt {sz : Nat} (hok : FlowOk ops core sz) {k i : Nat} (hk : k < ops.size) (h : depB ops k i = true) : i < k := waitsAll_lt hok _ k hk i (by simpa [depB] using h)
/-- A value that an operation k yields, which those do not see that do not wait for it. -/
theorem AV_upd {sz : Nat} (hok : FlowOk ops core sz) (a0 : Act) (vals vals' : Nat → Value) (e : Nat) (he : e < ops.size) (hce : core e = true) (hv : ∀ j, j < ops.size → core j = true → depB ops e j = true → vals' j = vals j) : ∀ t ∈ looks ops e, (AV ops core a0 vals').tmps[t]? = (AV ops core a0 vals).tmps[t]? := by
  intro t ht
  rw [AV_get, AV_get]
  congr 1
  unfold lookV
  cases hw : writer ops core t with
  | none => rfl
  | some j =>
    obtain ⟨h1, h2, h3⟩ := writer_spec hw
    simp only
    rw [hv j h1 h2 ((hok.ssa e j t he hce h1 h2 h3).2.1 ht)]
end
end Go.Proofs.YtbcagdjfegobnaaGreat
/- A region that draws its order, walked once in the order of the text: the walk and its soundness. -/
namespace Go.Proofs.YtbcagdjfegobnaaGreat
open Go.RowKit
set_option linter.unusedVariables false

section
variable (P : Program) (ops : Array Oper) (core ev : Nat → Bool) (C : World → Prop) (W : Nat → Act → Value → World → Prop) (R : World → World → Prop)
abbrev Fact := Nat × (World → Prop)
/-- The worlds in which operation k may come up: of the class, and all that it waits for has been told. -/
def cls (F : List Fact) (k : Nat) (w : World) : Prop := C w ∧ ∀ p ∈ F, depB ops k p.1 = true → p.2 w
/-- THE WALK in the order of the text. -/
def flowL (Fin : List Fact → Act → Prop) : List Nat → List Fact → Act → Prop
  | [], F, a => Fin F a
  | k :: ks, F, a => ∀ o, ops[k]? = some o →
    if Region.wanted o (yielded ops a.tmps) = true then
      (if ev k = true then (∀ w, cls ops C F k w → doesR P (fun v w' => W k a v w' ∧ C w' ∧ R w w') ((execOp a.eval o).run P w)) ∧ ∀ v, (∃ w, C w ∧ W k a v w) → flowL Fin ks ((k, W k a v) :: F) (a.put o.dst v)
       else ∃ v, (∀ w, cls ops C F k w → stillR w v ((execOp a.eval o).run P w)) ∧ (pu ops k = true → ∀ w, (execOp a.eval o).run P w = .ok (.value v) w) ∧ flowL Fin ks F (a.put o.dst v))
    else flowL Fin ks F (a.put o.dst undef)
/-- What is known in the midst of the region. -/
structure FInv (a0 : Act) (l : Array Bool) (vals : Nat → Value) (a : Act) (w : World) : Prop where
  hsz : l.size = ops.size
  sz : a.tmps.size = a0.tmps.size
  df : a.defers = a0.defers
  slot : ∀ t, (∀ j, j < ops.size → core j = true → l.getD j true = false → dstOf ops j ≠ some t) → a.tmps[t]? = (AV ops core a0 vals).tmps[t]?
  c : C w
  fact : ∀ k o, core k = true → l.getD k true = true → ops[k]? = some o → Region.wanted o (yielded ops (AV ops core a0 vals).tmps) = true → ev k = true → W k (AV ops core a0 vals) (vals k) w
  still : ∀ k o, core k = true → l.getD k true = true → ops[k]? = some o → Region.wanted o (yielded ops (AV ops core a0 vals).tmps) = true → ev k = false →
    ∃ wk, C wk ∧ (∀ e oe, core e = true → ops[e]? = some oe → Region.wanted oe (yielded ops (AV ops core a0 vals).tmps) = true → ev e = true → depB ops k e = true → W e (AV ops core a0 vals) (vals e) wk) ∧ stillR wk (vals k) ((execOp (AV ops core a0 vals).eval o).run P wk)
  skip : ∀ k o, core k = true → l.getD k true = true → ops[k]? = some o → Region.wanted o (yielded ops (AV ops core a0 vals).tmps) = false → vals k = undef
  closed : ∀ k, k < ops.size → l.getD k true = true → ∀ e ∈ waits ops k, l.getD e true = true
  tail : ∀ k, k < ops.size → core k = false → l.getD k true = false
/-- The walk has come to the operations suf. -/
structure FAt (a0 : Act) (l : Array Bool) (vals : Nat → Value) (w : World) (suf : List Nat) (vals' : Nat → Value) (w' : World) (F : List Fact) (A : Act) : Prop where
  same : ∀ k, core k = true → k < ops.size → l.getD k true = true → vals' k = vals k
  c : C w'
  sz : A.tmps.size = a0.tmps.size
  df : A.defers = a0.defers
  slot : ∀ t, (∀ j ∈ suf, dstOf ops j ≠ some t) → A.tmps[t]? = (AV ops core a0 vals').tmps[t]?
  now : ∀ p ∈ F, p.2 w'
  form : ∀ p ∈ F, ∃ o Ae, p.1 < ops.size ∧ core p.1 = true ∧ p.1 ∉ suf ∧ ops[p.1]? = some o ∧ ev p.1 = true ∧ Region.wanted o (yielded ops (AV ops core a0 vals').tmps) = true ∧ (∀ t ∈ looks ops p.1, Ae.tmps[t]? = (AV ops core a0 vals').tmps[t]?) ∧ p.2 = W p.1 Ae (vals' p.1)
end
section
variable {P : Program} {ops : Array Oper} {core ev : Nat → Bool} {C : World → Prop} {W : Nat → Act → Value → World → Prop}
theorem listed_cl {l : Array Bool} (hcl : ∀ k, k < ops.size → l.getD k true = true → ∀ e ∈ waits ops k, l.getD e true = true) {sz : Nat} (hok : FlowOk ops core sz) {k i : Nat} (hk : k < ops.size) (hw : ∀ e ∈ waits ops k, l.getD e true = true) (h : depB ops k i = true) : l.getD i true = true := by
  have h1 := waitsAll_in (ops := ops) (l := fun k => k < ops.size ∧ l.getD k true = true) (fun k hk e he => ⟨by have := hok.back k hk.1 e he; omega, hcl k hk.1 hk.2 e he⟩) ops.size k (fun e he => ⟨by have := hok.back k hk e he; omega, hw e he⟩) i (by simpa [depB] using h)
  exact h1.2
/-- The slots that an operation looks at, behind the walk's beginning up to it. -/
theorem at_looks {a0 A : Act} {vals' : Nat → Value} {sz : Nat} (hok : FlowOk ops core sz) {k : Nat} {ks : List Nat} (hk : k < ops.size) (hc : core k = true) (hsuf : ∀ j ∈ k :: ks, k ≤ j ∧ j < ops.size ∧ core j = true)
    (hslot : ∀ t, (∀ j ∈ k :: ks, dstOf ops j ≠ some t) → A.tmps[t]? = (AV ops core a0 vals').tmps[t]?) : ∀ t ∈ looks ops k, A.tmps[t]? = (AV ops core a0 vals').tmps[t]? := fun t ht => hslot t fun j hj e => by
  obtain ⟨h1, h2, h3⟩ := hsuf j hj
  have := dep_lt hok hk ((hok.ssa k j t hk hc h2 h3 e).2.1 ht)
  omega
/-- One value more. -/
def updV (vals : Nat → Value) (k : Nat) (v : Value) : Nat → Value := fun i => if i = k then v else vals i
theorem updV_self (vals : Nat → Value) (k : Nat) (v : Value) : updV vals k v k = v := by simp [updV]
theorem updV_ne (vals : Nat → Value) {k i : Nat} (v : Value) (h : i ≠ k) : updV vals k v i = vals i := by simp [updV, h]
theorem put_slot {a0 A : Act} {vals' : Nat → Value} {sz : Nat} (hok : FlowOk ops core sz) (hsz : sz = a0.tmps.size) (hA : A.tmps.size = a0.tmps.size) {k : Nat} {ks : List Nat} {o : Oper} (ho : ops[k]? = some o) (hc : core k = true) (hks : ∀ j ∈ ks, j ≠ k) (v : Value)
    (hslot : ∀ t, (∀ j ∈ k :: ks, dstOf ops j ≠ some t) → A.tmps[t]? = (AV ops core a0 vals').tmps[t]?) : ∀ t, (∀ j ∈ ks, dstOf ops j ≠ some t) → (A.put o.dst v).tmps[t]? = (AV ops core a0 (updV vals' k v)).tmps[t]? := by
  intro t ht
  have hk : k < ops.size := (Array.getElem?_eq_some_iff.1 ho).1
  have hdst : dstOf ops k = o.dst := by simp [dstOf, ho]
  by_cases hd : o.dst = some t
  · have h1 := hok.ssa k k t hk hc hk hc (hdst.trans hd)
    rw [AV_get, if_pos (by rw [← hsz]; exact h1.1), hd]
    have hw := writer_of hok hk hc (hdst.trans hd)
    simp [Act.put, lookV, hw, updV, hA, ← hsz, h1.1]
  · have e : (A.put o.dst v).tmps[t]? = A.tmps[t]? := by
      cases hx : o.dst with
      | none => rfl
      | some d =>
        have hne : d ≠ t := fun e => hd (by rw [hx, e])
        simp [Act.put, Array.getElem?_setIfInBounds_ne hne]
    rw [e, hslot t (fun j hj => by
      rcases List.mem_cons.1 hj with rfl | hj
      · rw [hdst]; exact hd
      · exact ht j hj), AV_get, AV_get]
    congr 1
    unfold lookV
    cases hw : writer ops core t with
    | none => rfl
    | some j =>
      have hjk : j ≠ k := fun e => by
        have := (writer_spec hw).2.2
        rw [e, hdst] at this
        exact hd this
      simp [updV, hjk]
end
end Go.Proofs.YtbcagdjfegobnaaGreat
/- A region that draws its order, walked once: from what is known in its midst the walk comes to every operation. -/
namespace Go.Proofs.YtbcagdjfegobnaaGreat
open Go.RowKit
set_option linter.unusedVariables false

section
variable {P : Program} {ops : Array Oper} {core ev : Nat → Bool} {C : World → Prop} {W : Nat → Act → Value → World → Prop} {R : World → World → Prop}
/-- What the class and what is told are asked. -/
structure FStay (ops : Array Oper) (C : World → Prop) (W : Nat → Act → Value → World → Prop) (R : World → World → Prop) : Prop where
  r0 : ∀ w, R w w
  r2 : ∀ a b c, R a b → R b c → R a c
  c : ∀ w w', C w → R w w' → C w'
  w : ∀ k a v w w', W k a v w → R w w' → W k a v w'
  a : ∀ k a b v w, (∀ t ∈ looks ops k, a.tmps[t]? = b.tmps[t]?) → W k a v w → W k b v w
theorem core_sorted {pre suf : List Nat} {k : Nat} (h : (List.range ops.size).filter core = pre ++ k :: suf) : k < ops.size ∧ core k = true ∧ (∀ j ∈ pre, j < k ∧ j < ops.size ∧ core j = true) ∧ (∀ j ∈ suf, k < j ∧ j < ops.size ∧ core j = true) := by
  have hm : ∀ j, j ∈ pre ++ k :: suf → j < ops.size ∧ core j = true := fun j hj => by
    rw [← h] at hj; simpa using hj
  have hp : (pre ++ k :: suf).Pairwise (· < ·) := by
    rw [← h]; exact List.Pairwise.filter _ List.pairwise_lt_range
  rw [List.pairwise_append] at hp
  obtain ⟨h1, h2, h3⟩ := hp
  refine ⟨(hm k (by simp)).1, (hm k (by simp)).2, fun j hj => ⟨h3 j hj k (by simp), (hm j (by simp [hj])).1, (hm j (by simp [hj])).2⟩, fun j hj => ⟨(List.pairwise_cons.1 h2).1 j hj, (hm j (by simp [hj])).1, (hm j (by simp [hj])).2⟩⟩

theorem flow_next {sz : Nat} (hok : FlowOk ops core sz) (hst : FStay ops C W R) {a0 : Act} (hsz : sz = a0.tmps.size) {l : Array Bool} {vals : Nat → Value} {w : World} {pre suf : List Nat} {k : Nat} {o : Oper} (hl : (List.range ops.size).filter core = pre ++ k :: suf) (ho : ops[k]? = some o)
    {vals' : Nat → Value} {w' w'' : World} {F F' : List Fact} {A : Act} (h : FAt ops core ev C W a0 l vals w (k :: suf) vals' w' F A) (v : Value) (hv : l.getD k true = true → v = vals k) (hb : R w' w'') (hc : C w'')
    (hF : F' = F ∨ F' = (k, W k A v) :: F ∧ ev k = true ∧ Region.wanted o (yielded ops A.tmps) = true ∧ W k A v w'') : FAt ops core ev C W a0 l vals w suf (updV vals' k v) w'' F' (A.put o.dst v) := by
  obtain ⟨hk, hck, hpre, hsuf⟩ := core_sorted hl
  have hlk := at_looks hok hk hck (fun j hj => by
    rcases List.mem_cons.1 hj with rfl | hj
    · exact ⟨Nat.le_refl _, hk, hck⟩
    · exact ⟨Nat.le_of_lt (hsuf j hj).1, (hsuf j hj).2⟩) h.slot
  have hup : ∀ e, e < ops.size → core e = true → e ≤ k → ∀ t ∈ looks ops e, (AV ops core a0 (updV vals' k v)).tmps[t]? = (AV ops core a0 vals').tmps[t]? := fun e he hce hek => AV_upd hok a0 vals' _ e he hce fun j hj hcj hd => updV_ne _ _ (by have := dep_lt hok he hd; omega)
  have hold : ∀ p ∈ F, ∃ o Ae, p.1 < ops.size ∧ core p.1 = true ∧ p.1 ∉ suf ∧ ops[p.1]? = some o ∧ ev p.1 = true ∧ Region.wanted o (yielded ops (AV ops core a0 (updV vals' k v)).tmps) = true ∧ (∀ t ∈ looks ops p.1, Ae.tmps[t]? = (AV ops core a0 (updV vals' k v)).tmps[t]?) ∧ p.2 = W p.1 Ae (updV vals' k v p.1) := fun p hp => by
    obtain ⟨o', Ae, h1, h2, h3, h4, h5, h6, h7, h8⟩ := h.form p hp
    have hin : p.1 ∈ pre ++ k :: suf := by rw [← hl]; simp [h1, h2]
    have hpk : p.1 < k := by
      rcases List.mem_append.1 hin with hin | hin
      · exact (hpre _ hin).1
      · exact absurd hin h3
    have hu := hup p.1 h1 h2 (Nat.le_of_lt hpk)
    refine ⟨o', Ae, h1, h2, fun hm => h3 (by simp [hm]), h4, h5, ?_, fun t ht => (h7 t ht).trans (hu t ht).symm, by rw [updV_ne _ _ (by omega)]; exact h8⟩
    rw [agree_wanted h4 hu]; exact h6
  refine ⟨fun i hci hi hli => ?_, hc, ?_, ?_, put_slot hok hsz h.sz ho hck (fun j hj => by have := (hsuf j hj).1; omega) v h.slot, ?_, ?_⟩
  · by_cases e : i = k
    · subst e; rw [updV_self]; exact hv hli
    · rw [updV_ne _ _ e]; exact h.same i hci hi hli
  · cases hd : o.dst with
    | none => exact h.sz
    | some d => simp [Act.put, h.sz]
  · cases hd : o.dst with
    | none => exact h.df
    | some d => simp [Act.put, h.df]
  · intro p hp
    have hn : ∀ p ∈ F, p.2 w'' := fun p hp => by
      obtain ⟨o', Ae, _, _, _, _, _, _, _, h8⟩ := h.form p hp
      have := h.now p hp
      rw [h8] at this ⊢
      exact hst.w _ _ _ _ _ this hb
    rcases hF with rfl | ⟨rfl, _, _, h4⟩
    · exact hn p hp
    · rcases List.mem_cons.1 hp with rfl | hp
      · exact h4
      · exact hn p hp
  · intro p hp
    rcases hF with rfl | ⟨rfl, h2, h3, h4⟩
    · exact hold p hp
    · rcases List.mem_cons.1 hp with rfl | hp
      · refine ⟨o, A, hk, hck, fun hm => absurd (hsuf k hm).1 (Nat.lt_irrefl _), ho, h2, ?_, fun t ht => (hlk t ht).trans (hup k hk hck (Nat.le_refl _) t ht).symm, by rw [updV_self]⟩
        rw [← agree_wanted ho (fun t ht => (hlk t ht).trans (hup k hk hck (Nat.le_refl _) t ht).symm)]; exact h3
      · exact hold p hp
end
end Go.Proofs.YtbcagdjfegobnaaGreat
/- A region that draws its order, walked once in the order of the text: the theorem. -/
namespace Go.Proofs.YtbcagdjfegobnaaGreat
open Go.RowKit
set_option linter.unusedVariables false

section
variable {P : Program} {ops : Array Oper} {core ev : Nat → Bool} {C : World → Prop} {W : Nat → Act → Value → World → Prop} {R : World → World → Prop}
/-- The walk comes to every operation, whatever has come up already. -/
theorem flow_walk {sz : Nat} (hok : FlowOk ops core sz) (hst : FStay ops C W R) {a0 : Act} (hsz : sz = a0.tmps.size) {l : Array Bool} {vals : Nat → Value} {a : Act} {w : World} (hI : FInv P ops core ev C W a0 l vals a w) {Fin : List Fact → Act → Prop}
    (hfl : flowL P ops ev C W R Fin ((List.range ops.size).filter core) [] a0) : ∀ (m : Nat) (pre suf : List Nat), pre.length = m → (List.range ops.size).filter core = pre ++ suf → ∃ vals' w' F A, FAt ops core ev C W a0 l vals w suf vals' w' F A ∧ flowL P ops ev C W R Fin suf F A ∧ R w w'
  | 0, pre, suf, hm, hl => by
    obtain rfl := List.eq_nil_of_length_eq_zero hm
    rw [List.nil_append] at hl
    refine ⟨vals, w, [], a0, ⟨fun _ _ _ _ => rfl, hI.c, rfl, rfl, fun t ht => ?_, fun p hp => (by cases hp), fun p hp => (by cases hp)⟩, by rw [← hl]; exact hfl, hst.r0 _⟩
    rw [AV_get]
    have hw : writer ops core t = none := by
      cases hw : writer ops core t with
      | none => rfl
      | some j =>
        obtain ⟨h1, h2, h3⟩ := writer_spec hw
        exact absurd h3 (ht j (by rw [← hl]; simp [h1, h2]))
    by_cases h : t < a0.tmps.size
    · rw [if_pos h]; simp [lookV, hw, h]
    · rw [if_neg h]; exact Array.getElem?_eq_none (Nat.le_of_not_lt h)
  | m + 1, pre, suf, hm, hl => by
    obtain ⟨p, k, rfl⟩ : ∃ p k, pre = p ++ [k] := ⟨pre.dropLast, pre.getLast (by intro e; rw [e] at hm; cases hm), (List.dropLast_concat_getLast _).symm⟩
    have hl' : (List.range ops.size).filter core = p ++ k :: suf := by rw [hl]; simp
    obtain ⟨vals', w', F, A, hat, hf, hb⟩ := flow_walk hok hst hsz hI hfl m p (k :: suf) (by simpa using hm) hl'
    obtain ⟨hk, hck, hpre, hsuf⟩ := core_sorted hl'
    obtain ⟨o, ho⟩ : ∃ o, ops[k]? = some o := ⟨ops[k], by simp [hk]⟩
    have hf := hf o ho
    have hlk := at_looks hok hk hck (fun j hj => by
      rcases List.mem_cons.1 hj with rfl | hj
      · exact ⟨Nat.le_refl _, hk, hck⟩
      · exact ⟨Nat.le_of_lt (hsuf j hj).1, (hsuf j hj).2⟩) hat.slot
    -- what the values at hand and those in the midst have in common
    have hsm : ∀ e, e < ops.size → core e = true → l.getD e true = true → ∀ t ∈ looks ops e, (AV ops core a0 vals').tmps[t]? = (AV ops core a0 vals).tmps[t]? := fun e he hce hle => AV_upd hok a0 vals vals' e he hce fun j hj hcj hd => hat.same j hcj hj (listed_cl hI.closed hok he (hI.closed e he hle) hd)
    by_cases hw : Region.wanted o (yielded ops A.tmps) = true
    · rw [if_pos hw] at hf
      by_cases he : ev k = true
      · rw [if_pos he] at hf
        obtain ⟨h1, h2⟩ := hf
        by_cases hlk2 : l.getD k true = true
        · have hAk : ∀ t ∈ looks ops k, A.tmps[t]? = (AV ops core a0 vals).tmps[t]? := fun t ht => (hlk t ht).trans (hsm k hk hck hlk2 t ht)
          have hwk : W k A (vals k) w' := hst.w _ _ _ _ _ (hst.a k _ _ _ _ (fun t ht => (hAk t ht).symm) (hI.fact k o hck hlk2 ho (by rw [← agree_wanted ho hAk]; exact hw) he)) hb
          exact ⟨_, w', _, _, flow_next hok hst hsz hl' ho hat (vals k) (fun _ => rfl) (hst.r0 _) hat.c (.inr ⟨rfl, he, hw, hwk⟩), h2 _ ⟨w', hat.c, hwk⟩, hb⟩
        · obtain ⟨v, w2, h3, h4, h5⟩ := (h1 w' ⟨hat.c, fun p hp _ => hat.now p hp⟩).some
          exact ⟨_, w2, _, _, flow_next hok hst hsz hl' ho hat v (fun h => absurd h hlk2) h5 h4 (.inr ⟨rfl, he, hw, h3⟩), h2 _ ⟨w2, h4, h3⟩, hst.r2 _ _ _ hb h5⟩
      · rw [if_neg he] at hf
        obtain ⟨v, h1, _, h2⟩ := hf
        refine ⟨_, w', F, _, flow_next hok hst hsz hl' ho hat v (fun hlk2 => ?_) (hst.r0 _) hat.c (.inl rfl), h2, hb⟩
        have hAk : ∀ t ∈ looks ops k, A.tmps[t]? = (AV ops core a0 vals).tmps[t]? := fun t ht => (hlk t ht).trans (hsm k hk hck hlk2 t ht)
        obtain ⟨wk, hc, hfk, hs⟩ := hI.still k o hck hlk2 ho (by rw [← agree_wanted ho hAk]; exact hw) (by simpa using he)
        have h3 := h1 wk ⟨hc, fun q hq hd => by
          obtain ⟨o', Ae, g1, g2, g3, g4, g5, g6, g7, g8⟩ := hat.form q hq
          have hlq := listed_cl hI.closed hok hk (hI.closed k hk hlk2) hd
          have hAq := hsm q.1 g1 g2 hlq
          rw [g8, hat.same q.1 g2 g1 hlq]
          exact hst.a _ _ _ _ _ (fun t ht => ((g7 t ht).trans (hAq t ht)).symm) (hfk q.1 o' g2 g4 (by rw [← agree_wanted g4 hAq]; exact g6) g5 hd)⟩
        rw [agree_exec ho (fun cs b => hok.sel k o cs b ho hck) hAk] at h3
        exact h3.one hs
    · rw [if_neg hw] at hf
      refine ⟨_, w', F, _, flow_next hok hst hsz hl' ho hat undef (fun hlk2 => ?_) (hst.r0 _) hat.c (.inl rfl), hf, hb⟩
      have hAk : ∀ t ∈ looks ops k, A.tmps[t]? = (AV ops core a0 vals).tmps[t]? := fun t ht => (hlk t ht).trans (hsm k hk hck hlk2 t ht)
      exact (hI.skip k o hck hlk2 ho (by rw [← agree_wanted ho hAk]; simpa using hw)).symm
end
end Go.Proofs.YtbcagdjfegobnaaGreat
/- A region that draws its order, walked once in the order of the text: one operation more; the theorem. -/
namespace Go.Proofs.YtbcagdjfegobnaaGreat
open Go.RowKit
set_option linter.unusedVariables false

section
variable {P : Program} {ops : Array Oper} {core ev : Nat → Bool} {C : World → Prop} {W : Nat → Act → Value → World → Prop} {R : World → World → Prop}
theorem getD_set_self {l : Array Bool} {i n : Nat} (hi : i < n) (hl : l.size = n) : (l.setIfInBounds i true).getD i true = true := by
  simp [hl, hi]
theorem getD_set_other {l : Array Bool} {i k : Nat} (h : k ≠ i) : (l.setIfInBounds i true).getD k true = l.getD k true := by
  simp [Array.getElem?_setIfInBounds_ne (Ne.symm h)]
theorem flow_step {sz : Nat} (hok : FlowOk ops core sz) (hst : FStay ops C W R) {a0 : Act} (hsz : sz = a0.tmps.size) {l : Array Bool} {vals : Nat → Value} {a : Act} {w w' : World} (hI : FInv P ops core ev C W a0 l vals a w) {i : Nat} {o : Oper} (ho : ops[i]? = some o) (hci : core i = true) (hun : l.getD i true = false)
    (hdep : ∀ e ∈ waits ops i, l.getD e true = true) (v : Value) (hb : R w w') (hc : C w')
    (hev : Region.wanted o (yielded ops (AV ops core a0 vals).tmps) = true → ev i = true → W i (AV ops core a0 vals) v w')
    (hsv : Region.wanted o (yielded ops (AV ops core a0 vals).tmps) = true → ev i = false → stillR w v ((execOp (AV ops core a0 vals).eval o).run P w))
    (hnw : Region.wanted o (yielded ops (AV ops core a0 vals).tmps) = false → v = undef) : FInv P ops core ev C W a0 (l.setIfInBounds i true) (updV vals i v) (a.put o.dst v) w' := by
  have hi : i < ops.size := (Array.getElem?_eq_some_iff.1 ho).1
  have hdst : dstOf ops i = o.dst := by simp [dstOf, ho]
  have hdl : ∀ j, depB ops i j = true → l.getD j true = true := fun j hj => listed_cl hI.closed hok hi hdep hj
  -- those that are listed, and i itself, see no difference
  have hup : ∀ e, e < ops.size → core e = true → (l.getD e true = true ∨ e = i) → ∀ t ∈ looks ops e, (AV ops core a0 (updV vals i v)).tmps[t]? = (AV ops core a0 vals).tmps[t]? := fun e he hce hle => AV_upd hok a0 vals _ e he hce fun j hj hcj hd => updV_ne _ _ fun hji => by
    subst hji
    have : l.getD j true = true := by
      rcases hle with h | rfl
      · exact listed_cl hI.closed hok he (hI.closed e he h) hd
      · exact hdl _ hd
    rw [hun] at this; cases this
  have hcase : ∀ k, (l.setIfInBounds i true).getD k true = true → k = i ∨ l.getD k true = true := fun k hk => by
    by_cases e : k = i
    · exact .inl e
    · rw [getD_set_other e] at hk; exact .inr hk
  have hne : ∀ k, l.getD k true = true → k ≠ i := fun k hk e => by rw [e, hun] at hk; cases hk
  have hsize : ∀ {k o'}, ops[k]? = some o' → k < ops.size := fun h => (Array.getElem?_eq_some_iff.1 h).1
  refine ⟨by simp [hI.hsz], ?_, ?_, ?_, hc, ?_, ?_, ?_, ?_, ?_⟩
  · cases hd : o.dst with
    | none => exact hI.sz
    | some d => simp [Act.put, hI.sz]
  · cases hd : o.dst with
    | none => exact hI.df
    | some d => simp [Act.put, hI.df]
  · intro t ht
    by_cases hd : o.dst = some t
    · have h1 := hok.ssa i i t hi hci hi hci (hdst.trans hd)
      rw [AV_get, if_pos (by rw [← hsz]; exact h1.1), hd]
      have hw := writer_of hok hi hci (hdst.trans hd)
      simp [Act.put, lookV, hw, updV, hI.sz, ← hsz, h1.1]
    · have e : (a.put o.dst v).tmps[t]? = a.tmps[t]? := by
        cases hx : o.dst with
        | none => rfl
        | some d =>
          have hne : d ≠ t := fun e => hd (by rw [hx, e])
          simp [Act.put, Array.getElem?_setIfInBounds_ne hne]
      rw [e, hI.slot t (fun j hj hcj hlj => by
        by_cases e : j = i
        · rw [e, hdst]; exact hd
        · exact ht j hj hcj (by rw [getD_set_other e]; exact hlj)), AV_get, AV_get]
      congr 1
      unfold lookV
      cases hw : writer ops core t with
      | none => rfl
      | some j =>
        have hjk : j ≠ i := fun e => by
          have := (writer_spec hw).2.2
          rw [e, hdst] at this
          exact hd this
        simp [updV, hjk]
  · intro k o' hck hlk ho' hw he
    rcases hcase k hlk with rfl | hlk
    · obtain rfl : o = o' := Option.some.inj (ho.symm.trans ho')
      have hu := hup k hi hci (.inr rfl)
      rw [updV_self]
      exact hst.a k _ _ _ _ (fun t ht => (hu t ht).symm) (hev (by rw [← agree_wanted ho hu]; exact hw) he)
    · have hu := hup k (hsize ho') hck (.inl hlk)
      rw [updV_ne _ _ (hne k hlk)]
      exact hst.a k _ _ _ _ (fun t ht => (hu t ht).symm) (hst.w _ _ _ _ _ (hI.fact k o' hck hlk ho' (by rw [← agree_wanted ho' hu]; exact hw) he) hb)
  · intro k o' hck hlk ho' hw he
    have hfe : ∀ e, e < ops.size → core e = true → l.getD e true = true → ∀ wk, W e (AV ops core a0 vals) (vals e) wk → W e (AV ops core a0 (updV vals i v)) (updV vals i v e) wk := fun e hes hce hle wk h => by
      rw [updV_ne _ _ (hne e hle)]
      exact hst.a e _ _ _ _ (fun t ht => (hup e hes hce (.inl hle) t ht).symm) h
    rcases hcase k hlk with rfl | hlk
    · obtain rfl : o = o' := Option.some.inj (ho.symm.trans ho')
      have hu := hup k hi hci (.inr rfl)
      refine ⟨w, hI.c, fun e oe hce hoe hwe hee hd => ?_, ?_⟩
      · have hle := hdl e hd
        have hue := hup e (hsize hoe) hce (.inl hle)
        exact hfe e (hsize hoe) hce hle w (hI.fact e oe hce hle hoe (by rw [← agree_wanted hoe hue]; exact hwe) hee)
      · rw [updV_self, agree_exec ho (fun cs b => hok.sel k o cs b ho hci) hu]
        exact hsv (by rw [← agree_wanted ho hu]; exact hw) he
    · have hks := hsize ho'
      have hu := hup k hks hck (.inl hlk)
      obtain ⟨wk, h1, h2, h3⟩ := hI.still k o' hck hlk ho' (by rw [← agree_wanted ho' hu]; exact hw) he
      refine ⟨wk, h1, fun e oe hce hoe hwe hee hd => ?_, ?_⟩
      · have hle := listed_cl hI.closed hok hks (hI.closed k hks hlk) hd
        have hue := hup e (hsize hoe) hce (.inl hle)
        exact hfe e (hsize hoe) hce hle wk (h2 e oe hce hoe (by rw [← agree_wanted hoe hue]; exact hwe) hee hd)
      · rw [updV_ne _ _ (hne k hlk), agree_exec ho' (fun cs b => hok.sel k o' cs b ho' hck) hu]
        exact h3
  · intro k o' hck hlk ho' hw
    rcases hcase k hlk with rfl | hlk
    · obtain rfl : o = o' := Option.some.inj (ho.symm.trans ho')
      rw [updV_self]
      exact hnw (by rw [← agree_wanted ho (hup k hi hci (.inr rfl))]; exact hw)
    · rw [updV_ne _ _ (hne k hlk)]
      exact hI.skip k o' hck hlk ho' (by rw [← agree_wanted ho' (hup k (hsize ho') hck (.inl hlk))]; exact hw)
  · intro k hk hlk e he
    have h1 : l.getD e true = true := by
      rcases hcase k hlk with rfl | hlk
      · exact hdep e he
      · exact hI.closed k hk hlk e he
    rw [getD_set_other (hne e h1)]; exact h1
  · intro k hk hck
    have hki : k ≠ i := fun e => by rw [e, hci] at hck; cases hck
    rw [getD_set_other hki]; exact hI.tail k hk hck
end
end Go.Proofs.YtbcagdjfegobnaaGreat
/- A region that draws its order, walked once in the order of the text: whatever order is drawn. -/
namespace Go.Proofs.YtbcagdjfegobnaaGreat
open Go.RowKit
set_option linter.unusedVariables false

section
variable {P : Program} {ops : Array Oper} {core ev : Nat → Bool} {C : World → Prop} {W : Nat → Act → Value → World → Prop} {R : World → World → Prop} {Q : Exit → Act → World → Prop}
def coreL (ops : Array Oper) (core : Nat → Bool) : List Nat := (List.range ops.size).filter core
/-- What stands behind the core. -/
def flowFin (P : Program) (ops : Array Oper) (core : Nat → Bool) (C : World → Prop) (Q : Exit → Act → World → Prop) (F : List Fact) (a : Act) : Prop :=
  ∀ w, C w → (∀ p ∈ F, p.2 w) → wpAny P .any ops Q (ops.size - (coreL ops core).length) ((List.range ops.size).map core).toArray a w
/-- How many of the core have not come up. -/
def left_ (ops : Array Oper) (core : Nat → Bool) (l : Array Bool) : Nat := ((coreL ops core).filter fun k => !l.getD k true).length
theorem left_zero {l : Array Bool} (h : left_ ops core l = 0) : ∀ k, k < ops.size → core k = true → l.getD k true = true := fun k hk hc => by
  unfold left_ at h
  have h1 := List.eq_nil_of_length_eq_zero h
  rw [List.filter_eq_nil_iff] at h1
  have := h1 k (by simp [coreL, hk, hc])
  simpa using this
theorem nodup_coreL : (coreL ops core).Nodup := List.Pairwise.filter _ List.nodup_range
theorem left_succ {l : Array Bool} (hsz : l.size = ops.size) {i : Nat} (hi : i < ops.size) (hc : core i = true) (hun : l.getD i true = false) : left_ ops core (l.setIfInBounds i true) + 1 = left_ ops core l := by
  unfold left_
  have hm : i ∈ coreL ops core := by simp [coreL, hi, hc]
  have key : ∀ (L : List Nat), L.Nodup → i ∈ L → (L.filter fun k => !(l.setIfInBounds i true).getD k true).length + 1 = (L.filter fun k => !l.getD k true).length := by
    intro L
    induction L with
    | nil => intro _ h; cases h
    | cons k L ih =>
      intro hnd hmem
      rw [List.nodup_cons] at hnd
      by_cases e : k = i
      · subst e
        have h1 : (L.filter fun j => !(l.setIfInBounds k true).getD j true) = L.filter fun j => !l.getD j true := List.filter_congr fun j hj => by
          have hjk : j ≠ k := fun e => hnd.1 (by rw [← e]; exact hj)
          rw [getD_set_other hjk]
        rw [List.filter_cons, List.filter_cons, h1]
        simp only [getD_set_self hi hsz, hun, Bool.not_true, Bool.not_false, Bool.false_eq_true, if_false, if_true, List.length_cons]
      · have hmem : i ∈ L := by
          rcases List.mem_cons.1 hmem with h | h
          · exact absurd h.symm e
          · exact h
        have := ih hnd.2 hmem
        rw [List.filter_cons, List.filter_cons, getD_set_other e]
        split
        · simp only [List.length_cons]; omega
        · exact this
  exact key _ nodup_coreL hm
theorem waits_ready {l : Array Bool} {i : Nat} {o : Oper} (ho : ops[i]? = some o) : (∀ e ∈ o.after, Region.binds .any e = true → l.getD e.on false = true) → ∀ e ∈ waits ops i, l.getD e true = true := by
  intro h e he
  unfold waits at he
  rw [ho] at he
  simp only [List.mem_map, List.mem_filter] at he
  obtain ⟨x, ⟨hx, hb⟩, rfl⟩ := he
  have h1 := h x (by simpa using hx) hb
  rcases Nat.lt_or_ge x.on l.size with hlt | hge
  · simp [hlt] at h1 ⊢; exact h1
  · simp [Array.getElem?_eq_none hge] at h1
theorem ready_waits {l : Array Bool} (hsz : l.size = ops.size) {i : Nat} {o : Oper} (ho : ops[i]? = some o) (hb : ∀ e ∈ waits ops i, e < ops.size ∧ l.getD e true = true) (hun : l.getD i true = false) : i ∈ Region.ready .any ops l := by
  rw [mem_ready]
  refine ⟨hun, o, ho, fun e he hbi => ?_⟩
  have hm : e.on ∈ waits ops i := by
    unfold waits
    rw [ho]
    simp only [List.mem_map, List.mem_filter]
    exact ⟨e, ⟨by simpa using he, hbi⟩, rfl⟩
  obtain ⟨h1, h2⟩ := hb _ hm
  simp [hsz, h1] at h2 ⊢
  exact h2

theorem pure_ok (h : pureB ops core ev = true) : (∀ (j : Nat) (o : Oper) cs b, ops[j]? = some o → o.op ≠ .select cs b) ∧ ∀ j, j < ops.size → core j = true → pu ops j = true → ev j = false ∧ ∀ i oi oj, ops[i]? = some oi → ops[j]? = some oj → i ≠ j → j ∉ waits ops i → depB ops j i = false → oj.apart ops oi = true := by
  unfold pureB at h
  rw [Bool.and_eq_true] at h
  refine ⟨Region.noSelect_spec h.1, fun j hj hc hp => ?_⟩
  have := List.all_eq_true.1 h.2 j (List.mem_range.2 hj)
  simp only [hc, hp, Bool.and_self, Bool.not_true, Bool.false_or, Bool.and_eq_true] at this
  refine ⟨by simpa using this.1, fun i oi oj hi hoj hne hw hdp => ?_⟩
  have h2 := List.all_eq_true.1 this.2 i (List.mem_range.2 (Array.getElem?_eq_some_iff.1 hi).1)
  have h3 : (i == j) = false := by simpa using hne
  simpa [h3, hw, hi, hoj, hdp] using h2

theorem flow_all {sz : Nat} (hok : FlowOk ops core sz) (hpu : pureB ops core ev = true) (hQ : ∀ c a d v w, Q (.panic c) (a.put (some d) v) w → Q (.panic c) a w) (hst : FStay ops C W R) {a0 : Act} (hsz : sz = a0.tmps.size) (hfl : flowL P ops ev C W R (flowFin P ops core C Q) (coreL ops core) [] a0) :
    ∀ (n : Nat) (l : Array Bool) (vals : Nat → Value) (a : Act) (w : World), left_ ops core l = n → FInv P ops core ev C W a0 l vals a w → wpAny P .any ops Q (ops.size - (coreL ops core).length + n) l a w
  | 0, l, vals, a, w, hn, hI => by
    have hall := left_zero hn
    obtain ⟨vals', w', F, A, hat, hf, hb⟩ := flow_walk hok hst hsz hI hfl _ (coreL ops core) [] rfl (by rw [List.append_nil]; rfl)
    have hv : ∀ t, (AV ops core a0 vals').tmps[t]? = (AV ops core a0 vals).tmps[t]? := fun t => by
      rw [AV_get, AV_get]
      congr 1
      unfold lookV
      cases hw : writer ops core t with
      | none => rfl
      | some j =>
        obtain ⟨h1, h2, _⟩ := writer_spec hw
        simp only
        rw [hat.same j h2 h1 (hall j h1 h2)]
    have hA : A = a := by
      have h1 : A.tmps = a.tmps := Array.ext_getElem? fun t => by
        rw [hat.slot t (fun j hj => by cases hj), hv t, hI.slot t (fun j hj hc hl => by rw [hall j hj hc] at hl; cases hl)]
      have h2 : A.defers = a.defers := hat.df.trans hI.df.symm
      cases A; cases a; simp only at h1 h2; rw [h1, h2]
    have hl : l = ((List.range ops.size).map core).toArray := by
      apply Array.ext_getElem?
      intro k
      by_cases hk : k < ops.size
      · have h1 : l.getD k true = core k := by
          cases hc : core k with
          | true => exact hall k hk hc
          | false => exact hI.tail k hk hc
        have h2 : k < l.size := by rw [hI.hsz]; exact hk
        simp [h2] at h1
        simp [h2, hk, h1]
      · rw [Array.getElem?_eq_none (by rw [hI.hsz]; omega), Array.getElem?_eq_none (by simp; omega)]
    rw [hA] at hf
    rw [hl]
    refine hf w hI.c fun p hp => ?_
    obtain ⟨o', Ae, g1, g2, g3, g4, g5, g6, g7, g8⟩ := hat.form p hp
    rw [g8, hat.same p.1 g2 g1 (hall _ g1 g2)]
    have hAe : ∀ t ∈ looks ops p.1, Ae.tmps[t]? = (AV ops core a0 vals).tmps[t]? := fun t ht => (g7 t ht).trans (hv t)
    exact hst.a _ _ _ _ _ (fun t ht => (hAe t ht).symm) (hI.fact p.1 o' g2 (hall _ g1 g2) g4 (by rw [← agree_wanted g4 (fun t _ => hv t)]; exact g6) g5)
  | n + 1, l, vals, a, w, hn, hI => by
    rw [← Nat.add_assoc]
    obtain ⟨hsel, hpu'⟩ := pure_ok hpu
    have hnil : Region.ready .any ops l ≠ [] := by
      intro hr
      have hall : ∀ k, k < ops.size → core k = true → l.getD k true = true := by
        intro k
        induction k using Nat.strongRecOn with
        | _ k ih =>
          intro hk hc
          cases hl : l.getD k true with
          | true => rfl
          | false =>
            exfalso
            have hm := ready_waits hI.hsz (o := ops[k]) (by simp [hk]) (fun e he => ⟨by have := hok.back k hk e he; omega, ih e (hok.back k hk e he) (by have := hok.back k hk e he; omega) (hok.cl k hk hc e he)⟩) hl
            rw [hr] at hm
            cases hm
      have h0 : left_ ops core l = 0 := by
        unfold left_
        rw [List.length_eq_zero_iff, List.filter_eq_nil_iff]
        intro k hk
        simp only [coreL, List.mem_filter, List.mem_range] at hk
        simp [hall k hk.1 hk.2]
      omega
    -- what an operation of the core that may come up does
    have hdo : ∀ i o, ops[i]? = some o → core i = true → l.getD i true = false → (∀ e ∈ waits ops i, l.getD e true = true) →
        (Region.wanted o (yielded ops a.tmps) = true → ev i = true → doesR P (fun v w' => wpAny P .any ops Q (ops.size - (coreL ops core).length + n) (l.setIfInBounds i true) (a.put o.dst v) w') ((execOp a.eval o).run P w)) ∧
        (Region.wanted o (yielded ops a.tmps) = true → ev i = false → ∃ v, stillR w v ((execOp a.eval o).run P w) ∧ (pu ops i = true → ∀ w', (execOp a.eval o).run P w' = .ok (.value v) w') ∧ wpAny P .any ops Q (ops.size - (coreL ops core).length + n) (l.setIfInBounds i true) (a.put o.dst v) w) ∧
        (Region.wanted o (yielded ops a.tmps) = false → wpAny P .any ops Q (ops.size - (coreL ops core).length + n) (l.setIfInBounds i true) (a.put o.dst undef) w) := by
      intro i o ho hci hun hdep
      have his : i < ops.size := (Array.getElem?_eq_some_iff.1 ho).1
      obtain ⟨pre, suf, hl⟩ := List.append_of_mem (show i ∈ coreL ops core by simp [coreL, his, hci])
      obtain ⟨vals', w', F, A, hat, hf, hb⟩ := flow_walk hok hst hsz hI hfl _ pre (i :: suf) rfl hl
      obtain ⟨_, _, hpre, hsuf⟩ := core_sorted hl
      have hf := hf o ho
      have hdl : ∀ j, depB ops i j = true → l.getD j true = true := fun j hj => listed_cl hI.closed hok his hdep hj
      have hAk : ∀ t ∈ looks ops i, A.tmps[t]? = (AV ops core a0 vals).tmps[t]? := fun t ht =>
        (at_looks hok his hci (fun j hj => by
          rcases List.mem_cons.1 hj with rfl | hj
          · exact ⟨Nat.le_refl _, his, hci⟩
          · exact ⟨Nat.le_of_lt (hsuf j hj).1, (hsuf j hj).2⟩) hat.slot t ht).trans (AV_upd hok a0 vals vals' i his hci (fun j hj hcj hd => hat.same j hcj hj (hdl j hd)) t ht)
      have ha : ∀ t ∈ looks ops i, a.tmps[t]? = (AV ops core a0 vals).tmps[t]? := fun t ht => hI.slot t fun j hj hcj hlj e => by
        have := hdl j ((hok.ssa i j t his hci hj hcj e).2.1 ht)
        rw [this] at hlj; cases hlj
      have hex : execOp a.eval o = execOp (AV ops core a0 vals).eval o := agree_exec ho (fun cs b => hok.sel i o cs b ho hci) ha
      have hexA : execOp A.eval o = execOp (AV ops core a0 vals).eval o := agree_exec ho (fun cs b => hok.sel i o cs b ho hci) hAk
      have hwa := agree_wanted ho ha
      have hwA := agree_wanted ho hAk
      have hcls : cls ops C F i w := ⟨hI.c, fun p hp hd => by
        obtain ⟨o', Ae, g1, g2, g3, g4, g5, g6, g7, g8⟩ := hat.form p hp
        have hlp := hdl p.1 hd
        have hu := AV_upd hok a0 vals vals' p.1 g1 g2 (fun j hj hcj hd => hat.same j hcj hj (listed_cl hI.closed hok g1 (hI.closed p.1 g1 hlp) hd))
        rw [g8, hat.same p.1 g2 g1 hlp]
        exact hst.a _ _ _ _ _ (fun t ht => ((g7 t ht).trans (hu t ht)).symm) (hI.fact p.1 o' g2 hlp g4 (by rw [← agree_wanted g4 hu]; exact g6) g5)⟩
      have hgo : ∀ v w', R w w' → C w' → (Region.wanted o (yielded ops (AV ops core a0 vals).tmps) = true → ev i = true → W i (AV ops core a0 vals) v w') → (Region.wanted o (yielded ops (AV ops core a0 vals).tmps) = true → ev i = false → stillR w v ((execOp (AV ops core a0 vals).eval o).run P w)) →
          (Region.wanted o (yielded ops (AV ops core a0 vals).tmps) = false → v = undef) → wpAny P .any ops Q (ops.size - (coreL ops core).length + n) (l.setIfInBounds i true) (a.put o.dst v) w' := fun v w' h1 h2 h3 h4 h5 =>
        flow_all hok hpu hQ hst hsz hfl n _ _ _ _ (by have := left_succ hI.hsz his hci hun; omega) (flow_step hok hst hsz hI ho hci hun hdep v h1 h2 h3 h4 h5)
      refine ⟨fun hw he => ?_, fun hw he => ?_, fun hw => ?_⟩
      · have hwv : Region.wanted o (yielded ops (AV ops core a0 vals).tmps) = true := by rw [← hwa]; exact hw
        rw [if_pos (by rw [hwA]; exact hwv), if_pos he] at hf
        have h1 := hf.1 w hcls
        rw [hexA, ← hex] at h1
        exact h1.mono fun v w2 ⟨g1, g2, g3⟩ => hgo v w2 g3 g2 (fun _ _ => hst.a _ _ _ _ _ hAk g1) (fun _ h => by rw [he] at h; cases h) (fun h => by rw [hwv] at h; cases h)
      · have hwv : Region.wanted o (yielded ops (AV ops core a0 vals).tmps) = true := by rw [← hwa]; exact hw
        rw [if_pos (by rw [hwA]; exact hwv), if_neg (by simp [he])] at hf
        obtain ⟨v, h1, hpv, _⟩ := hf
        have h1 := h1 w hcls
        have h2 := h1
        rw [hexA, ← hex] at h1
        rw [hexA] at h2
        exact ⟨v, h1, fun hp w' => by have h3 := hpv hp w'; rw [hexA, ← hex] at h3; exact h3, hgo v w (hst.r0 _) hI.c (fun _ h => by rw [he] at h; cases h) (fun _ _ => h2) (fun h => by rw [hwv] at h; cases h)⟩
      · have hwv : Region.wanted o (yielded ops (AV ops core a0 vals).tmps) = false := by rw [← hwa]; exact hw
        exact hgo undef w (hst.r0 _) hI.c (fun h _ => by rw [hwv] at h; cases h) (fun h _ => by rw [hwv] at h; cases h) (fun _ => rfl)
    by_cases hex : ∃ i, i ∈ Region.ready .any ops l ∧ core i = true ∧ pu ops i = true
    · -- one that yields in whatever world is taken first
      obtain ⟨i, hi, hci, hpi⟩ := hex
      obtain ⟨hun, o, ho, hdp⟩ := mem_ready.1 hi
      have his : i < ops.size := (Array.getElem?_eq_some_iff.1 ho).1
      have hdep := waits_ready ho hdp
      obtain ⟨hei, hap⟩ := hpu' i his hci hpi
      have hpo : pureOp o = true := by simpa [pu, ho] using hpi
      have hQp : ∀ c (a : Act) v w, Q (.panic c) (a.put o.dst v) w → Q (.panic c) a w := fun c a v w h => by
        cases hd : o.dst with
        | none => rw [hd] at h; exact h
        | some d => rw [hd] at h; exact hQ c a d v w h
      obtain ⟨_, d2, d3⟩ := hdo i o ho hci hun hdep
      have hfree : ∀ j oj, ops[j]? = some oj → j ≠ i → l.getD j true = false → (∀ e ∈ oj.after, Region.binds .any e = true → e.on ≠ i) → o.apart ops oj = true := fun j oj hj hne hlj hno => hap j oj o hj ho hne (fun hm => by
        unfold waits at hm
        rw [hj] at hm
        simp only [List.mem_map, List.mem_filter] at hm
        obtain ⟨x, ⟨hx, hb⟩, hxi⟩ := hm
        exact hno x (by simpa using hx) hb hxi) (by
          cases hd : depB ops i j with
          | false => rfl
          | true =>
            have := listed_cl hI.closed hok his hdep hd
            rw [hlj] at this; cases this)
      cases hw : Region.wanted o (yielded ops a.tmps) with
      | true =>
        obtain ⟨v, h1, hpv, h2⟩ := d2 hw hei
        exact wpAny_first ho hsel (fun c a w h => hQp c a _ w h) _ l a w hfree hi (.inl ⟨hw, hpv hpi⟩) h2
      | false => exact wpAny_first ho hsel (fun c a w h => hQp c a _ w h) _ l a w hfree hi (.inr ⟨hw, rfl⟩) (d3 hw)
    · refine ⟨fun hr => absurd hr hnil, fun i hi => ?_⟩
      obtain ⟨hun, o, ho, hdp⟩ := mem_ready.1 hi
      have his : i < ops.size := (Array.getElem?_eq_some_iff.1 ho).1
      have hdep := waits_ready ho hdp
      have hci : core i = true := by
        cases hc : core i with
        | true => rfl
        | false =>
          exfalso
          have hall : ∀ k, k < ops.size → core k = true → l.getD k true = true := by
            intro k
            induction k using Nat.strongRecOn with
            | _ k ih =>
              intro hk hck
              cases hl : l.getD k true with
              | true => rfl
              | false =>
                exfalso
                rcases hok.last i k his hc hk hck with hd | hp
                · have := listed_cl hI.closed hok his hdep hd
                  rw [hl] at this; cases this
                · exact hex ⟨k, ready_waits hI.hsz (o := ops[k]) (by simp [hk]) (fun e he => ⟨by have := hok.back k hk e he; omega, ih e (hok.back k hk e he) (by have := hok.back k hk e he; omega) (hok.cl k hk hck e he)⟩) hl, hck, hp⟩
          have h0 : left_ ops core l = 0 := by
            unfold left_
            rw [List.length_eq_zero_iff, List.filter_eq_nil_iff]
            intro k hk
            simp only [coreL, List.mem_filter, List.mem_range] at hk
            simp [hall k hk.1 hk.2]
          omega
      obtain ⟨d1, d2, d3⟩ := hdo i o ho hci hun hdep
      refine wpOp_if ho ?_
      by_cases hw : Region.wanted o (yielded ops a.tmps) = true
      · rw [if_pos hw]
        cases he : ev i with
        | true => exact wp_of_does (d1 hw he) fun v w2 h => h
        | false => obtain ⟨v, h1, _, h2⟩ := d2 hw he; exact wp_of_still h1 h2
      · rw [if_neg hw]
        exact d3 (by simpa using hw)

/-- **A REGION THAT DRAWS ITS ORDER, WALKED ONCE**, in the order of the text; behind it what is left of it, its core having come up. -/
theorem wp_region_flow {id : Nat} {a : Act} {w : World} (hm : P.follows .mixedOrders = true) (core ev : Nat → Bool) (sz : Nat) (hB : flowB ops core sz = true) (hpu : pureB ops core ev = true) (hQ : ∀ c a d v w, Q (.panic c) (a.put (some d) v) w → Q (.panic c) a w) (hsz : a.tmps.size = sz) (C : World → Prop) (W : Nat → Act → Value → World → Prop)
    (hst : FStay ops C W R) (hC : C w.drew) (hfl : flowL P ops ev C W R (flowFin P ops core C Q) (coreL ops core) [] a) : (Code.region id ops true).wp P Q a w := by
  refine wp_region_any hm ?_
  have hc0 : ∀ k, (Array.replicate ops.size false).getD k true = true → ¬ k < ops.size := fun k hk h => by simp [h] at hk
  have hle : (coreL ops core).length ≤ ops.size := by
    have := List.length_filter_le core (List.range ops.size)
    simpa [coreL] using this
  have h := flow_all (flow_ok hB) hpu hQ hst hsz.symm hfl (coreL ops core).length (Array.replicate ops.size false) (fun _ => undef) a w.drew (by
    unfold left_
    congr 1
    rw [List.filter_eq_self]
    intro k hk
    simp only [coreL, List.mem_filter, List.mem_range] at hk
    simp [hk.1]) ⟨by simp, rfl, rfl, fun t ht => ?_, hC, fun k o hk hl ho => absurd (Array.getElem?_eq_some_iff.1 ho).1 (hc0 k hl), fun k o hk hl ho => absurd (Array.getElem?_eq_some_iff.1 ho).1 (hc0 k hl), fun k o hk hl ho => absurd (Array.getElem?_eq_some_iff.1 ho).1 (hc0 k hl), fun k hk hl => absurd hk (hc0 k hl), fun k hk _ => by simp [hk]⟩
  · rw [Nat.sub_add_cancel hle] at h
    exact h
  · rw [AV_get]
    have hw : writer ops core t = none := by
      cases hw : writer ops core t with
      | none => rfl
      | some j =>
        obtain ⟨h1, h2, h3⟩ := writer_spec hw
        exact absurd h3 (ht j h1 h2 (by simp [h1]))
    by_cases h : t < a.tmps.size
    · rw [if_pos h]; simp [lookV, hw, h]
    · rw [if_neg h]; exact Array.getElem?_eq_none (Nat.le_of_not_lt h)
end
end Go.Proofs.YtbcagdjfegobnaaGreat
/- A region that draws its order, walked once: the steps. -/
namespace Go.Proofs.YtbcagdjfegobnaaGreat
open Go.RowKit
set_option linter.unusedVariables false

section
variable {P : Program} {ops : Array Oper} {core ev : Nat → Bool} {C : World → Prop} {W : Nat → Act → Value → World → Prop} {R : World → World → Prop} {Q : Exit → Act → World → Prop} {Fin : List Fact → Act → Prop} {k : Nat} {ks : List Nat} {F : List Fact} {a : Act}
theorem wp_flowR {id : Nat} {a : Act} {w : World} (core ev : Nat → Bool) (sz : Nat) (ks : List Nat) (C : World → Prop) (W : Nat → Act → Value → World → Prop) (R : World → World → Prop) (hm : P.follows .mixedOrders = true) (hB : flowB ops core sz = true) (hpu : pureB ops core ev = true) (hks : coreL ops core = ks) (hQ : ∀ c a d v w, Q (.panic c) (a.put (some d) v) w → Q (.panic c) a w) (hsz : a.tmps.size = sz)
    (hst : FStay ops C W R) (hC : C w.drew) (hfl : flowL P ops ev C W R (flowFin P ops core C Q) ks [] a) : (Code.region id ops true).wp P Q a w :=
  wp_region_flow hm core ev sz hB hpu hQ hsz C W hst hC (by rw [hks]; exact hfl)
/-- What is asked where every step leaves the blocks that there are. -/
structure FStayB (ops : Array Oper) (C : World → Prop) (W : Nat → Act → Value → World → Prop) : Prop where
  c : ∀ w w', C w → Below w.heap.size w w' → C w'
  w : ∀ k a v w w', W k a v w → Below w.heap.size w w' → W k a v w'
  a : ∀ k a b v w, (∀ t ∈ looks ops k, a.tmps[t]? = b.tmps[t]?) → W k a v w → W k b v w
theorem FStayB.st (h : FStayB ops C W) : FStay ops C W (fun w w' => Below w.heap.size w w') := ⟨fun _ => Below.refl _ _, fun _ _ _ h k => h.trans (k.mono h.size), h.c, h.w, h.a⟩
theorem wp_flow {id : Nat} {a : Act} {w : World} (core ev : Nat → Bool) (sz : Nat) (ks : List Nat) (C : World → Prop) (W : Nat → Act → Value → World → Prop) (hm : P.follows .mixedOrders = true) (hB : flowB ops core sz = true) (hpu : pureB ops core ev = true) (hks : coreL ops core = ks) (hQ : ∀ c a d v w, Q (.panic c) (a.put (some d) v) w → Q (.panic c) a w) (hsz : a.tmps.size = sz)
    (hst : FStayB ops C W) (hC : C w.drew) (hfl : flowL P ops ev C W (fun w w' => Below w.heap.size w w') (flowFin P ops core C Q) ks [] a) : (Code.region id ops true).wp P Q a w :=
  wp_flowR core ev sz ks C W _ hm hB hpu hks hQ hsz hst.st hC hfl
theorem flow_quiet {o : Oper} {v : Value} (ho : ops[k]? = some o) (hw : Region.wanted o (yielded ops a.tmps) = true) (he : ev k = false) (hs : ∀ w, cls ops C F k w → stillR w v ((execOp a.eval o).run P w)) (hp : pu ops k = true → ∀ w, (execOp a.eval o).run P w = .ok (.value v) w) (h : flowL P ops ev C W R Fin ks F (a.put o.dst v)) : flowL P ops ev C W R Fin (k :: ks) F a := by
  intro o' ho'
  obtain rfl := Option.some.inj (ho.symm.trans ho')
  rw [if_pos hw, if_neg (by simp [he])]
  exact ⟨v, hs, hp, h⟩
theorem flow_skip {o : Oper} (ho : ops[k]? = some o) (hw : Region.wanted o (yielded ops a.tmps) = false) (h : flowL P ops ev C W R Fin ks F (a.put o.dst undef)) : flowL P ops ev C W R Fin (k :: ks) F a := by
  intro o' ho'
  obtain rfl := Option.some.inj (ho.symm.trans ho')
  rw [if_neg (by simp [hw])]
  exact h
theorem flow_event {o : Oper} (ho : ops[k]? = some o) (hw : Region.wanted o (yielded ops a.tmps) = true) (he : ev k = true) (hd : ∀ w, cls ops C F k w → doesR P (fun v w' => W k a v w' ∧ C w' ∧ R w w') ((execOp a.eval o).run P w))
    (h : ∀ v, (∃ w, C w ∧ W k a v w) → flowL P ops ev C W R Fin ks ((k, W k a v) :: F) (a.put o.dst v)) : flowL P ops ev C W R Fin (k :: ks) F a := by
  intro o' ho'
  obtain rfl := Option.some.inj (ho.symm.trans ho')
  rw [if_pos hw, if_pos he]
  exact ⟨hd, h⟩
theorem flow_end (h : Fin F a) : flowL P ops ev C W R Fin [] F a := h
/-- A load of a struct whose cells are not looked into. -/
theorem still_loadR {o : Oper} {w : World} (ty : TypeId) (x : Operand) (ho : o.op = .load ty x) (b off : Nat) (hx : a.eval x = .pointer (some ⟨b, off, none⟩)) (p : Array Value) (d : TypeDesc)
    (hu : P.underlying ty = some d) (hd : (match d with | .struct _ | .array _ _ => true | _ => false) = true) (hi : (P.info? ty).map (·.size) = some p.size) (hc : ∀ j v, p[j]? = some v → w.cell? ⟨b, off + j, none⟩ = some v) : stillR w (.agg p) ((execOp a.eval o).run P w) := by
  unfold execOp
  simp only [ho, hx, Instr.loadAt, Instr.sureAddr, Sem.run_bind, Sem.run_pure, Result.andThen_ok, run_loadVar_cells ty b off p d hu hd hi hc]
  exact ⟨rfl, rfl⟩
/-- An operation that yields a value and leaves the world. -/
theorem still_run {o : Oper} {w : World} {v : Value} (h : (execOp a.eval o).run P w = .ok (.value v) w) : stillR w v ((execOp a.eval o).run P w) := by rw [h]; exact ⟨rfl, rfl⟩
/-- A load of one cell. -/
theorem still_load1 {o : Oper} {w : World} (ty : TypeId) (x : Operand) (ho : o.op = .load ty x) (b off : Nat) (hx : a.eval x = .pointer (some ⟨b, off, none⟩)) (v : Value) (d : TypeDesc)
    (hu : P.underlying ty = some d) (hd : (match d with | .struct _ | .array _ _ => true | _ => false) = false) (hc : w.cell? ⟨b, off, none⟩ = some v) : stillR w v ((execOp a.eval o).run P w) := by
  have hagg : (isAgg ty).run P w = .ok false w := by
    unfold isAgg
    rw [Sem.run_bind, run_underlying hu w]
    cases d <;> simp_all
  have hl : (loadVar ty ⟨b, off, none⟩).run P w = .ok v w := by simp [loadVar, Sem.run_bind, hagg, hc]
  unfold execOp
  simp only [ho, hx, Instr.loadAt, Instr.sureAddr, Sem.run_bind, Sem.run_pure, Result.andThen_ok, hl]
  exact ⟨rfl, rfl⟩
/-- A call of a Go function. -/
theorem does_call {o : Oper} {w w2 : World} {f : FuncId} {args : Array Value} {R : Value → World → Prop} (h : (execOp a.eval o).run P w = .ok (.enter f args) w2) (hc : Calls P f args w2 (fun e w'' => ∃ v, e = .returned v ∧ R v w'')) : doesR P R ((execOp a.eval o).run P w) := by rw [h]; exact hc
/-- What yields a value. -/
theorem does_value {o : Oper} {w w2 : World} {v : Value} {R : Value → World → Prop} (h : (execOp a.eval o).run P w = .ok (.value v) w2) (hc : R v w2) : doesR P R ((execOp a.eval o).run P w) := by rw [h]; exact hc
end
end Go.Proofs.YtbcagdjfegobnaaGreat
/- A region that draws its order, walked once: the steps, by the operation's number. -/
namespace Go.Proofs.YtbcagdjfegobnaaGreat
open Go.RowKit
set_option linter.unusedVariables false

theorem cell_on {B : Nat} {w w' : World} (h : Below B w w') {b off : Nat} (hb : b < B) {v : Value} (hc : w.cell? ⟨b, off, none⟩ = some v) : w'.cell? ⟨b, off, none⟩ = some v := by
  rw [h.cell (show (⟨b, off, none⟩ : Addr).block < B from hb)]; exact hc
def opK (ops : Array Oper) (k : Nat) : Oper := (ops[k]?).getD default
theorem opK_some {ops : Array Oper} {k : Nat} (hk : decide (k < ops.size) = true) : ops[k]? = some (opK ops k) := by
  have h : k < ops.size := of_decide_eq_true hk
  simp [opK, h]
section
variable {P : Program} {ops : Array Oper} {core ev : Nat → Bool} {C : World → Prop} {W : Nat → Act → Value → World → Prop} {R : World → World → Prop} {Q : Exit → Act → World → Prop} {Fin : List Fact → Act → Prop} {k : Nat} {ks : List Nat} {F : List Fact} {a : Act}
/-- A step whose operation yields v in whatever world. -/
theorem fq (d : Tmp) (v : Value) (hk : decide (k < ops.size) = true) (hd : (opK ops k).dst = some d) (hw : Region.wanted (opK ops k) (yielded ops a.tmps) = true) (he : ev k = false) (hs : ∀ w, (execOp a.eval (opK ops k)).run P w = .ok (.value v) w) (h : flowL P ops ev C W R Fin ks F (a.put (some d) v)) : flowL P ops ev C W R Fin (k :: ks) F a :=
  flow_quiet (opK_some hk) hw he (fun w _ => still_run (hs w)) (fun _ => hs) (by rw [hd]; exact h)
/-- A load of one cell. -/
theorem fq1 (d : Tmp) (v : Value) (ty : TypeId) (x : Operand) (b off : Nat) (desc : TypeDesc) (hk : decide (k < ops.size) = true) (hd : (opK ops k).dst = some d) (hw : Region.wanted (opK ops k) (yielded ops a.tmps) = true) (he : ev k = false)
    (ho : (opK ops k).op = .load ty x) (hx : a.eval x = .pointer (some ⟨b, off, none⟩)) (hu : P.underlying ty = some desc) (hds : (match desc with | .struct _ | .array _ _ => true | _ => false) = false) (hc : ∀ w, cls ops C F k w → w.cell? ⟨b, off, none⟩ = some v)
    (h : flowL P ops ev C W R Fin ks F (a.put (some d) v)) : flowL P ops ev C W R Fin (k :: ks) F a :=
  flow_quiet (opK_some hk) hw he (fun w hw => still_load1 ty x ho b off hx v desc hu hds (hc w hw)) (fun hp => absurd hp (by simp [pu, opK_some hk, pureOp, ho])) (by rw [hd]; exact h)
/-- A load of a struct whose cells are not looked into. -/
theorem fqR (d : Tmp) (p : Array Value) (ty : TypeId) (x : Operand) (b off : Nat) (desc : TypeDesc) (hk : decide (k < ops.size) = true) (hd : (opK ops k).dst = some d) (hw : Region.wanted (opK ops k) (yielded ops a.tmps) = true) (he : ev k = false)
    (ho : (opK ops k).op = .load ty x) (hx : a.eval x = .pointer (some ⟨b, off, none⟩)) (hu : P.underlying ty = some desc) (hds : (match desc with | .struct _ | .array _ _ => true | _ => false) = true) (hi : (P.info? ty).map (·.size) = some p.size) (hc : ∀ w, cls ops C F k w → ∀ j v, p[j]? = some v → w.cell? ⟨b, off + j, none⟩ = some v)
    (h : flowL P ops ev C W R Fin ks F (a.put (some d) (.agg p))) : flowL P ops ev C W R Fin (k :: ks) F a :=
  flow_quiet (opK_some hk) hw he (fun w hw => still_loadR ty x ho b off hx p desc hu hds hi (hc w hw)) (fun hp => absurd hp (by simp [pu, opK_some hk, pureOp, ho])) (by rw [hd]; exact h)
/-- A call of a Go function. -/
theorem fcall (d : Tmp) (f : FuncId) (args : Array Value) (hk : decide (k < ops.size) = true) (hd : (opK ops k).dst = some d) (hw : Region.wanted (opK ops k) (yielded ops a.tmps) = true) (he : ev k = true) (hr : ∀ w, (execOp a.eval (opK ops k)).run P w = .ok (.enter f args) w)
    (hc : ∀ w, cls ops C F k w → Calls P f args w (fun e w'' => ∃ v, e = .returned v ∧ (W k a v w'' ∧ C w'' ∧ R w w'')))
    (h : ∀ v, (∃ w, C w ∧ W k a v w) → flowL P ops ev C W R Fin ks ((k, W k a v) :: F) (a.put (some d) v)) : flowL P ops ev C W R Fin (k :: ks) F a :=
  flow_event (opK_some hk) hw he (fun w hcl => does_call (hr w) (hc w hcl)) (fun v hv => by rw [hd]; exact h v hv)
/-- A call whose value is not kept. -/
theorem fcall0 (f : FuncId) (args : Array Value) (hk : decide (k < ops.size) = true) (hd : (opK ops k).dst = none) (hw : Region.wanted (opK ops k) (yielded ops a.tmps) = true) (he : ev k = true) (hr : ∀ w, (execOp a.eval (opK ops k)).run P w = .ok (.enter f args) w)
    (hc : ∀ w, cls ops C F k w → Calls P f args w (fun e w'' => ∃ v, e = .returned v ∧ (W k a v w'' ∧ C w'' ∧ R w w'')))
    (h : ∀ v, (∃ w, C w ∧ W k a v w) → flowL P ops ev C W R Fin ks ((k, W k a v) :: F) (a.put none v)) : flowL P ops ev C W R Fin (k :: ks) F a :=
  flow_event (opK_some hk) hw he (fun w hcl => does_call (hr w) (hc w hcl)) (fun v hv => by rw [hd]; exact h v hv)
/-- What yields a value and a new world: an alloc and its like. -/
theorem fnew (d : Tmp) (vf : World → Value) (wf : World → World) (hk : decide (k < ops.size) = true) (hd : (opK ops k).dst = some d) (hw : Region.wanted (opK ops k) (yielded ops a.tmps) = true) (he : ev k = true) (hr : ∀ w, (execOp a.eval (opK ops k)).run P w = .ok (.value (vf w)) (wf w))
    (hc : ∀ w, cls ops C F k w → W k a (vf w) (wf w) ∧ C (wf w) ∧ R w (wf w))
    (h : ∀ v, (∃ w, C w ∧ W k a v w) → flowL P ops ev C W R Fin ks ((k, W k a v) :: F) (a.put (some d) v)) : flowL P ops ev C W R Fin (k :: ks) F a :=
  flow_event (opK_some hk) hw he (fun w hcl => does_value (hr w) (hc w hcl)) (fun v hv => by rw [hd]; exact h v hv)
/-- Behind the core: the others, one behind the other. -/
def seqL (ops : Array Oper) : List Nat → Array Bool → Bool
  | [], l => (Region.ready .any ops l).isEmpty
  | t :: ts, l => decide (Region.ready .any ops l = [t]) && (decide (t < ops.size) && seqL ops ts (l.setIfInBounds t true))
theorem wpAny_of_seqL : ∀ (ts : List Nat) (l : Array Bool) (a : Act) (w : World), seqL ops ts l = true → wpList P ops Q (ts.map (opK ops)) a w → wpAny P .any ops Q ts.length l a w
  | [], _, _, _, hB, h => ⟨by simpa [seqL] using hB, h⟩
  | t :: ts, l, a, w, hB, h => by
    simp only [seqL, Bool.and_eq_true, decide_eq_true_eq] at hB
    obtain ⟨h1, h2, h3⟩ := hB
    refine ⟨fun h0 => (by rw [h1] at h0; cases h0), fun i hi => ?_⟩
    rw [h1] at hi
    have hik : i = t := by simpa using hi
    subst hik
    have hw : wpOp P ops Q i (wpList P ops Q (ts.map (opK ops))) a w := by unfold wpOp; simp only [opK_some (decide_eq_true h2)]; exact h
    exact wpOp_mono (fun a' w' h' => wpAny_of_seqL ts _ a' w' h3 h') hw
theorem fend (ts : List Nat) (hf : ops.size - (coreL ops core).length = ts.length) (hs : seqL ops ts ((List.range ops.size).map core).toArray = true)
    (h : ∀ w, C w → (∀ p ∈ F, p.2 w) → wpList P ops Q (ts.map (opK ops)) a w) : flowL P ops ev C W R (flowFin P ops core C Q) [] F a := by
  show flowFin P ops core C Q F a
  intro w hw hF
  rw [hf]
  exact wpAny_of_seqL ts _ a w hs (h w hw hF)
variable {w : World} {ts : List Nat}
/-- Steps of the tail. -/
theorem tval (d : Option Tmp) (v : Value) (w' : World) (hd : (opK ops k).dst = d) (hw : Region.wanted (opK ops k) (yielded ops a.tmps) = true) (hr : (execOp a.eval (opK ops k)).run P w = .ok (.value v) w')
    (h : wpList P ops Q (ts.map (opK ops)) (a.put d v) w') : wpList P ops Q ((k :: ts).map (opK ops)) a w := by
  rw [List.map_cons]
  unfold wpList
  rw [if_pos hw]
  refine .inl ?_
  unfold Oper.wp
  rw [hr]
  simp only [Oper.upon]
  rw [hd]; exact h
/-- What yields nothing: a store. -/
theorem tnone (d : Option Tmp) (w' : World) (hd : (opK ops k).dst = d) (hw : Region.wanted (opK ops k) (yielded ops a.tmps) = true) (hr : (execOp a.eval (opK ops k)).run P w = .ok .skip w')
    (h : wpList P ops Q (ts.map (opK ops)) (a.put d undef) w') : wpList P ops Q ((k :: ts).map (opK ops)) a w := by
  rw [List.map_cons]
  unfold wpList
  rw [if_pos hw]
  refine .inl ?_
  unfold Oper.wp
  rw [hr]
  simp only [Oper.upon]
  rw [hd]; exact h
theorem tskip (d : Option Tmp) (hd : (opK ops k).dst = d) (hw : Region.wanted (opK ops k) (yielded ops a.tmps) = false)
    (h : wpList P ops Q (ts.map (opK ops)) (a.put d undef) w) : wpList P ops Q ((k :: ts).map (opK ops)) a w := by
  rw [List.map_cons]
  unfold wpList
  rw [if_neg (by simp [hw]), hd]; exact h
/-- A struct is stored as_v a whole. -/
theorem tstoreP (hd : (opK ops k).dst = none) (hgd : (opK ops k).guard = none) (ty : TypeId) (x y : Operand) (ho : (opK ops k).op = .store ty x y) (g off : Nat) (hx : a.eval x = .pointer (some ⟨g, off, none⟩)) (p : Array Value) (hy : a.eval y = .agg p)
    (t : TypeId) (cs : Array Value) (hg : Blk w g t cs) (hi : (P.info? ty).map (·.size) = some p.size) (hs : off + p.size ≤ cs.size) (h1 : ∀ v ∈ p.toList, v.oneCell' = true) (cs' : Array Value) (hcs : (cs.toList.take off ++ p.toList ++ cs.toList.drop (off + p.size)).toArray = cs')
    (h : ∀ w', Blk w' g t cs' → Wr g w w' → wpList P ops Q (ts.map (opK ops)) (a.put none undef) w') : wpList P ops Q ((k :: ts).map (opK ops)) a w := by
  rw [List.map_cons]
  exact wpList_storeP hgd ty x y ho g off hx p hy t cs hg hi hs h1 cs' hcs (fun w' hB hw => by rw [hd]; exact h w' hB hw)
theorem tend (h : Q .normal a w) : wpList P ops Q (([] : List Nat).map (opK ops)) a w := h
end
end Go.Proofs.YtbcagdjfegobnaaGreat
