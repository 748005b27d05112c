/- Texts of the proof, laid together: FrameDecWalk FrameRows FrameAllWalk. -/
import Derived.Test.YtbcagdjfegobnaaGreatC21
import Derived.Test.YtbcagdjfegobnaaGreatC13
/- The contract of frame.Decode. (Printed by gen_fdec.py.) -/
namespace Go.Proofs.YtbcagdjfegobnaaGreat
open Go.ChangeShapes Go.WideShapes Go.ChangeAt Go.RowKit
set_option linter.unusedVariables false

theorem Blk.factsD {w : World} {g : Nat} {t : TypeId} {a b c d e f k : Value} (h : Blk w g t #[a, b, c, d, e, f, k]) : g < w.heap.size ∧ w.cell? ⟨g, 0, none⟩ = some a ∧ w.cell? ⟨g, 1, none⟩ = some b ∧ w.cell? ⟨g, 2, none⟩ = some c ∧ w.cell? ⟨g, 3, none⟩ = some d ∧ w.cell? ⟨g, 4, none⟩ = some e ∧ w.cell? ⟨g, 5, none⟩ = some f ∧ w.cell? ⟨g, 6, none⟩ = some k ∧
    w.frozen? ⟨g, 0, none⟩ = false ∧ w.frozen? ⟨g, 1, none⟩ = false ∧ w.frozen? ⟨g, 2, none⟩ = false ∧ w.frozen? ⟨g, 3, none⟩ = false ∧ w.frozen? ⟨g, 4, none⟩ = false ∧ w.frozen? ⟨g, 5, none⟩ = false ∧ w.frozen? ⟨g, 6, none⟩ = false :=
  ⟨h.lt, by rw [h.cell]; rfl, by rw [h.cell]; rfl, by rw [h.cell]; rfl, by rw [h.cell]; rfl, by rw [h.cell]; rfl, by rw [h.cell]; rfl, by rw [h.cell]; rfl, h.frozen 0, h.frozen 1, h.frozen 2, h.frozen 3, h.frozen 4, h.frozen 5, h.frozen 6⟩
/-- Decode under way: the result's cells, the eye, the frame. -/
structure DecSt (w W : World) (ge gf : Nat) (y : EyeD) (cs : Array Value) (N : Nat) : Prop where
  ge0 : w.heap.size < ge
  gf0 : ge < gf
  res : Blk W w.heap.size 68 #[.int .i64 0, .int .i64 0, .int .i64 0, .bool false, .int .i64 0, .slice none 0 0, .slice none 0 0]
  eye : EyeM w W ge y
  fr : Blk W gf 68 cs
  bel : Below w.heap.size w W
  all : y.u + y.b.length = N
theorem DecSt.step {w W W' : World} {ge gf : Nat} {y y' : EyeD} {cs : Array Value} {N : Nat} (h : DecSt w W ge gf y cs N) (hE : EyeM w W' ge y') (hS : Save ge W W') (ha : y'.u + y'.b.length = y.u + y.b.length) : DecSt w W' ge gf y' cs N :=
  ⟨h.ge0, h.gf0, hS.blk (by have := h.ge0; omega) h.res, hE, hS.blk (by have := h.gf0; omega) h.fr, hS.up (by have := h.ge0; omega) h.bel, ha.trans h.all⟩
theorem DecSt.store {w W : World} {ge gf : Nat} {y : EyeD} {cs : Array Value} {N : Nat} (h : DecSt w W ge gf y cs N) (i : Nat) (u : Value) {ds : Array Value} (hd : cs.setIfInBounds i u = ds) : DecSt w (W.setCell ⟨gf, i, none⟩ u) ge gf y ds N := by
  subst hd
  obtain ⟨a, b, c, d, e, f, k⟩ := h
  obtain ⟨A, n, cc, h1, h2, h3, h4, h5⟩ := d
  refine ⟨a, b, c.far (p := ⟨gf, i, none⟩) (by show w.heap.size ≠ gf; omega) u, ⟨A, n, cc, h1, h2, h3, h4.far (p := ⟨gf, i, none⟩) (by show ge ≠ gf; omega) u, h5⟩, e.set_ i u, f.setCell (p := ⟨gf, i, none⟩) (by show w.heap.size ≤ gf; omega) u, k⟩
theorem DecSt.alloc {w W : World} {ge gf : Nat} {y : EyeD} {cs : Array Value} {N : Nat} (h : DecSt w W ge gf y cs N) (o : Obj) : DecSt w (W.alloc o) ge gf y cs N :=
  ⟨h.ge0, h.gf0, h.res.alloc o, h.eye.below ((Below.refl _ _).alloc (Nat.le_refl _) _) h.eye.lt, h.fr.alloc o, h.bel.alloc h.bel.size _, h.all⟩
theorem DecSt.below {w W W' : World} {ge gf : Nat} {y : EyeD} {cs : Array Value} {N : Nat} (h : DecSt w W ge gf y cs N) (hb : Below W.heap.size W W') : DecSt w W' ge gf y cs N :=
  ⟨h.ge0, h.gf0, h.res.carry hb, h.eye.below hb h.eye.lt, h.fr.carry hb, h.bel.trans (hb.mono h.bel.size), h.all⟩
theorem DecSt.num {w W : World} {ge gf : Nat} {y : EyeD} {cs : Array Value} {N : Nat} (h : DecSt w W ge gf y cs N) (hN : N ≤ 140737488355328) {n : Nat} {z : EyeD} (e : yNum y = (n, z)) :
    Calls Tryz.prog 137 #[.pointer (some ⟨ge, 0, none⟩)] W fun e w' => e = .returned (.int .i64 (n : Nat)) ∧ DecSt w w' ge gf z cs N ∧ Only ge W w' := by
  have hc := eyeNum_any w W ge y (by rw [h.all]; exact hN) (by have := h.ge0; omega) h.bel h.eye
  have ha := yNum_all y
  rw [e] at hc ha
  refine hc.mono ?_
  rintro _ w' ⟨rfl, hE, hO⟩
  exact ⟨rfl, h.step hE hO.save ha, hO⟩
theorem DecSt.factsY {w W : World} {ge gf : Nat} {y : EyeD} {cs : Array Value} {N : Nat} (h : DecSt w W ge gf y cs N) : ∃ s : Value, ge < W.heap.size ∧ W.cell? ⟨ge, 0, none⟩ = some s ∧ W.cell? ⟨ge, 1, none⟩ = some (.int .i64 (y.u : Int)) ∧ W.cell? ⟨ge, 2, none⟩ = some (.int .i64 y.e) ∧
    W.frozen? ⟨ge, 0, none⟩ = false ∧ W.frozen? ⟨ge, 1, none⟩ = false ∧ W.frozen? ⟨ge, 2, none⟩ = false := by
  obtain ⟨A, n, c, h1, h2, h3, h4, h5⟩ := h.eye
  exact ⟨_, h4.factsE⟩
/-- The same, the kind's parts and the ranges besides. -/
structure DecF (w W : World) (ge gf gp : Nat) (y : EyeD) (cs ps : Array Value) (A : Option Addr) (c : Nat) (l : List Rng) (N : Nat) : Prop where
  st : DecSt w W ge gf y cs N
  lt : gf < gp
  pt : Blk W gp 182 ps
  own : OwnX rcells 2 W (gp + 1) 116 A c l
theorem DecF.only {w W W' : World} {ge gf gp : Nat} {y y' : EyeD} {cs ps : Array Value} {A : Option Addr} {c : Nat} {l : List Rng} {N : Nat} (h : DecF w W ge gf gp y cs ps A c l N) (hD : DecSt w W' ge gf y' cs N) (hO : Only ge W W') : DecF w W' ge gf gp y' cs ps A c l N :=
  ⟨hD, h.lt, hO.blk (by have := h.lt; have := h.st.gf0; omega) h.pt, hO.own h.own (fun q hq => by have := h.own.lt (n := l.length) q hq; have := h.lt; have := h.st.gf0; omega)⟩
theorem DecF.store {w W : World} {ge gf gp : Nat} {y : EyeD} {cs ps : Array Value} {A : Option Addr} {c : Nat} {l : List Rng} {N : Nat} (h : DecF w W ge gf gp y cs ps A c l N) (i : Nat) (u : Value) {ds : Array Value} (hd : cs.setIfInBounds i u = ds) : DecF w (W.setCell ⟨gf, i, none⟩ u) ge gf gp y ds ps A c l N :=
  ⟨h.st.store i u hd, h.lt, h.pt.far (p := ⟨gf, i, none⟩) (by have := h.lt; show gp ≠ gf; omega) u, h.own.set_below (p := ⟨gf, i, none⟩) (by have := h.lt; show gf < gp + 1; omega) u⟩
theorem DecF.num {w W : World} {ge gf gp : Nat} {y : EyeD} {cs ps : Array Value} {A : Option Addr} {c : Nat} {l : List Rng} {N : Nat} (h : DecF w W ge gf gp y cs ps A c l N) (hN : N ≤ 140737488355328) {n : Nat} {z : EyeD} (e : yNum y = (n, z)) :
    Calls Tryz.prog 137 #[.pointer (some ⟨ge, 0, none⟩)] W fun e w' => e = .returned (.int .i64 (n : Nat)) ∧ DecF w w' ge gf gp z cs ps A c l N := by
  refine (h.st.num hN e).mono ?_
  rintro _ w' ⟨rfl, hD, hO⟩
  exact ⟨rfl, h.only hD hO⟩
theorem yTake_all (n : Nat) (y : EyeD) : (yTake n y).2.u + (yTake n y).2.b.length = y.u + y.b.length := by
  unfold yTake
  by_cases h0 : y.e ≠ 0
  · simp [h0]
  · rw [if_neg h0]
    by_cases h1 : y.b.length < n
    · simp [h1]
    · simp [h1]; omega
theorem DecF.take {w W : World} {ge gf gp : Nat} {y : EyeD} {cs ps : Array Value} {A : Option Addr} {c : Nat} {l : List Rng} {N : Nat} (h : DecF w W ge gf gp y cs ps A c l N) (hN : N ≤ 140737488355328) (n : Nat) {b : List UInt8} {z : EyeD} (e : yTake n y = (b, z)) :
    Calls Tryz.prog 139 #[.pointer (some ⟨ge, 0, none⟩), .int .i64 (n : Int)] W fun e w' => ∃ (B : Option Addr) (k d : Nat), e = .returned (.slice B k d) ∧ b.length = k ∧ k ≤ d ∧ d ≤ 9223372036854775807 ∧ RdB w B b ∧ DecF w w' ge gf gp z cs ps A c l N ∧ Only ge W w' := by
  have hc := eyeTake_any w W ge n y (by rw [h.st.all]; exact hN) (by have := h.st.ge0; omega) h.st.bel h.st.eye
  have ha := yTake_all n y
  rw [e] at hc ha
  refine hc.mono ?_
  rintro _ w' ⟨B, k, d, rfl, h1, h2, h3, h4, hE, hO⟩
  exact ⟨B, k, d, rfl, h1, h2, h3, h4, h.only (h.st.step hE hO.save ha) hO, hO⟩
theorem DecF.fail {w W : World} {ge gf gp : Nat} {y : EyeD} {cs ps : Array Value} {A : Option Addr} {c : Nat} {l : List Rng} {N : Nat} (h : DecF w W ge gf gp y cs ps A c l N) (E : Int) :
    Calls Tryz.prog 140 #[.pointer (some ⟨ge, 0, none⟩), .int .i64 E] W fun e w' => e = .returned (.tuple #[]) ∧ DecF w w' ge gf gp (yFail E y) cs ps A c l N := by
  refine (fail_any w W ge y E h.st.eye).mono ?_
  rintro _ w' ⟨rfl, hE, hO⟩
  exact ⟨rfl, h.only (h.st.step hE hO.save (yFail_all E y)) hO⟩
theorem DecF.save {w W W' : World} {ge gf gp : Nat} {y y' : EyeD} {cs ps : Array Value} {A : Option Addr} {c : Nat} {l : List Rng} {N : Nat} (h : DecF w W ge gf gp y cs ps A c l N) (hE : EyeM w W' ge y') (hS : Save ge W W') (ha : y'.u + y'.b.length = y.u + y.b.length) : DecF w W' ge gf gp y' cs ps A c l N := by
  refine ⟨h.st.step hE hS ha, h.lt, hS.blk (by have := h.lt; have := h.st.gf0; omega) h.pt, ?_⟩
  have hlt := h.own.lt (n := l.length)
  have hgp := h.lt
  have hgf := h.st.gf0
  refine ⟨h.own.1, ?_⟩
  rcases h.own.2 with h2 | ⟨q, cap, cur, hv, hk, hh, rr⟩
  · exact .inl h2
  · exact .inr ⟨q, cap, cur, hv, hk, (hS.block q (hlt q (by rw [hv]; rfl)).2 (by omega)).trans hh, rr⟩
theorem DecF.alloc {w W : World} {ge gf gp : Nat} {y : EyeD} {cs ps : Array Value} {A : Option Addr} {c : Nat} {l : List Rng} {N : Nat} (h : DecF w W ge gf gp y cs ps A c l N) (o : Obj) : DecF w (W.alloc o) ge gf gp y cs ps A c l N :=
  ⟨h.st.alloc o, h.lt, h.pt.alloc o, h.own.alloc o⟩
theorem DecF.below {w W W' : World} {ge gf gp : Nat} {y : EyeD} {cs ps : Array Value} {A : Option Addr} {c : Nat} {l : List Rng} {N : Nat} (h : DecF w W ge gf gp y cs ps A c l N) (hb : Below W.heap.size W W') : DecF w W' ge gf gp y cs ps A c l N :=
  ⟨h.st.below hb, h.lt, h.pt.carry hb, h.own.carry hb⟩
theorem rd_set_own {w : World} {base base' : Nat} {E : TypeId} {A : Option Addr} {c : Nat} {bs : List UInt8} (h : OwnB w base E A c bs) {p : Addr} (hp : p.block < base) (u : Value) (hb : base' ≤ base) : OwnB (w.setCell p u) base' E A c bs := own_mono (ownsRow_setCell_below h hp u) hb
theorem ownB_set {w : World} {base : Nat} {E : TypeId} {A : Option Addr} {c : Nat} {bs : List UInt8} (h : OwnB w base E A c bs) {p : Addr} (hp : p.block < base) (u : Value) : OwnB (w.setCell p u) base E A c bs := ownsRow_setCell_below h hp u
theorem ownB_drew {w : World} {base : Nat} {E : TypeId} {A : Option Addr} {c : Nat} {bs : List UInt8} (h : OwnB w base E A c bs) : OwnB w.drew base E A c bs := World.ownsRow.drew h
theorem ownX_drew {α : Type} {f : α → List Value} {m : Nat} {w : World} {base : Nat} {E : TypeId} {A : Option Addr} {c : Nat} {xs : List α} (h : OwnX f m w base E A c xs) : OwnX f m w.drew base E A c xs := World.ownsRow.drew h
theorem yTake_len (n : Nat) (y : EyeD) : (yTake n y).1.length ≤ n := by
  unfold yTake
  by_cases h0 : y.e ≠ 0
  · simp [h0]
  · rw [if_neg h0]
    by_cases h1 : y.b.length < n
    · simp [h1]
    · simp [h1]; omega
theorem yTake_len2 (n : Nat) (y : EyeD) : (yTake n y).1.length ≤ y.b.length := by
  unfold yTake
  by_cases h0 : y.e ≠ 0
  · simp [h0]
  · rw [if_neg h0]
    by_cases h1 : y.b.length < n
    · simp [h1]
    · simp [h1]; omega
theorem valB_zero (tb : List UInt8) : wrap64 ((valB (tb.take 0) 0 : Nat) : Int) = 0 := by
  have e : valB (tb.take 0) 0 = 0 := rfl
  rw [e, wrap64_id 0 (by decide)]; rfl
theorem valB_take_lt (tb : List UInt8) (j : Nat) (hj : j < 8) : valB (tb.take j) 0 < 72057594037927936 := by
  have h := valB_lt (tb.take j) 0 1 (by omega)
  have h2 : 256 ^ (tb.take j).length ≤ 256 ^ 7 := Nat.pow_le_pow_right (by decide) (by rw [List.length_take]; omega)
  omega
theorem valB_take_succ (tb : List UInt8) (j : Nat) (hj : j < tb.length) : valB (tb.take (j + 1)) 0 = valB (tb.take j) 0 * 256 + (tb.getD j 0).toNat := by
  rw [List.take_succ_eq_append_getElem hj, valB_snoc]
  simp [List.getD, hj]
theorem or_code (v : Nat) (C : Int) (x : Nat) (hC : C = wrap64 (v : Int)) (hv : v < 72057594037927936) (hx : x < 256) : bits .or .i64 (wrap64 (C * 256)) (x : Int) = wrap64 ((v * 256 + x : Nat) : Int) := by
  rw [← or_byteW v x hv hx]
  have e : wrap64 (C * 256) = wrap64 ((v : Int) * 256) := by rw [hC]; unfold wrap64; omega
  rw [e]
theorem yRngs_all (y : EyeD) : (yRngs y).2.u + (yRngs y).2.b.length = y.u + y.b.length := by
  have hm : ∀ (k : Nat) (lo : Int) (y : EyeD), (yMore k lo y).2.u + (yMore k lo y).2.b.length = y.u + y.b.length := by
    intro k
    induction k with
    | zero => intro lo y; rfl
    | succ k ih =>
      intro lo y
      rw [yMore]
      split
      · rfl
      · show (yMore k _ _).2.u + (yMore k _ _).2.b.length = _
        rw [ih, yStep_all, yNum_all]
  unfold yRngs yList
  split
  · rw [yMany_all, yNum_all]
  · show (yMore _ _ _).2.u + (yMore _ _ _).2.b.length = _
    rw [hm, yStep_all, yMany_all, yNum_all]
theorem DecF.ranges {w W : World} {ge gf gp : Nat} {y : EyeD} {cs ps : Array Value} {N : Nat} (h : DecF w W ge gf gp y cs ps none 0 [] N) (hN : N ≤ 140737488355328) {l : List Rng} {z : EyeD} (e : yRngs y = (l, z)) :
    Calls Tryz.prog 138 #[.pointer (some ⟨ge, 0, none⟩)] W fun e w' => ∃ (A : Option Addr) (k c : Nat), e = .returned (.slice A k c) ∧ l.length = k ∧ k ≤ c ∧ c ≤ 9223372036854775807 ∧ DecF w w' ge gf gp z cs ps A c l N := by
  have hc := rngs_any w W ge y (by rw [h.st.all]; exact hN) (by have := h.st.ge0; omega) h.st.bel h.st.eye
  have ha := yRngs_all y
  rw [e] at ha
  refine hc.mono ?_
  rintro _ w' ⟨A, k, c, rfl, h1, h2, h3, h4, hE, hS⟩
  rw [e] at h1 h4 hE
  exact ⟨A, k, c, rfl, h1, h2, h3, h.st.step hE hS ha, h.lt, hS.blk (by have := h.lt; have := h.st.gf0; omega) h.pt, h4.mono h.pt.lt⟩

/-- What Decode answers. -/
def FDecOut (w : World) (f : FrD) (u : Nat) (E : Int) (e : Ending) (w' : World) : Prop := ∃ (A : Option Addr) (c : Nat) (B : Option Addr) (d : Nat), e = .returned (.tuple #[.agg (frcells f A c B d), .int .i64 (u : Int), .int .i64 E]) ∧ RdX rcells 2 w' A f.rngs ∧ RdB w' B f.data ∧ f.rngs.length ≤ c ∧ c ≤ 9223372036854775807 ∧ f.data.length ≤ d ∧ d ≤ 9223372036854775807 ∧ Below w.heap.size w w'
/-- .. and where its ranges and its data lie. -/
def FDecIn (w : World) (f : FrD) (u : Nat) (E : Int) (e : Ending) (w' : World) : Prop := ∃ (A : Option Addr) (c : Nat) (B : Option Addr) (d : Nat), e = .returned (.tuple #[.agg (frcells f A c B d), .int .i64 (u : Int), .int .i64 E]) ∧ RdX rcells 2 w' A f.rngs ∧ RdB w' B f.data ∧ f.rngs.length ≤ c ∧ c ≤ 9223372036854775807 ∧ f.data.length ≤ d ∧ d ≤ 9223372036854775807 ∧ Below w.heap.size w w' ∧ (∀ a, A = some a → w.heap.size ≤ a.block ∧ a.block < w'.heap.size) ∧ (∀ a, B = some a → w.heap.size ≤ a.block ∧ a.block < w'.heap.size)
theorem FDecIn.out {w w' : World} {f : FrD} {u : Nat} {E : Int} {e : Ending} (h : FDecIn w f u E e w') : FDecOut w f u E e w' := by
  obtain ⟨A, c, B, d, h1, h2, h3, h4, h5, h6, h7, h8, _, _⟩ := h
  exact ⟨A, c, B, d, h1, h2, h3, h4, h5, h6, h7, h8⟩
theorem OwnX.in_ {α : Type} {f : α → List Value} {m : Nat} {w w' : World} {base b0 : Nat} {E : TypeId} {A : Option Addr} {c : Nat} {xs : List α} (h : OwnX f m w base E A c xs) (hb : b0 ≤ base) (hw : w.heap.size ≤ w'.heap.size) : ∀ a, A = some a → b0 ≤ a.block ∧ a.block < w'.heap.size := fun a ha => by
  subst ha
  have := h.lt (n := xs.length) a.block rfl
  omega
theorem OwnB.in_ {w w' : World} {base b0 : Nat} {E : TypeId} {A : Option Addr} {c : Nat} {bs : List UInt8} (h : OwnB w base E A c bs) (hb : b0 ≤ base) (hw : w.heap.size ≤ w'.heap.size) : ∀ a, A = some a → b0 ≤ a.block ∧ a.block < w'.heap.size := fun a ha => by
  subst ha
  have := own_block_lt h a.block rfl
  omega
theorem fDecOut_none (w w' : World) (E : Int) (hb : Below w.heap.size w w') : FDecIn w fnil 0 E (.returned (.tuple #[.agg #[.int .i64 0, .int .i64 0, .int .i64 0, .bool false, .int .i64 0, .slice none 0 0, .slice none 0 0], .int .i64 0, .int .i64 E])) w' :=
  ⟨none, 0, none, 0, rfl, RdX.nil, RdB.nil, Nat.le_refl _, by decide, Nat.le_refl _, by decide, hb, (fun a h => by cases h), (fun a h => by cases h)⟩

set_option maxRecDepth 100000 in
set_option maxHeartbeats 8000000 in
theorem fDec_in (A : Option Addr) (bs : List UInt8) (n c : Nat) (w : World) (hn : bs.length = n) (hr : RdB w A bs) (hnc : n ≤ c) (hcm : c ≤ 9223372036854775807) (hN : n ≤ 140737488355328) :
    Calls Tryz.prog 105 #[.slice A n c] w (FDecIn w (fdec bs).1 (fdec bs).2.1 (fdec bs).2.2) := by
  obtain ⟨n1, y1, hy1⟩ : ∃ a b, yNum ⟨bs, 0, 0⟩ = (a, b) := ⟨_, _, rfl⟩
  have hdec : ∀ R, (fdec bs = R) → Hid (fdec bs = R) := fun _ h => h
  have HY1 := Lib.hid hy1
  have HNB := Lib.hid hn
  have HRB := Lib.hid hr
  clear hn hr
  go_enter Tryz.func105, Tryz.ntmps105
  go_wp2_with fail
  refine calls_world (fun w' => DecSt w w' (w.heap.size + 1) (w.heap.size + 1 + 1) ⟨bs, 0, 0⟩ #[.int .i64 0, .int .i64 0, .int .i64 0, .bool false, .int .i64 0, .slice none 0 0, .slice none 0 0] n) ⟨by omega, by omega, ?_, ⟨A, n, c, HNB.out, hnc, hcm, ?_, HRB.out⟩, ?_, ?_, by simp [HNB.out]⟩ ?_
  · exact ((Blk.new _ _ _).alloc _).alloc _
  · exact (Blk.new1 _ _ _ _).alloc _
  · exact Blk.new2 _ _ _ _ _
  · exact (((Below.refl _ _).alloc (Nat.le_refl _) _).alloc (by simp) _).alloc (by simp; omega) _
  intro w1 hS
  refine (hS.num hN hy1).mono ?_
  clear hS hy1
  rintro e w2 ⟨rfl, hS, _⟩
  have FF := Blk.factsD hS.fr
  go_upto_region 4 with (fail)
  refine wp_world (fun w' => DecSt w w' (w.heap.size + 1) (w.heap.size + 1 + 1) y1 #[.int .i64 n1, .int .i64 0, .int .i64 0, .bool false, .int .i64 0, .slice none 0 0, .slice none 0 0] n) (hS.store 0 _ (by simp)) ?_
  clear hS FF
  intro w3 hS
  have FF := Blk.factsD hS.fr
  have FR := Blk.factsD hS.res
  obtain ⟨s, FY⟩ := hS.factsY
  have HS := Lib.hid hS
  clear hS
  by_cases he : y1.e = 0
  · rw [he] at FY
    by_cases h8 : n1 = 8
    · subst h8
      have hfin : fdec bs = (fnil, 0, 2) := by unfold fdec; rw [HY1.out]; simp [he]
      have HFIN := Lib.hid hfin
      clear hfin he
      go_wp2_with fail
      refine bodyPost_ret (v := .tuple #[.agg #[.int .i64 0, .int .i64 0, .int .i64 0, .bool false, .int .i64 0, .slice none 0 0, .slice none 0 0], .int .i64 0, .int .i64 2]) ?_ rfl ?_
      · simp [results, Tryz.results105, go_sem, FR] <;> rfl
      · rw [HFIN.out]
        refine fDecOut_none _ _ _ ?_
        have h := HS.out.bel
        (repeat (first | with_reducible exact h | with_reducible refine Below.drew ?_ | ((with_reducible refine Below.setCell ?_ ?side _); case side => (first | (simp; done) | (simp; omega) | omega)) | ((with_reducible refine Below.alloc ?_ ?side _); case side => (first | (simp; done) | (simp; omega) | omega))))
    · have HHE := Lib.hid he
      clear he
      obtain ⟨k, hk⟩ : ∃ k, kindOf n1 = k := ⟨_, rfl⟩
      obtain ⟨fin, hfn⟩ : ∃ b, (n1 == 15) = b := ⟨_, rfl⟩
      have HK := Lib.hid hk
      have HFN := Lib.hid hfn
      clear hk hfn
      obtain ⟨b37, hb37⟩ : ∃ b, (n1 == 14 || n1 == 15) = b := ⟨_, rfl⟩
      have HB37 := Lib.hid hb37
      clear hb37
      go_upto_region 6 with (fail)
      go_cut [37] (fun s wx => s = .bool b37 ∧ DecSt w wx (w.heap.size + 1) (w.heap.size + 1 + 1) y1 #[.int .i64 n1, .int .i64 0, .int .i64 0, .bool false, .int .i64 0, .slice none 0 0, .slice none 0 0] n)
      case first =>
        by_cases h14 : n1 = 14
        · subst h14
          obtain rfl : true = b37 := HB37.out
          go_wp2_with fail
          go_meet
          exact ⟨rfl, HS.out⟩
        · have e1 : ((n1 : Int) == 14) = false := by simp; omega
          have hb := HB37.out
          rw [show (n1 == 14) = false from by simp [h14], Bool.false_or] at hb
          by_cases h15 : n1 = 15
          · subst h15
            obtain rfl : true = b37 := hb
            go_wp2_with fail
            go_meet
            exact ⟨rfl, HS.out⟩
          · have e2 : ((n1 : Int) == 15) = false := by simp; omega
            obtain rfl : false = b37 := by rw [← hb]; simp [h15]
            go_wp2_with fail
            go_meet
            exact ⟨rfl, HS.out⟩
      case rest =>
      obtain ⟨rfl, hS⟩ := hcut
      clear HS FF FR FY
      have HS := Lib.hid hS
      have FF := Blk.factsD hS.fr
      clear hS
      go_upto_if 37 with (fail)
      go_cut [] (fun wx => DecSt w wx (w.heap.size + 1) (w.heap.size + 1 + 1) y1 #[.int .i64 k, .int .i64 0, .int .i64 0, .bool fin, .int .i64 0, .slice none 0 0, .slice none 0 0] n)
      case first =>
        by_cases h14 : n1 = 14
        · subst h14
          obtain rfl : 8 = k := HK.out
          obtain rfl : false = fin := HFN.out
          obtain rfl : true = b37 := HB37.out
          go_wp2_with fail
          go_meet
          exact (HS.out.store 3 _ rfl).store 0 _ (by simp)
        · by_cases h15 : n1 = 15
          · subst h15
            obtain rfl : 8 = k := HK.out
            obtain rfl : true = fin := HFN.out
            obtain rfl : true = b37 := HB37.out
            go_wp2_with fail
            go_meet
            exact (HS.out.store 3 _ rfl).store 0 _ (by simp)
          · obtain rfl : n1 = k := by have := HK.out; unfold kindOf at this; rwa [if_neg (by omega)] at this
            obtain rfl : false = fin := by rw [← HFN.out]; exact (beq_eq_false_iff_ne.2 h15).symm
            obtain rfl : false = b37 := by rw [← HB37.out]; simp [h14, h15]
            have e1 : ((n1 : Int) == 14) = false := by simp; omega
            have e2 : ((n1 : Int) == 15) = false := by simp; omega
            have e3 : ((n1 : Int) == 8) = false := by simp; omega
            clear h14 h15 h8
            go_wp2_with fail
            go_meet
            exact HS.out
      case rest =>
        clear HS FF
        have HS := Lib.hid hcut
        clear hcut
        have FF := Blk.factsD HS.out.fr
        go_wp2_with fail
        by_cases hok : kOk k = true
        · refine (partsOf_good k hok _).mono ?_
          rintro e w5 ⟨rfl, hb5⟩
          unfold pcells
          have HOK := Lib.hid hok
          clear hok FF
          have H8 := Lib.hid h8
          clear h8
          obtain ⟨bi, hbi⟩ : ∃ b, pId k = b := ⟨_, rfl⟩
          obtain ⟨bo, hbo⟩ : ∃ b, pOff k = b := ⟨_, rfl⟩
          obtain ⟨bc, hbc⟩ : ∃ b, pCode k = b := ⟨_, rfl⟩
          obtain ⟨bd, hbd⟩ : ∃ b, pData k = b := ⟨_, rfl⟩
          obtain ⟨bf, hbf⟩ : ∃ b, pFin k = b := ⟨_, rfl⟩
          obtain ⟨bw, hbw⟩ : ∃ b, pWord k = b := ⟨_, rfl⟩
          rw [hbi, hbo, hbc, hbd, hbf, hbw]
          have HBI := Lib.hid hbi
          have HBO := Lib.hid hbo
          have HBC := Lib.hid hbc
          have HBD := Lib.hid hbd
          have HBF := Lib.hid hbf
          have HBW := Lib.hid hbw
          clear hbi hbo hbc hbd hbf hbw
          go_upto_region 12 with (fail)
          have hS5 := HS.out.below hb5
          refine wp_world (fun w' => DecF w w' (w.heap.size + 1) (w.heap.size + 1 + 1) w5.heap.size y1 #[.int .i64 k, .int .i64 0, .int .i64 0, .bool fin, .int .i64 0, .slice none 0 0, .slice none 0 0] #[.bool bi, .bool bo, .bool bc, .bool bd, .bool bf, .bool bw] none 0 [] n) ⟨hS5.alloc _, hS5.fr.lt, ?_, OwnX.nil _ _ _⟩ ?_
          · first | exact Blk.new _ _ _ | exact (Blk.new _ _ _).as (by simp)
          generalize w5.heap.size = gp at *
          clear hS5 hb5 HS
          intro w6 hD
          have FP := hD.pt.factsP
          have FF := Blk.factsD hD.st.fr
          have HD := Lib.hid hD
          clear hD
          obtain ⟨r, y2, hr⟩ : ∃ a b, ifR (k == 2) y1 = (a, b) := ⟨_, _, rfl⟩
          have HR := Lib.hid hr
          clear hr
          go_upto_if 58 with (fail)
          go_cut [] (fun wx => ∃ (A : Option Addr) (c : Nat), r.length ≤ c ∧ c ≤ 9223372036854775807 ∧ DecF w wx (w.heap.size + 1) (w.heap.size + 1 + 1) gp y2 #[.int .i64 k, .int .i64 0, .int .i64 0, .bool fin, .int .i64 0, .slice A r.length c, .slice none 0 0] #[.bool bi, .bool bo, .bool bc, .bool bd, .bool bf, .bool bw] A c r n)
          case first =>
            by_cases h2 : k = 2
            · subst h2
              have hq : yRngs y1 = (r, y2) := HR.out
              go_wp2_with fail
              refine (HD.out.ranges hN hq).mono ?_
              rintro e w7 ⟨A7, k7, c7, rfl, h1, h2, h3, hD7⟩
              subst h1
              have F7 := Blk.factsD hD7.st.fr
              go_wp2_with fail
              go_meet
              exact ⟨A7, c7, h2, h3, hD7.store 5 _ (by simp)⟩
            · have e2 : ((k : Int) == 2) = false := by simp; omega
              have hq := HR.out
              rw [show (k == 2) = false from by simp [h2]] at hq
              obtain ⟨rfl, rfl⟩ : [] = r ∧ y1 = y2 := by injection hq with a b; exact ⟨a, b⟩
              clear h2 hq
              go_wp2_with fail
              go_meet
              exact ⟨none, 0, Nat.le_refl _, by decide, HD.out⟩
          case rest =>
            clear HD FP FF
            obtain ⟨A2, c2, hc2, hm2, hD⟩ := hcut
            have FP := hD.pt.factsP
            have FF := Blk.factsD hD.st.fr
            have HD := Lib.hid hD
            clear hD
            obtain ⟨id, y3, hq⟩ : ∃ a b, ifN bi y2 = (a, b) := ⟨_, _, rfl⟩
            have HQ63 := Lib.hid hq
            clear hq
            go_upto_if 63 with (fail)
            go_cut [] (fun wx => DecF w wx (w.heap.size + 1) (w.heap.size + 1 + 1) gp y3 #[.int .i64 k, .int .i64 id, .int .i64 0, .bool fin, .int .i64 0, .slice A2 r.length c2, .slice none 0 0] #[.bool bi, .bool bo, .bool bc, .bool bd, .bool bf, .bool bw] A2 c2 r n)
            case first =>
              cases bi with
              | true =>
                have hq : yNum y2 = (id, y3) := HQ63.out
                go_wp2_with fail
                refine (HD.out.num hN hq).mono ?_
                rintro e w7 ⟨rfl, hD7⟩
                have F7 := Blk.factsD hD7.st.fr
                go_wp2_with fail
                go_meet
                exact hD7.store 1 _ (by simp)
              | false =>
                have hq := HQ63.out
                obtain ⟨rfl, rfl⟩ : 0 = id ∧ y2 = y3 := by injection hq with a b; exact ⟨a, b⟩
                clear hq
                go_wp2_with fail
                go_meet
                exact HD.out
            case rest =>
              clear HD FP FF
              have hD := hcut
              clear hcut
              have FP := hD.pt.factsP
              have FF := Blk.factsD hD.st.fr
              have HD := Lib.hid hD
              clear hD
              obtain ⟨off, y4, hq⟩ : ∃ a b, ifN bo y3 = (a, b) := ⟨_, _, rfl⟩
              have HQ68 := Lib.hid hq
              clear hq
              go_upto_if 68 with (fail)
              go_cut [] (fun wx => DecF w wx (w.heap.size + 1) (w.heap.size + 1 + 1) gp y4 #[.int .i64 k, .int .i64 id, .int .i64 off, .bool fin, .int .i64 0, .slice A2 r.length c2, .slice none 0 0] #[.bool bi, .bool bo, .bool bc, .bool bd, .bool bf, .bool bw] A2 c2 r n)
              case first =>
                cases bo with
                | true =>
                  have hq : yNum y3 = (off, y4) := HQ68.out
                  go_wp2_with fail
                  refine (HD.out.num hN hq).mono ?_
                  rintro e w7 ⟨rfl, hD7⟩
                  have F7 := Blk.factsD hD7.st.fr
                  go_wp2_with fail
                  go_meet
                  exact hD7.store 2 _ (by simp)
                | false =>
                  have hq := HQ68.out
                  obtain ⟨rfl, rfl⟩ : 0 = off ∧ y3 = y4 := by injection hq with a b; exact ⟨a, b⟩
                  clear hq
                  go_wp2_with fail
                  go_meet
                  exact HD.out
              case rest =>
                clear HD FP FF
                have hD := hcut
                clear hcut
                have FP := hD.pt.factsP
                have FF := Blk.factsD hD.st.fr
                have HD := Lib.hid hD
                clear hD
                obtain ⟨cv, y5, hq⟩ : ∃ a b, ifC bw bc y4 = (a, b) := ⟨_, _, rfl⟩
                have HQC := Lib.hid hq
                clear hq
                go_upto_block 0 with (fail)
                go_cut [] (fun wx => DecF w wx (w.heap.size + 1) (w.heap.size + 1 + 1) gp y5 #[.int .i64 k, .int .i64 id, .int .i64 off, .bool fin, .int .i64 (wrap64 ((cv : Nat) : Int)), .slice A2 r.length c2, .slice none 0 0] #[.bool bi, .bool bo, .bool bc, .bool bd, .bool bf, .bool bw] A2 c2 r n)
                case first =>
                  cases bw with
                  | true =>
                    obtain ⟨tb, z5, ht⟩ : ∃ a b, yTake 8 y4 = (a, b) := ⟨_, _, rfl⟩
                    have hq : (valB (yTake 8 y4).1 0, (yTake 8 y4).2) = (cv, y5) := HQC.out
                    have hl8 := yTake_len 8 y4
                    rw [ht] at hq hl8
                    obtain ⟨hcv, rfl⟩ : valB tb 0 = cv ∧ z5 = y5 := by injection hq with a b; exact ⟨a, b⟩
                    have HCV := Lib.hid hcv
                    have HL8 := Lib.hid hl8
                    have HC8 := Lib.hid (HD.out.take hN 8 ht)
                    clear hq hcv ht hl8
                    go_wp2_with fail
                    refine HC8.out.mono ?_
                    rintro e w7 ⟨B7, k7, d7, rfl, h1, h2, h3, h4, hD7, _⟩
                    have H1 := Lib.hid h1
                    have HB7 := Lib.hid h4
                    have HD7 := Lib.hid hD7
                    clear h1 h4 hD7 HD FP FF HC8
                    go_wp2_with fail
                    go_loopw [78] (fun iv wr => ∃ j : Nat, j ≤ k7 ∧ iv = .int .i64 (j : Int) ∧ DecF w wr (w.heap.size + 1) (w.heap.size + 1 + 1) gp z5 #[.int .i64 k, .int .i64 id, .int .i64 off, .bool fin, .int .i64 (wrap64 ((valB (tb.take j) 0 : Nat) : Int)), .slice A2 r.length c2, .slice none 0 0] #[.bool bi, .bool bo, .bool bc, .bool bd, .bool bf, .bool true] A2 c2 r n) (fun iv _ => k7 - (intOf iv).toNat)
                    case atStart => exact ⟨0, Nat.zero_le _, rfl, by rw [valB_zero]; exact HD7.out⟩
                    case round =>
                      obtain ⟨j, hj, rfl, hDj⟩ := hrel
                      have FF := Blk.factsD hDj.st.fr
                      have HDj := Lib.hid hDj
                      clear hDj
                      by_cases hlt : j < k7
                      · have h1 := H1.out
                        have h8 := HL8.out
                        obtain ⟨b, off_, rfl, hcell⟩ := RdB.cell HB7.out (by omega)
                        have hc0 := hcell j (by omega)
                        have hc := (HDj.out.st.bel.cell (p := ⟨b, off_ + j, none⟩) (World.block_lt_of_cell? w _ hc0)).trans hc0
                        have hv := valB_take_lt tb j (by omega)
                        have HS2 := Lib.hid (valB_take_succ tb j (by omega))
                        clear h1 h8 hcell hc0
                        generalize tb.getD j 0 = x at *
                        generalize valB (tb.take j) 0 = v at *
                        have hx := x.toNat_lt
                        obtain ⟨C, hC⟩ : ∃ C : Int, wrap64 (v : Int) = C := ⟨_, rfl⟩
                        have HO := Lib.hid (or_code v C x.toNat hC.symm hv (by omega))
                        rw [hC] at HDj FF
                        clear hC hv
                        have hx2 : (x.toNat : Int) < 256 := by omega
                        have hj0 : (0 : Int) ≤ (j : Int) := by omega
                        have hj1 : (j : Int) < (k7 : Int) := by omega
                        go_wp2_with fail
                        go_roundw
                        case rel =>
                          refine ⟨j + 1, by omega, by first | (go_num; done) | rfl, ?_⟩
                          rw [HS2.out, ← HO.out]
                          exact HDj.out.store 4 _ (by simp)
                        case measure => first | (simp [intOf]; done) | (simp [intOf]; omega)
                      · obtain rfl : j = k7 := by omega
                        go_wp2_with fail
                        go_meet
                        have h := HDj.out
                        rwa [List.take_of_length_le (by rw [H1.out]; exact Nat.le_refl _), HCV.out] at h
                  | false =>
                    cases bc with
                    | true =>
                      have hq : yNum y4 = (cv, y5) := HQC.out
                      have hle : cv ≤ 4611686018427387903 := by have := yNum_le y4; rw [hq] at this; exact this
                      go_wp2_with fail
                      refine (HD.out.num hN hq).mono ?_
                      rintro e w7 ⟨rfl, hD7⟩
                      have F7 := Blk.factsD hD7.st.fr
                      go_wp2_with fail
                      go_meet
                      exact hD7.store 4 _ (by rw [wrap64_id cv hle]; simp)
                    | false =>
                      have hq := HQC.out
                      obtain ⟨rfl, rfl⟩ : 0 = cv ∧ y4 = y5 := by injection hq with a b; exact ⟨a, b⟩
                      clear hq
                      go_wp2_with fail
                      go_meet
                      rw [wrap64_id 0 (by decide)]
                      exact HD.out
                case rest =>
                  clear HD FP FF
                  have hD := hcut
                  clear hcut
                  have FP := hD.pt.factsP
                  have FF := Blk.factsD hD.st.fr
                  have HD := Lib.hid hD
                  clear hD
                  obtain ⟨ds, y6, hq⟩ : ∃ a b, ifD bd y5 = (a, b) := ⟨_, _, rfl⟩
                  have HQD := Lib.hid hq
                  clear hq
                  go_upto_if 97 with (fail)
                  go_cut [] (fun wx => ∃ (B : Option Addr) (d : Nat), ds.length ≤ d ∧ d ≤ 9223372036854775807 ∧ OwnB wx (gp + 1) 5 B d ds ∧ DecF w wx (w.heap.size + 1) (w.heap.size + 1 + 1) gp y6 #[.int .i64 k, .int .i64 id, .int .i64 off, .bool fin, .int .i64 (wrap64 ((cv : Nat) : Int)), .slice A2 r.length c2, .slice B ds.length d] #[.bool bi, .bool bo, .bool bc, .bool bd, .bool bf, .bool bw] A2 c2 r n)
                  case first =>
                    cases bd with
                    | false =>
                      have hq := HQD.out
                      obtain ⟨rfl, rfl⟩ : [] = ds ∧ y5 = y6 := by injection hq with a b; exact ⟨a, b⟩
                      clear hq
                      go_wp2_with fail
                      go_meet
                      exact ⟨none, 0, Nat.le_refl _, by decide, OwnB.nil _ _ _, HD.out⟩
                    | true =>
                      obtain ⟨m, z, hm⟩ : ∃ a b, yNum y5 = (a, b) := ⟨_, _, rfl⟩
                      have hq : yTake (yNum y5).1 (if 120 < (yNum y5).1 then yFail 1 (yNum y5).2 else (yNum y5).2) = (ds, y6) := HQD.out
                      have hml := yNum_le y5
                      rw [hm] at hq hml
                      simp only at hq hml
                      have HM := Lib.hid (HD.out.num hN hm)
                      clear hm HD FF
                      go_wp2_with fail
                      refine HM.out.mono ?_
                      rintro e w7 ⟨rfl, hD7⟩
                      have HD7 := Lib.hid hD7
                      clear hD7 HM
                      by_cases h120 : 120 < m
                      · rw [if_pos h120] at hq
                        have HQ := Lib.hid hq
                        clear hq
                        have h120' : (120 : Int) < (m : Int) := by omega
                        go_wp2_with fail
                        refine (HD7.out.fail 1).mono ?_
                        rintro e w8 ⟨rfl, hD8⟩
                        have F8 := Blk.factsD hD8.st.fr
                        have HD8 := Lib.hid hD8
                        have hz8 : gp < w8.heap.size := hD8.pt.lt
                        clear hD8
                        go_wp2_with fail
                        refine ((HD8.out.alloc _).take hN m HQ.out).mono ?_
                        rintro e w9 ⟨B9, k9, d9, rfl, h1, h2, h3, h4, hD9, hO9⟩
                        have H1 := Lib.hid h1
                        have HR9 := Lib.hid (RdB.below h4 hD9.st.bel)
                        have hk9 : k9 ≤ 140737488355328 := by rw [← h1]; have := yTake_len2 m (yFail 1 z); rw [HQ.out] at this; have h8 := HD8.out.st.all; simp only at this; omega
                        have hO0 : OwnB w9 w8.heap.size 5 (some ⟨w8.heap.size, 0, none⟩) 0 [] := hO9.own (OwnB.made w8 w8.heap.size 5 (Nat.le_refl _)) (fun q hq2 => Nat.ne_of_gt (Nat.lt_of_lt_of_eq HD8.out.st.eye.lt (Option.some.inj hq2)))
                        have hS9 : Save (w.heap.size + 1) w8 w9 := ((Save.refl _ w8).below ((Below.refl _ _).alloc (Nat.le_refl _) _) (Nat.le_refl _)).trans hO9.save
                        have hz9 := hS9.size
                        have HS9 := Lib.hid hS9
                        have HD9 := Lib.hid hD9
                        have HO0 := Lib.hid hO0
                        clear h1 h4 hD9 hO9 hO0 hS9
                        go_wp2_with (at_builtin
                                     refine wpList_appB _ rfl (.tmp 104) (.tmp 107) _ rfl w8.heap.size 5 Tryz.underlying30 u8_info (some ⟨w8.heap.size, 0, none⟩) 0 0 [] rfl rfl HO0.out B9 k9 d9 ds rfl H1.out HR9.out ds rfl k9 (by omega) (by omega) hz9 ?_
                                     intro A10 c10 w10 hO10 hc10 hm10 hb10
                                     have hD10 := HD8.out.save (HD9.out.st.eye.below hb10 (by have := HD8.out.lt; have := HD8.out.st.gf0; omega)) (HS9.out.below hb10 (Nat.le_refl _)) (HD9.out.st.all.trans HD8.out.st.all.symm)
                                     have F10 := Blk.factsD hD10.st.fr)
                        go_meet
                        have e := H1.out
                        subst e
                        have hx : DecF w (w10.setCell ⟨w.heap.size + 1 + 1, 6, none⟩ (.slice A10 ds.length c10)) (w.heap.size + 1) (w.heap.size + 1 + 1) gp y6 #[.int .i64 k, .int .i64 id, .int .i64 off, .bool fin, .int .i64 (wrap64 ((cv : Nat) : Int)), .slice A2 r.length c2, .slice A10 ds.length c10] #[.bool bi, .bool bo, .bool bc, .bool true, .bool bf, .bool bw] A2 c2 r n := hD10.store 6 _ (by simp)
                        have hy : OwnB (w10.setCell ⟨w.heap.size + 1 + 1, 6, none⟩ (.slice A10 ds.length c10)) (gp + 1) 5 A10 c10 ds := rd_set_own hO10 (by have := HD8.out.lt; show w.heap.size + 1 + 1 < _; omega) _ (by omega)
                        exact ⟨A10, c10, hc10, hm10, hy, hx⟩
                      · rw [if_neg h120] at hq
                        have HQ := Lib.hid hq
                        clear hq
                        have h120' : ¬ (120 : Int) < (m : Int) := by omega
                        have hD8 := HD7.out
                        have F8 := Blk.factsD hD8.st.fr
                        have HD8 := Lib.hid hD8
                        have hz8 : gp < w7.heap.size := hD8.pt.lt
                        clear hD8
                        go_wp2_with fail
                        refine ((HD8.out.alloc _).take hN m HQ.out).mono ?_
                        rintro e w9 ⟨B9, k9, d9, rfl, h1, h2, h3, h4, hD9, hO9⟩
                        have H1 := Lib.hid h1
                        have HR9 := Lib.hid (RdB.below h4 hD9.st.bel)
                        have hk9 : k9 ≤ 140737488355328 := by rw [← h1]; have := yTake_len2 m (z); rw [HQ.out] at this; have h8 := HD8.out.st.all; simp only at this; omega
                        have hO0 : OwnB w9 w7.heap.size 5 (some ⟨w7.heap.size, 0, none⟩) 0 [] := hO9.own (OwnB.made w7 w7.heap.size 5 (Nat.le_refl _)) (fun q hq2 => Nat.ne_of_gt (Nat.lt_of_lt_of_eq HD8.out.st.eye.lt (Option.some.inj hq2)))
                        have hS9 : Save (w.heap.size + 1) w7 w9 := ((Save.refl _ w7).below ((Below.refl _ _).alloc (Nat.le_refl _) _) (Nat.le_refl _)).trans hO9.save
                        have hz9 := hS9.size
                        have HS9 := Lib.hid hS9
                        have HD9 := Lib.hid hD9
                        have HO0 := Lib.hid hO0
                        clear h1 h4 hD9 hO9 hO0 hS9
                        go_wp2_with (at_builtin
                                     refine wpList_appB _ rfl (.tmp 104) (.tmp 107) _ rfl w7.heap.size 5 Tryz.underlying30 u8_info (some ⟨w7.heap.size, 0, none⟩) 0 0 [] rfl rfl HO0.out B9 k9 d9 ds rfl H1.out HR9.out ds rfl k9 (by omega) (by omega) hz9 ?_
                                     intro A10 c10 w10 hO10 hc10 hm10 hb10
                                     have hD10 := HD8.out.save (HD9.out.st.eye.below hb10 (by have := HD8.out.lt; have := HD8.out.st.gf0; omega)) (HS9.out.below hb10 (Nat.le_refl _)) (HD9.out.st.all.trans HD8.out.st.all.symm)
                                     have F10 := Blk.factsD hD10.st.fr)
                        go_meet
                        have e := H1.out
                        subst e
                        have hx : DecF w (w10.setCell ⟨w.heap.size + 1 + 1, 6, none⟩ (.slice A10 ds.length c10)) (w.heap.size + 1) (w.heap.size + 1 + 1) gp y6 #[.int .i64 k, .int .i64 id, .int .i64 off, .bool fin, .int .i64 (wrap64 ((cv : Nat) : Int)), .slice A2 r.length c2, .slice A10 ds.length c10] #[.bool bi, .bool bo, .bool bc, .bool true, .bool bf, .bool bw] A2 c2 r n := hD10.store 6 _ (by simp)
                        have hy : OwnB (w10.setCell ⟨w.heap.size + 1 + 1, 6, none⟩ (.slice A10 ds.length c10)) (gp + 1) 5 A10 c10 ds := rd_set_own hO10 (by have := HD8.out.lt; show w.heap.size + 1 + 1 < _; omega) _ (by omega)
                        exact ⟨A10, c10, hc10, hm10, hy, hx⟩
                  case rest =>
                    clear HD FP FF
                    obtain ⟨B6, d6, hd6, hm6, hB6, hD⟩ := hcut
                    have FR := Blk.factsD hD.st.res
                    have FF := Blk.factsD hD.st.fr
                    obtain ⟨s6, FY⟩ := hD.st.factsY
                    have HD := Lib.hid hD
                    have HB6 := Lib.hid hB6
                    clear hD hB6
                    have hbody : fbody k fin y1 = (⟨k, id, off, fin, cv, r, ds⟩, y6) := by
                      unfold fbody
                      simp only [HR.out, HBI.out, HBO.out, HBC.out, HBD.out, HBW.out, HQ63.out, HQ68.out, HQC.out, HQD.out]
                    have HBODY := Lib.hid hbody
                    clear hbody
                    by_cases he : y6.e = 0
                    · rw [he] at FY
                      have hmay := fbody_may k fin (y := y1) HOK.out (fun hp => by
                        cases hfin : fin with
                        | false => rfl
                        | true =>
                          exfalso
                          have h15 := HFN.out
                          rw [hfin] at h15
                          have hk := HK.out
                          rw [eq_of_beq h15] at hk
                          have hk : 8 = k := hk
                          rw [← hk] at hp
                          exact absurd hp (by decide)) (by rw [HBODY.out]; exact he)
                      rw [HBODY.out] at hmay
                      obtain ⟨m1, m2, m3, m4⟩ := hmay
                      have HCK : Hid (∀ W, RdX rcells 2 W A2 r → Calls Tryz.prog 57 #[.agg #[.int .i64 k, .int .i64 id, .int .i64 off, .bool fin, .int .i64 (wrap64 ((cv : Nat) : Int)), .slice A2 r.length c2, .slice B6 ds.length d6]] W fun e w' => e = .returned (.int .i64 (if frB ⟨k, id, off, fin, cv, r, ds⟩ = false then 6 else 0)) ∧ Below W.heap.size W w') := fun W hW => fCheck_read ⟨k, id, off, fin, cv, r, ds⟩ m1 m2 m4 A2 c2 B6 d6 W hW hc2 hm2
                      clear m1 m2 m3 m4
                      cases hqB : frB ⟨k, id, off, fin, cv, r, ds⟩ with
                      | false =>
                        rw [hqB, if_pos rfl] at HCK
                        have hfin : fdec bs = (fnil, 0, 6) := by unfold fdec; rw [HY1.out]; simp [HHE.out, H8.out, HK.out, HOK.out, HFN.out, HBODY.out, he, hqB]
                        have HFIN := Lib.hid hfin
                        clear hfin he hqB
                        go_wp2_with fail
                        refine (HCK.out _ HD.out.own.rd).mono ?_
                        rintro e w8 ⟨rfl, hb8⟩
                        clear FR FF FY
                        have FR := Blk.factsD (HD.out.st.res.carry hb8)
                        have HB8 := Lib.hid (HD.out.st.bel.trans (hb8.mono HD.out.st.bel.size))
                        clear hb8
                        go_wp2_with fail
                        refine bodyPost_ret (v := .tuple #[.agg #[.int .i64 0, .int .i64 0, .int .i64 0, .bool false, .int .i64 0, .slice none 0 0, .slice none 0 0], .int .i64 0, .int .i64 6]) ?_ rfl ?_
                        · simp [results, Tryz.results105, go_sem, FR] <;> rfl
                        · rw [HFIN.out]
                          refine fDecOut_none _ _ _ ?_
                          have h := HB8.out
                          (repeat (first | with_reducible exact h | with_reducible refine Below.drew ?_ | ((with_reducible refine Below.setCell ?_ ?side _); case side => (first | (simp; done) | (simp; omega) | omega)) | ((with_reducible refine Below.alloc ?_ ?side _); case side => (first | (simp; done) | (simp; omega) | omega))))
                      | true =>
                        rw [hqB, if_neg (by decide)] at HCK
                        have hfin : fdec bs = (⟨k, id, off, fin, cv, r, ds⟩, y6.u, 0) := by unfold fdec; rw [HY1.out]; simp [HHE.out, H8.out, HK.out, HOK.out, HFN.out, HBODY.out, he, hqB]
                        have hcv : cv ≤ 4611686018427387903 := by unfold frB at hqB; simp at hqB; exact hqB.1
                        rw [wrap64_id cv hcv] at HCK HD FF
                        have HFIN := Lib.hid hfin
                        clear hfin he hqB hcv
                        go_wp2_with fail
                        refine (HCK.out _ HD.out.own.rd).mono ?_
                        rintro e w8 ⟨rfl, hb8⟩
                        clear FR FF FY
                        have hD8 := HD.out.below hb8
                        have FR := Blk.factsD hD8.st.res
                        have FF := Blk.factsD hD8.st.fr
                        obtain ⟨s8, FY⟩ := hD8.st.factsY
                        have HB8 := Lib.hid hD8.st.bel
                        have HO8 := Lib.hid hD8.own
                        have HD8 := Lib.hid (own_carry HB6.out hb8)
                        have hgp : w.heap.size < gp := by have := HD.out.st.ge0; have := HD.out.st.gf0; have := HD.out.lt; omega
                        have hgn : ¬ w.heap.size = w.heap.size + 1 + 1 := by omega
                        have hgn2 : ¬ w.heap.size = w.heap.size + 1 := by omega
                        clear hb8 hD8
                        go_wp2_with fail
                        go_region
                        all_goals
                          go_wp2_with fail
                          refine bodyPost_ret (v := .tuple #[.agg #[.int .i64 k, .int .i64 id, .int .i64 off, .bool fin, .int .i64 cv, .slice A2 r.length c2, .slice B6 ds.length d6], .int .i64 (y6.u : Int), .int .i64 0]) ?_ rfl ?_
                          · simp [results, Tryz.results105, go_sem, FR] <;> rfl
                          · rw [HFIN.out]
                            refine ⟨A2, c2, B6, d6, rfl, ?_, ?_, hc2, hm2, hd6, hm6, ?_, HO8.out.in_ (by omega) (by simp), OwnB.in_ (w := w8) (base := gp + 1) (E := 5) (c := d6) (bs := ds) HD8.out (by omega) (by simp)⟩
                            · refine OwnX.rd (base := gp + 1) (E := 116) (c := c2) ?_
                              have h := HO8.out
                              (repeat (first | with_reducible exact h | with_reducible refine ownX_drew ?_ | ((with_reducible refine OwnX.set_below ?_ ?side _); case side => (show w.heap.size < gp + 1; omega))))
                            · refine OwnB.rd (base := gp + 1) (E := 5) (c := d6) ?_
                              have h : OwnB w8 (gp + 1) 5 B6 d6 ds := HD8.out
                              (repeat (first | with_reducible exact h | with_reducible refine ownB_drew ?_ | ((with_reducible refine ownB_set ?_ ?side _); case side => (show w.heap.size < gp + 1; omega))))
                            · have h := HB8.out
                              (repeat (first | with_reducible exact h | with_reducible refine Below.drew ?_ | ((with_reducible refine Below.setCell ?_ ?side _); case side => (first | (simp; done) | (simp; omega) | omega)) | ((with_reducible refine Below.alloc ?_ ?side _); case side => (first | (simp; done) | (simp; omega) | omega))))
                    · have hne : (y6.e == 0) = false := by simp [he]
                      have hfin : fdec bs = (fnil, 0, y6.e) := by unfold fdec; rw [HY1.out]; simp [HHE.out, H8.out, HK.out, HOK.out, HFN.out, HBODY.out, he]
                      have HFIN := Lib.hid hfin
                      have HBE := Lib.hid HD.out.st.bel
                      generalize y6.e = e1 at *
                      clear hfin he FF
                      go_wp2_with fail
                      go_region
                      all_goals
                        go_wp2_with fail
                        refine bodyPost_ret (v := .tuple #[.agg #[.int .i64 0, .int .i64 0, .int .i64 0, .bool false, .int .i64 0, .slice none 0 0, .slice none 0 0], .int .i64 0, .int .i64 e1]) ?_ rfl ?_
                        · simp [results, Tryz.results105, go_sem, FR] <;> rfl
                        · rw [HFIN.out]
                          refine fDecOut_none _ _ _ ?_
                          have h := HBE.out
                          (repeat (first | with_reducible exact h | with_reducible refine Below.drew ?_ | ((with_reducible refine Below.setCell ?_ ?side _); case side => (first | (simp; done) | (simp; omega) | omega)) | ((with_reducible refine Below.alloc ?_ ?side _); case side => (first | (simp; done) | (simp; omega) | omega))))
        · have hok : kOk k = false := by simpa using hok
          refine (partsOf_bad k hok _).mono ?_
          rintro e w5 ⟨rfl, hb5⟩
          have hfin : fdec bs = (fnil, 0, 2) := by unfold fdec; rw [HY1.out]; simp [HHE.out, h8, HK.out, hok]
          have HFIN := Lib.hid hfin
          have hS5 := HS.out.below hb5
          have FR := Blk.factsD hS5.res
          have HS5 := Lib.hid hS5
          clear hfin hok hb5 hS5 FF HS h8
          go_wp2_with fail
          refine bodyPost_ret (v := .tuple #[.agg #[.int .i64 0, .int .i64 0, .int .i64 0, .bool false, .int .i64 0, .slice none 0 0, .slice none 0 0], .int .i64 0, .int .i64 2]) ?_ rfl ?_
          · simp [results, Tryz.results105, go_sem, FR] <;> rfl
          · rw [HFIN.out]
            refine fDecOut_none _ _ _ ?_
            have h := HS5.out.bel
            (repeat (first | with_reducible exact h | with_reducible refine Below.drew ?_ | ((with_reducible refine Below.setCell ?_ ?side _); case side => (first | (simp; done) | (simp; omega) | omega)) | ((with_reducible refine Below.alloc ?_ ?side _); case side => (first | (simp; done) | (simp; omega) | omega))))
  · have hne : (y1.e == 0) = false := by simp [he]
    have hfin : fdec bs = (fnil, 0, y1.e) := by unfold fdec; rw [HY1.out]; simp [he]
    have HFIN := Lib.hid hfin
    generalize y1.e = e1 at *
    clear hfin he
    go_wp2_with fail
    go_region
    all_goals
      go_wp2_with fail
      refine bodyPost_ret (v := .tuple #[.agg #[.int .i64 0, .int .i64 0, .int .i64 0, .bool false, .int .i64 0, .slice none 0 0, .slice none 0 0], .int .i64 0, .int .i64 e1]) ?_ rfl ?_
      · simp [results, Tryz.results105, go_sem, FR] <;> rfl
      · rw [HFIN.out]
        refine fDecOut_none _ _ _ ?_
        have h := HS.out.bel
        (repeat (first | with_reducible exact h | with_reducible refine Below.drew ?_ | ((with_reducible refine Below.setCell ?_ ?side _); case side => (first | (simp; done) | (simp; omega) | omega)) | ((with_reducible refine Below.alloc ?_ ?side _); case side => (first | (simp; done) | (simp; omega) | omega))))
end Go.Proofs.YtbcagdjfegobnaaGreat
/- Frames in rows; all frames of bytes (plain). -/
namespace Go.Proofs.YtbcagdjfegobnaaGreat
open Go.RowKit
set_option linter.unusedVariables false

/-- A frame as_v it lies in memory. -/
structure FrM where
  f : FrD
  A : Option Addr
  c : Nat
  B : Option Addr
  d : Nat
def fmc (x : FrM) : List Value := [.int .i64 x.f.kind, .int .i64 x.f.id, .int .i64 x.f.off, .bool x.f.fin, .int .i64 x.f.code, .slice x.A x.f.rngs.length x.c, .slice x.B x.f.data.length x.d]
def fmn : FrM := ⟨fnil, none, 0, none, 0⟩
theorem fmc_len (x : FrM) : (fmc x).length = 7 := rfl
theorem fmc_one (x : FrM) : ∀ u ∈ fmc x, u.oneCell' = true := by
  intro u hu
  simp only [fmc, List.mem_cons, List.not_mem_nil, or_false] at hu
  rcases hu with rfl | rfl | rfl | rfl | rfl | rfl | rfl <;> rfl
/-- Its ranges and data. -/
def FrX (w : World) (x : FrM) : Prop := RdX rcells 2 w x.A x.f.rngs ∧ RdB w x.B x.f.data ∧ x.f.rngs.length ≤ x.c ∧ x.c ≤ 9223372036854775807 ∧ x.f.data.length ≤ x.d ∧ x.d ≤ 9223372036854775807
theorem FrX.below {w w' : World} {x : FrM} (h : FrX w x) (hb : Below w.heap.size w w') : FrX w' x := ⟨RdX.below h.1 hb, h.2.1.below hb, h.2.2⟩
/-- A row of frames of the call's own. -/
def FrRow (w : World) (base : Nat) (A : Option Addr) (c : Nat) (xs : List FrM) : Prop := OwnX fmc 7 w base 68 A c xs ∧ ∀ x ∈ xs, FrX w x ∧ InOff w (A.map (·.block)) x.A ∧ InOff w (A.map (·.block)) x.B
theorem FrRow.nil (w : World) (base : Nat) : FrRow w base none 0 [] := ⟨OwnX.nil _ _ _, fun x hx => absurd hx List.not_mem_nil⟩
theorem FrRow.below {w w' : World} {base : Nat} {A : Option Addr} {c : Nat} {xs : List FrM} (h : FrRow w base A c xs) (hb : Below w.heap.size w w') : FrRow w' base A c xs :=
  ⟨h.1.carry hb, fun x hx => ⟨(h.2 x hx).1.below hb, (h.2 x hx).2.1.keep hb.size, (h.2 x hx).2.2.keep hb.size⟩⟩
theorem FrRow.snoc {w w' : World} {base : Nat} {A : Option Addr} {c g cap : Nat} {xs : List FrM} {x : FrM} (h : FrRow w base A c xs) (hx : FrX w x) (hA : InOff w (A.map (·.block)) x.A) (hB : InOff w (A.map (·.block)) x.B)
    (ho : OwnX fmc 7 w' base 68 (some ⟨g, 0, none⟩) cap (xs ++ [x])) (hg : w.grownBy w' (A.map (·.block))) (hl : A.map (·.block) = some g ∨ g = w.heap.size) (hs : w.heap.size ≤ w'.heap.size) : FrRow w' base (some ⟨g, 0, none⟩) cap (xs ++ [x]) := by
  refine ⟨ho, fun y hy => ?_⟩
  have hb : ∀ k, (some (⟨g, 0, none⟩ : Addr)).map (·.block) = some k → A.map (·.block) = some k ∨ w.heap.size ≤ k := fun k hk => by
    have hk : g = k := Option.some.inj hk
    subst hk
    rcases hl with h1 | h1
    · exact .inl h1
    · exact .inr (by omega)
  have hy' : FrX w y ∧ InOff w (A.map (·.block)) y.A ∧ InOff w (A.map (·.block)) y.B := by
    rcases List.mem_append.1 hy with h1 | h1
    · exact h.2 y h1
    · rw [List.mem_singleton.1 h1]; exact ⟨hx, hA, hB⟩
  obtain ⟨⟨a1, a2, a3⟩, b1, b2⟩ := hy'
  exact ⟨⟨Rd.grown a1 b1 hg, Rd.grown a2 b2 hg, a3⟩, b1.grow hs hb, b2.grow hs hb⟩
/-- A row of frames that is read. -/
def FrRd (w : World) (A : Option Addr) (xs : List FrM) : Prop := RdX fmc 7 w A xs ∧ ∀ x ∈ xs, FrX w x
theorem FrRow.rd {w : World} {base : Nat} {A : Option Addr} {c : Nat} {xs : List FrM} (h : FrRow w base A c xs) : FrRd w A xs := ⟨h.1.rd, fun x hx => (h.2 x hx).1⟩
theorem FrRd.below {w w' : World} {A : Option Addr} {xs : List FrM} (h : FrRd w A xs) (hb : Below w.heap.size w w') : FrRd w' A xs := ⟨RdX.below h.1 hb, fun x hx => (h.2 x hx).below hb⟩
theorem FrRd.at_ {w : World} {A : Option Addr} {xs : List FrM} (h : FrRd w A xs) (hn : 0 < xs.length) : ∃ b off, A = some ⟨b, off, none⟩ ∧ ∀ k, k < xs.length → ∀ j v, j < 7 → (fmc (xs.getD k fmn))[j]? = some v → w.cell? ⟨b, off + k * 7 + j, none⟩ = some v := RdX.at_ fmc_len h.1 fmn hn

/-! ### all frames of bytes -/
def fallN : Nat → List FrD → List UInt8 → List FrD × Int
  | 0, acc, _ => (acc, 0)
  | k + 1, acc, bs =>
    if bs = [] then (acc, 0) else if acc.length = 12 then ([], 8) else if (fdec bs).2.2 ≠ 0 then ([], (fdec bs).2.2) else fallN k (acc ++ [(fdec bs).1]) (bs.drop (fdec bs).2.1)
/-- All frames of bytes, and what is wrong. -/
def fall (bs : List UInt8) : List FrD × Int := fallN 13 [] bs
theorem fenc_ne (f : FrD) (ok : FrOk f) : fenc f ≠ [] := by
  have h := (encB_le8 (fkind f) (by have := (fkind_cases f ok).1; omega)).2
  intro e
  have h2 : (fenc f).length = 0 := by rw [e]; rfl
  unfold fenc at h2
  simp only [List.length_append] at h2; omega
theorem fallN_back (k : Nat) (acc fs : List FrD) (hk : acc.length + k = 13) (ok : ∀ f ∈ fs, FrOk f) : fallN k acc (fs.flatMap fenc) = if acc.length + fs.length ≤ 12 then (acc ++ fs, 0) else if k = 0 then (acc, 0) else ([], 8) := by
  induction k generalizing acc fs with
  | zero => rw [if_neg (by omega)]; rfl
  | succ k ih =>
    cases fs with
    | nil => rw [if_pos (by simp; omega)]; simp [fallN]
    | cons f fs =>
      have h1 := fenc_ne f (ok f List.mem_cons_self)
      have h2 : (f :: fs).flatMap fenc ≠ [] := by
        rw [List.flatMap_cons]; intro e; exact h1 (List.append_eq_nil_iff.1 e).1
      rw [fallN, if_neg h2]
      by_cases h12 : acc.length = 12
      · rw [if_pos h12, if_neg (by simp; omega), if_neg (by omega)]
      · rw [if_neg h12]
        have hd := fdec_back f (ok f List.mem_cons_self) (fs.flatMap fenc)
        rw [List.flatMap_cons, hd]
        simp only [ne_eq, not_true_eq_false, if_false, List.drop_left]
        rw [ih (acc ++ [f]) fs (by simp; omega) (fun g hg => ok g (List.mem_cons_of_mem _ hg))]
        simp only [List.length_append, List.length_cons, List.length_nil, List.append_assoc, List.cons_append, List.nil_append]
        by_cases h : acc.length + (0 + 1) + fs.length ≤ 12
        · rw [if_pos h, if_pos (by omega)]
        · rw [if_neg h, if_neg (by omega), if_neg (show ¬ k + 1 = 0 by omega), if_neg (by omega)]
/-- Frames one behind the other are read so, up to twelve. -/
theorem fall_back (fs : List FrD) (ok : ∀ f ∈ fs, FrOk f) : fall (fs.flatMap fenc) = if fs.length ≤ 12 then (fs, 0) else ([], 8) := by
  have h := fallN_back 13 [] fs rfl ok
  simpa [fall] using h
end Go.Proofs.YtbcagdjfegobnaaGreat
/- The contract of frame.All. -/
namespace Go.Proofs.YtbcagdjfegobnaaGreat
open Go.ChangeShapes Go.WideShapes Go.ChangeAt Go.RowKit
set_option linter.unusedVariables false

theorem frInfo : (Tryz.prog.info? 68).map (fun i => (i.zero, i.size, i.bytes)) = some (some (.agg #[.int .i64 0, .int .i64 0, .int .i64 0, .bool false, .int .i64 0, .slice none 0 0, .slice none 0 0]), 7, 88) := by kernel_rfl
def sliceLen : Value → Nat
  | .slice _ n _ => n
  | _ => 0
/-- What All answers. -/
def AllOut (w : World) (fs : List FrD) (E : Int) (e : Ending) (w' : World) : Prop := ∃ (A : Option Addr) (k c : Nat) (xs : List FrM), e = .returned (.tuple #[.slice A k c, .int .i64 E]) ∧ xs.map (·.f) = fs ∧ xs.length = k ∧ FrRow w' w.heap.size A c xs ∧ Below w.heap.size w w'

set_option maxRecDepth 100000 in
set_option maxHeartbeats 4000000 in
theorem fAll_any (A : Option Addr) (bs : List UInt8) (n c : Nat) (w : World) (hn : bs.length = n) (hr : RdB w A bs) (hnc : n ≤ c) (hcm : c ≤ 9223372036854775807) (hN : n ≤ 140737488355328) :
    Calls Tryz.prog 67 #[.slice A n c] w (AllOut w (fall bs).1 (fall bs).2) := by
  have HNB := Lib.hid hn
  have HRB := Lib.hid hr
  clear hn hr
  go_enter Tryz.func67, Tryz.ntmps67
  go_wp2_with fail
  go_loopw [0, 4] (fun s0 s4 wr => ∃ (i : Nat) (D : Option Addr) (m d : Nat) (ds : List UInt8) (Ao : Option Addr) (co : Nat) (xs : List FrM), s0 = .slice D m d ∧ s4 = .slice Ao i co ∧ ds.length = m ∧ m ≤ d ∧ d ≤ 9223372036854775807 ∧ m ≤ 140737488355328 ∧ RdB w D ds ∧ FrRow wr w.heap.size Ao co xs ∧ xs.length = i ∧ i ≤ 12 ∧ Below w.heap.size w wr ∧ fallN (13 - i) (xs.map (·.f)) ds = fall bs) (fun _ s4 _ => 13 - sliceLen s4)
  case atStart => exact ⟨0, A, n, c, bs, none, 0, [], rfl, rfl, HNB.out, hnc, hcm, hN, HRB.out, FrRow.nil _ _, rfl, by decide, Below.refl _ _, rfl⟩
  case round =>
    obtain ⟨i, D, m, d, ds, Ao, co, xs, rfl, rfl, hm, hmd, hdm, hmN, hrd, hrow, hxl, hi, hb, hfl⟩ := hrel
    have HM := Lib.hid hm
    have HRD := Lib.hid hrd
    have HROW := Lib.hid hrow
    have HXL := Lib.hid hxl
    have HB := Lib.hid hb
    have HFL := Lib.hid hfl
    have hxm : (xs.map (·.f)).length = i := by rw [List.length_map, hxl]
    have HXM := Lib.hid hxm
    clear hm hrd hrow hxl hb hfl hxm
    by_cases h0 : m = 0
    · subst h0
      have hds : ds = [] := List.eq_nil_of_length_eq_zero HM.out
      have hf : fall bs = (xs.map (·.f), 0) := by
        rw [← HFL.out, hds, show 13 - i = (12 - i) + 1 by omega, fallN, if_pos rfl]
      have HF := Lib.hid hf
      clear hds hf
      go_wp2_with fail
      go_ret2
      rw [HF.out]
      exact ⟨Ao, i, co, xs, rfl, rfl, HXL.out, HROW.out, HB.out⟩
    · have hm0 : (0 : Int) < (m : Int) := by omega
      have hdne : ds ≠ [] := by intro e; have := HM.out; rw [e] at this; exact h0 this.symm
      have HDNE := Lib.hid hdne
      clear hdne h0
      by_cases h12 : i = 12
      · have hf : fall bs = ([], 8) := by
          rw [← HFL.out, show 13 - i = (12 - i) + 1 by omega, fallN, if_neg HDNE.out, if_pos (by rw [HXM.out]; exact h12)]
        have HF := Lib.hid hf
        subst h12
        clear hf
        go_wp2_with fail
        go_ret2
        rw [HF.out]
        exact ⟨none, 0, 0, [], rfl, rfl, rfl, FrRow.nil _ _, HB.out⟩
      · have hne12 : ((i : Int) == 12) = false := by simp; omega
        have hi12 : i + 1 ≤ 12 := by omega
        have hfs : fallN (13 - i) (xs.map (·.f)) ds = if (fdec ds).2.2 ≠ 0 then ([], (fdec ds).2.2) else fallN (13 - (i + 1)) (xs.map (·.f) ++ [(fdec ds).1]) (ds.drop (fdec ds).2.1) := by
          rw [show 13 - i = (13 - (i + 1)) + 1 by omega, fallN, if_neg HDNE.out, if_neg (by rw [HXM.out]; exact h12)]
        rw [HFL.out] at hfs
        have HFS := Lib.hid hfs
        have hok := @fdec_ok ds
        have hdc := fDec_in D ds m d
        obtain ⟨⟨f, u, E⟩, hfd⟩ : ∃ r, fdec ds = r := ⟨_, rfl⟩
        rw [hfd] at HFS hok
        simp only [hfd] at hdc
        simp only at HFS hok
        have HOK := Lib.hid hok
        have HDC := Lib.hid (fun W (hW : Below w.heap.size w W) => hdc W HM.out (HRD.out.below hW) hmd hdm hmN)
        clear hfs hok hdc hfd HFL HDNE h12
        go_wp2_with fail
        refine (HDC.out _ HB.out).mono ?_
        rintro e w5 ⟨A5, c5, B5, d5, rfl, hA5, hB5, hc5, hcm5, hd5, hdm5, hb5, hiA, hiB⟩
        simp only [frcells]
        have hlt := fun k hk => (HROW.out.1.lt (n := i) k (by rw [blk_of]; exact hk)).2
        have hzb := hb5.size
        go_upto_region 6 with (fail)
        refine wp_world (fun w' => Blk w' w5.heap.size 68 #[.int .i64 f.kind, .int .i64 f.id, .int .i64 f.off, .bool f.fin, .int .i64 f.code, .slice A5 f.rngs.length c5, .slice B5 f.data.length d5] ∧ FrX w' ⟨f, A5, c5, B5, d5⟩ ∧ InOff w' (Ao.map (·.block)) A5 ∧ InOff w' (Ao.map (·.block)) B5 ∧ FrRow w' w.heap.size Ao co xs ∧ Below w.heap.size w w')
          ⟨Blk.new _ _ _, ⟨Rd.alloc hA5 _, Rd.alloc hB5 _, hc5, hcm5, hd5, hdm5⟩, (InOff.fresh hiA hlt).keep (by simp), (InOff.fresh hiB hlt).keep (by simp), (HROW.out.below hb5).below ((Below.refl _ _).alloc (Nat.le_refl _) _), (HB.out.trans (hb5.mono HB.out.size)).alloc (HB.out.trans (hb5.mono HB.out.size)).size _⟩ ?_
        generalize w5.heap.size = g5 at *
        clear hA5 hB5 hc5 hcm5 hd5 hdm5 hb5 hiA hiB hlt hzb HROW HB HDC
        rintro w6 ⟨hG, hX, hIA, hIB, hrow, hb⟩
        have FG := Blk.factsD hG
        have HX := Lib.hid hX
        have HIA := Lib.hid hIA
        have HIB := Lib.hid hIB
        have HROW := Lib.hid hrow
        have HB := Lib.hid hb
        clear hG hX hIA hIB hrow hb
        by_cases hE : E = 0
        · subst hE
          have hfs := HFS.out
          rw [if_neg (by decide)] at hfs
          have HFS2 := Lib.hid hfs
          obtain ⟨_, hu1, hu2⟩ := HOK.out rfl
          rw [HM.out] at hu2
          have hu0 : (0 : Int) ≤ (u : Int) := by omega
          have hum : (u : Int) ≤ (m : Int) := by omega
          have hud : (u : Int) ≤ (d : Int) := by omega
          obtain ⟨D2, hD2⟩ : ∃ D2, (if d = u then D else Option.map (fun x => x.add u) D) = D2 := ⟨_, rfl⟩
          have hcut := RdB.cut (k := u) (cap := d) HRD.out (by rw [HM.out]; exact hu2) (by rw [HM.out]; exact hmd)
          have HCUT : Hid (RdB w D2 (ds.drop u)) := by rw [← hD2]; exact hcut
          have hz := HB.out.size
          clear hfs hu1 hcut HFS HOK HRD
          go_wp2_with (at_builtin
                       refine wpList_addN fmc 7 88 fmc_len fmc_one rfl (.tmp 23) (.tmp 25) _ rfl 68 _ Tryz.underlying41 frInfo rfl (by decide) (by decide) w.heap.size Ao i co xs HXL.out rfl (HROW.out.1.alloc _) ⟨f, A5, c5, B5, d5⟩ w6.heap.size 1 rfl (Rd.new _ _ _ 7 rfl) (i + 1) rfl (by omega) (by simp; omega) ?_
                       intro g8 c8 w8 hO8 hc8 hm8 hb8 hg8 hl8 hz8)
          go_roundw
          case rel =>
            refine ⟨i + 1, D2, m - u, d - u, ds.drop u, some ⟨g8, 0, none⟩, c8, xs ++ [⟨f, A5, c5, B5, d5⟩], by first | rfl | (congr 1; omega), rfl, by rw [List.length_drop, HM.out], by omega, by omega, by omega, HCUT.out, ?_, by rw [List.length_append, HXL.out]; rfl, by omega, (HB.out.alloc hz _).trans hb8, ?_⟩
            · have hal : ∀ o, Below w6.heap.size w6 (w6.alloc o) := fun o => (Below.refl _ _).alloc (Nat.le_refl _) _
              exact (HROW.out.below (hal _)).snoc (HX.out.below (hal _)) (HIA.out.keep (hal _).size) (HIB.out.keep (hal _).size) hO8 hg8 hl8 hb8.size
            · rw [HFS2.out, List.map_append]; rfl
          case measure => simp [sliceLen]; omega
        · have hne : (E == 0) = false := by simp [hE]
          have hfs := HFS.out
          rw [if_pos hE] at hfs
          have HF := Lib.hid hfs
          clear hfs hE HFS HOK
          go_wp2_with fail
          go_ret2
          rw [HF.out]
          exact ⟨none, 0, 0, [], rfl, rfl, rfl, FrRow.nil _ _, HB.out⟩
end Go.Proofs.YtbcagdjfegobnaaGreat
