/- Texts of the proof, laid together: EyeWalk EyeRngs FrameDec0. -/
import Derived.Test.YtbcagdjfegobnaaGreatC19
import Derived.Test.YtbcagdjfegobnaaGreatC20
import Derived.Deep.RegionHeld3
/- The contracts of an eye's fail, number and take. -/
namespace Go.Proofs.YtbcagdjfegobnaaGreat
open Go.ChangeShapes Go.WideShapes Go.ChangeAt Go.RowKit
set_option linter.unusedVariables false

/-- What stays where one block alone is written: all others. -/
structure Only (g : Nat) (w w' : World) : Prop where
  os : w'.os = w.os
  tape : w'.tape = w.tape
  output : w'.output = w.output
  size : w'.heap.size = w.heap.size
  block : ∀ q, q ≠ g → w'.heap[q]? = w.heap[q]?
theorem Only.refl (g : Nat) (w : World) : Only g w w := ⟨rfl, rfl, rfl, rfl, fun _ _ => rfl⟩
theorem Only.trans {g : Nat} {a b c : World} (h : Only g a b) (k : Only g b c) : Only g a c := ⟨k.os.trans h.os, k.tape.trans h.tape, k.output.trans h.output, k.size.trans h.size, fun q hq => (k.block q hq).trans (h.block q hq)⟩
theorem Only.set (g i : Nat) (w : World) (u : Value) : Only g w (w.setCell ⟨g, i, none⟩ u) := by
  have h := (Below.refl 0 w).setCell (p := ⟨g, i, none⟩) (Nat.zero_le _) u
  exact ⟨h.os, h.tape, h.output, by simp, fun q hq => Below.heap_setCell w ⟨g, i, none⟩ u q hq⟩
theorem Only.below {g : Nat} {w w' : World} (h : Only g w w') {B : Nat} (hB : B ≤ g) : Below B w w' := ⟨h.os, h.tape, h.output, by rw [h.size]; exact Nat.le_refl _, fun q hq => h.block q (by omega)⟩
theorem Only.blk {g : Nat} {w w' : World} (h : Only g w w') {q : Nat} {t : TypeId} {cs : Array Value} (hq : q ≠ g) (hb : Blk w q t cs) : Blk w' q t cs := (h.block q hq).trans hb
theorem Only.own {g : Nat} {w w' : World} (h : Only g w w') {base : Nat} {e : TypeId} {size n : Nat} {v : Value} {xs : List Value} (ho : w.ownsRow base e size v n xs) (hg : ∀ k, v.ownBlock = some k → k ≠ g) : w'.ownsRow base e size v n xs := by
  refine ⟨ho.1, ?_⟩
  rcases ho.2 with h2 | ⟨k, cap, cur, hv, hk, hh, r⟩
  · exact .inl h2
  · exact .inr ⟨k, cap, cur, hv, hk, (h.block k (hg k (by rw [hv]; rfl))).trans hh, r⟩

theorem Blk.factsE {w : World} {g : Nat} {t : TypeId} {x y z : Value} (h : Blk w g t #[x, y, z]) : g < w.heap.size ∧ w.cell? ⟨g, 0, none⟩ = some x ∧ w.cell? ⟨g, 1, none⟩ = some y ∧ w.cell? ⟨g, 2, none⟩ = some z ∧
    w.frozen? ⟨g, 0, none⟩ = false ∧ w.frozen? ⟨g, 1, none⟩ = false ∧ w.frozen? ⟨g, 2, none⟩ = false :=
  ⟨h.lt, by rw [h.cell]; rfl, by rw [h.cell]; rfl, by rw [h.cell]; rfl, h.frozen 0, h.frozen 1, h.frozen 2⟩

/-- An eye in memory: what it reads was there from the beginning. -/
def EyeM (w0 w : World) (g : Nat) (y : EyeD) : Prop := ∃ (A : Option Addr) (n c : Nat), y.b.length = n ∧ n ≤ c ∧ c ≤ 9223372036854775807 ∧ Blk w g 244 #[.slice A n c, .int .i64 (y.u : Int), .int .i64 y.e] ∧ RdB w0 A y.b

theorem fail_zero (g : Nat) (s u : Value) (E : Int) (w : World) (h : Blk w g 244 #[s, u, .int .i64 0]) :
    Calls Tryz.prog 140 #[.pointer (some ⟨g, 0, none⟩), .int .i64 E] w fun e w' => e = .returned (.tuple #[]) ∧ w.setCell ⟨g, 2, none⟩ (.int .i64 E) = w' := by
  have F := h.factsE
  clear h
  go_enter Tryz.func140, Tryz.ntmps140
  go_wp2_with fail
  go_end0
  exact ⟨rfl, rfl⟩
theorem fail_non (g : Nat) (s u : Value) (E e0 : Int) (h0 : e0 ≠ 0) (w : World) (h : Blk w g 244 #[s, u, .int .i64 e0]) :
    Calls Tryz.prog 140 #[.pointer (some ⟨g, 0, none⟩), .int .i64 E] w fun e w' => e = .returned (.tuple #[]) ∧ w = w' := by
  have F := h.factsE
  have hne : (e0 == 0) = false := by simp [h0]
  clear h h0
  go_enter Tryz.func140, Tryz.ntmps140
  go_wp2_with fail
  go_end0
  exact ⟨rfl, rfl⟩
theorem fail_any (w0 w : World) (g : Nat) (y : EyeD) (E : Int) (h : EyeM w0 w g y) :
    Calls Tryz.prog 140 #[.pointer (some ⟨g, 0, none⟩), .int .i64 E] w fun e w' => e = .returned (.tuple #[]) ∧ EyeM w0 w' g (yFail E y) ∧ Only g w w' := by
  obtain ⟨A, n, c, hn, hnc, hcm, hB, hr⟩ := h
  obtain ⟨b, u, e⟩ := y
  by_cases h0 : e = 0
  · subst h0
    refine (fail_zero g _ _ E w hB).mono ?_
    rintro _ w' ⟨rfl, rfl⟩
    exact ⟨rfl, ⟨A, n, c, hn, hnc, hcm, hB.set_ 2 _, hr⟩, Only.set _ _ _ _⟩
  · refine (fail_non g _ _ E e h0 w hB).mono ?_
    rintro _ w' ⟨rfl, rfl⟩
    refine ⟨rfl, ?_, Only.refl _ _⟩
    rw [yFail_e h0]
    exact ⟨A, n, c, hn, hnc, hcm, hB, hr⟩

set_option maxRecDepth 100000 in
theorem number_off (g : Nat) (s u : Value) (e0 : Int) (h0 : e0 ≠ 0) (w : World) (h : Blk w g 244 #[s, u, .int .i64 e0]) :
    Calls Tryz.prog 137 #[.pointer (some ⟨g, 0, none⟩)] w fun e w' => e = .returned (.int .i64 0) ∧ w = w' := by
  have F := h.factsE
  have hne : (e0 == 0) = false := by simp [h0]
  clear h h0
  go_enter Tryz.func137, Tryz.ntmps137
  go_wp2_with fail
  go_ret
  exact ⟨rfl, rfl⟩
set_option maxRecDepth 100000 in
set_option maxHeartbeats 1000000 in
theorem number_short (g n c : Nat) (A : Option Addr) (b : List UInt8) (u : Value) (hn : b.length = n) (hnc : n ≤ c) (hcm : c ≤ 9223372036854775807) (w : World) (h : Blk w g 244 #[.slice A n c, u, .int .i64 0]) (hr : RdB w A b) (hd : decR b = (0, 0, 4)) :
    Calls Tryz.prog 137 #[.pointer (some ⟨g, 0, none⟩)] w fun e w' => e = .returned (.int .i64 0) ∧ w.setCell ⟨g, 2, none⟩ (.int .i64 4) = w' := by
  have F := h.factsE
  have HD := Lib.hid (decode_n A b n c w hn hr hnc hcm _ hd)
  have HH := Lib.hid h
  clear h hr hd hn
  go_enter Tryz.func137, Tryz.ntmps137
  go_wp2_with fail
  refine HD.out.mono ?_
  rintro e w' ⟨rfl, rfl⟩
  go_wp2_with fail
  refine (fail_zero g _ _ 4 _ HH.out).mono ?_
  rintro e w' ⟨rfl, rfl⟩
  go_wp2_with fail
  go_ret
  exact ⟨rfl, rfl⟩
set_option maxRecDepth 100000 in
set_option maxHeartbeats 1000000 in
theorem number_good (g n c m K u : Nat) (A D : Option Addr) (b : List UInt8) (hn : b.length = n) (hnc : n ≤ c) (hcm : c ≤ 9223372036854775807) (w : World) (h : Blk w g 244 #[.slice A n c, .int .i64 (u : Int), .int .i64 0]) (hr : RdB w A b) (hd : decR b = ((m : Int), (K : Int), 0))
    (hK : K ≤ n) (hu : u + n ≤ 140737488355328) (hD : (if c = K then A else Option.map (fun x => x.add K) A) = D) :
    Calls Tryz.prog 137 #[.pointer (some ⟨g, 0, none⟩)] w fun e w' => e = .returned (.int .i64 (m : Int)) ∧ (w.setCell ⟨g, 0, none⟩ (.slice D (n - K) (c - K))).setCell ⟨g, 1, none⟩ (.int .i64 ((u : Int) + (K : Int))) = w' := by
  have F := h.factsE
  have HD := Lib.hid (decode_n A b n c w hn hr hnc hcm _ hd)
  have hk0 : (0 : Int) ≤ (K : Int) := by omega
  have hkn : (K : Int) ≤ (n : Int) := by omega
  have hkc : (K : Int) ≤ (c : Int) := by omega
  clear h hr hd hn
  go_enter Tryz.func137, Tryz.ntmps137
  go_wp2_with fail
  refine HD.out.mono ?_
  rintro e w' ⟨rfl, rfl⟩
  go_wp2_with fail
  go_ret
  exact ⟨rfl, rfl⟩
theorem eyeNum_any (w0 w : World) (g : Nat) (y : EyeD) (hy : y.u + y.b.length ≤ 140737488355328) (hg : w0.heap.size ≤ g) (hb : Below w0.heap.size w0 w) (h : EyeM w0 w g y) :
    Calls Tryz.prog 137 #[.pointer (some ⟨g, 0, none⟩)] w fun e w' => e = .returned (.int .i64 ((yNum y).1 : Nat)) ∧ EyeM w0 w' g (yNum y).2 ∧ Only g w w' := by
  obtain ⟨A, n, c, hn, hnc, hcm, hB, hr⟩ := h
  obtain ⟨b, u, e⟩ := y
  simp only at hn
  by_cases h0 : e = 0
  · subst h0
    rcases decR_cases b with ⟨hd, _⟩ | ⟨m, K, hd, e1, e2, e3, e4, e5⟩
    · have hy : yNum ⟨b, u, 0⟩ = (0, ⟨b, u, 4⟩) := by simp [yNum, hd]
      rw [hy]
      refine (number_short g n c A b _ hn hnc hcm w hB (hr.below hb) hd).mono ?_
      rintro _ w' ⟨rfl, rfl⟩
      exact ⟨rfl, ⟨A, n, c, hn, hnc, hcm, hB.set_ 2 _, hr⟩, Only.set _ _ _ _⟩
    · have hyn : yNum ⟨b, u, 0⟩ = (m, ⟨b.drop K, u + K, 0⟩) := by simp [yNum, hd]
      rw [hyn]
      have hc := RdB.cut (k := K) (cap := c) hr e3 (by simp only [hn]; omega)
      refine (number_good g n c m K u A _ b hn hnc hcm w hB (hr.below hb) hd (by omega) (by simp only at hy; omega) rfl).mono ?_
      rintro _ w' ⟨rfl, rfl⟩
      refine ⟨rfl, ⟨_, n - K, c - K, by simp; omega, by omega, by omega, ?_, hc⟩, (Only.set _ _ _ _).trans (Only.set _ _ _ _)⟩
      refine Blk.as ((hB.set_ 0 _).set_ 1 _) ?_
      simp
  · have hy : yNum ⟨b, u, e⟩ = (0, ⟨b, u, e⟩) := by simp [yNum, h0]
    rw [hy]
    refine (number_off g _ _ e h0 w hB).mono ?_
    rintro _ w' ⟨rfl, rfl⟩
    exact ⟨rfl, ⟨A, n, c, hn, hnc, hcm, hB, hr⟩, Only.refl _ _⟩

set_option maxRecDepth 100000 in
theorem take_off (g : Nat) (s u : Value) (e0 : Int) (n : Nat) (h0 : e0 ≠ 0) (w : World) (h : Blk w g 244 #[s, u, .int .i64 e0]) :
    Calls Tryz.prog 139 #[.pointer (some ⟨g, 0, none⟩), .int .i64 (n : Int)] w fun e w' => e = .returned (.slice none 0 0) ∧ w = w' := by
  have F := h.factsE
  have hne : (e0 == 0) = false := by simp [h0]
  clear h h0
  go_enter Tryz.func139, Tryz.ntmps139
  go_wp2_with fail
  go_ret
  exact ⟨rfl, rfl⟩
set_option maxRecDepth 100000 in
set_option maxHeartbeats 1000000 in
theorem take_short (g l c n : Nat) (A : Option Addr) (u : Value) (hl : l < n) (w : World) (h : Blk w g 244 #[.slice A l c, u, .int .i64 0]) :
    Calls Tryz.prog 139 #[.pointer (some ⟨g, 0, none⟩), .int .i64 (n : Int)] w fun e w' => e = .returned (.slice none 0 0) ∧ w.setCell ⟨g, 2, none⟩ (.int .i64 4) = w' := by
  have F := h.factsE
  have HH := Lib.hid h
  have hd : decide (l < n) = true := decide_eq_true hl
  clear h
  go_enter Tryz.func139, Tryz.ntmps139
  go_wp2_with fail
  refine (fail_zero g _ _ 4 _ HH.out).mono ?_
  rintro e w' ⟨rfl, rfl⟩
  go_wp2_with fail
  go_ret
  exact ⟨rfl, rfl⟩
set_option maxRecDepth 100000 in
set_option maxHeartbeats 1000000 in
theorem take_good (g l c n u : Nat) (A D : Option Addr) (hn : n ≤ l) (hnc : l ≤ c) (hcm : c ≤ 9223372036854775807) (hu : u + l ≤ 140737488355328) (w : World) (h : Blk w g 244 #[.slice A l c, .int .i64 (u : Int), .int .i64 0])
    (hD : (if c = n then A else Option.map (fun x => x.add n) A) = D) :
    Calls Tryz.prog 139 #[.pointer (some ⟨g, 0, none⟩), .int .i64 (n : Int)] w fun e w' => e = .returned (.slice A n n) ∧ (w.setCell ⟨g, 0, none⟩ (.slice D (l - n) (c - n))).setCell ⟨g, 1, none⟩ (.int .i64 ((u : Int) + (n : Int))) = w' := by
  have F := h.factsE
  have hd : decide (l < n) = false := decide_eq_false (by omega)
  have hk0 : (0 : Int) ≤ (n : Int) := by omega
  have hkn : (n : Int) ≤ (l : Int) := by omega
  have hkc : (n : Int) ≤ (c : Int) := by omega
  clear h
  go_enter Tryz.func139, Tryz.ntmps139
  go_wp2_with fail
  go_ret
  exact ⟨rfl, rfl⟩
theorem eyeTake_any (w0 w : World) (g n : Nat) (y : EyeD) (hy : y.u + y.b.length ≤ 140737488355328) (hg : w0.heap.size ≤ g) (hb : Below w0.heap.size w0 w) (h : EyeM w0 w g y) :
    Calls Tryz.prog 139 #[.pointer (some ⟨g, 0, none⟩), .int .i64 (n : Int)] w fun e w' => ∃ (A : Option Addr) (k c : Nat), e = .returned (.slice A k c) ∧ (yTake n y).1.length = k ∧ k ≤ c ∧ c ≤ 9223372036854775807 ∧ RdB w0 A (yTake n y).1 ∧ EyeM w0 w' g (yTake n y).2 ∧ Only g w w' := by
  obtain ⟨A, l, c, hl, hnc, hcm, hB, hr⟩ := h
  obtain ⟨b, u, e⟩ := y
  simp only at hl
  by_cases h0 : e = 0
  · subst h0
    by_cases hs : l < n
    · have hy : yTake n ⟨b, u, 0⟩ = ([], ⟨b, u, 4⟩) := by simp [yTake, hl, hs]
      rw [hy]
      refine (take_short g l c n A _ hs w hB).mono ?_
      rintro _ w' ⟨rfl, rfl⟩
      exact ⟨none, 0, 0, rfl, rfl, Nat.le_refl _, by decide, RdB.nil, ⟨A, l, c, hl, hnc, hcm, hB.set_ 2 _, hr⟩, Only.set _ _ _ _⟩
    · have hy' : yTake n ⟨b, u, 0⟩ = (b.take n, ⟨b.drop n, u + n, 0⟩) := by simp [yTake, hl, hs]
      rw [hy']
      have hc := RdB.cut (k := n) (cap := c) hr (by simp only [hl]; omega) (by simp only [hl]; omega)
      refine (take_good g l c n u A _ (by omega) hnc hcm (by simp only [hl] at hy; omega) w hB rfl).mono ?_
      rintro _ w' ⟨rfl, rfl⟩
      refine ⟨A, n, n, rfl, by simp; omega, Nat.le_refl _, by omega, hr.front (by simp only [hl]; omega), ⟨_, l - n, c - n, by simp; omega, by omega, by omega, ?_, hc⟩, (Only.set _ _ _ _).trans (Only.set _ _ _ _)⟩
      refine Blk.as ((hB.set_ 0 _).set_ 1 _) ?_
      simp
  · have hy : yTake n ⟨b, u, e⟩ = ([], ⟨b, u, e⟩) := by simp [yTake, h0]
    rw [hy]
    refine (take_off g _ _ e n h0 w hB).mono ?_
    rintro _ w' ⟨rfl, rfl⟩
    exact ⟨none, 0, 0, rfl, rfl, Nat.le_refl _, by decide, RdB.nil, ⟨A, l, c, hl, hnc, hcm, hB, hr⟩, Only.refl _ _⟩
end Go.Proofs.YtbcagdjfegobnaaGreat
/- The contract of an eye's ranges. (Printed by gen_eyerngs.py.) -/
namespace Go.Proofs.YtbcagdjfegobnaaGreat
open Go.ChangeShapes Go.WideShapes Go.ChangeAt Go.RowKit
set_option linter.unusedVariables false

theorem yNum_le (y : EyeD) : (yNum y).1 ≤ 4611686018427387903 := by
  unfold yNum
  by_cases h0 : y.e ≠ 0
  · simp [h0]
  · rw [if_neg h0]
    rcases decR_cases y.b with ⟨e, _⟩ | ⟨n, K, e, e1, e2, e3, e4, e5⟩
    · simp [e]
    · rw [e]
      have := (dec_size y.b n K e1 e5).1
      simp; omega
theorem yNum_all (y : EyeD) : (yNum y).2.u + (yNum y).2.b.length = y.u + y.b.length := by
  unfold yNum
  by_cases h0 : y.e ≠ 0
  · simp [h0]
  · rw [if_neg h0]
    rcases decR_cases y.b with ⟨e, _⟩ | ⟨n, K, e, e1, e2, e3, e4, e5⟩
    · simp [e]
    · rw [e]; simp; omega
theorem yFail_all (E : Int) (y : EyeD) : (yFail E y).u + (yFail E y).b.length = y.u + y.b.length := by
  unfold yFail; split <;> rfl
theorem yStep_all (hi : Int) (y : EyeD) : (yStep hi y).2.u + (yStep hi y).2.b.length = y.u + y.b.length := by
  unfold yStep
  simp only
  split
  · rw [yFail_all, yNum_all]
  · rw [yNum_all]
theorem yMany_all (y : EyeD) : (yMany y).2.u + (yMany y).2.b.length = y.u + y.b.length := by
  unfold yMany
  simp only
  split
  · rw [yFail_all, yNum_all]
  · rw [yNum_all]

/-- What stays where block g is written and memory is made. -/
structure Save (g : Nat) (w w' : World) : Prop where
  os : w'.os = w.os
  tape : w'.tape = w.tape
  output : w'.output = w.output
  size : w.heap.size ≤ w'.heap.size
  block : ∀ q, q < w.heap.size → q ≠ g → w'.heap[q]? = w.heap[q]?
theorem Save.refl (g : Nat) (w : World) : Save g w w := ⟨rfl, rfl, rfl, Nat.le_refl _, fun _ _ _ => rfl⟩
theorem Save.trans {g : Nat} {a b c : World} (h : Save g a b) (k : Save g b c) : Save g a c := ⟨k.os.trans h.os, k.tape.trans h.tape, k.output.trans h.output, Nat.le_trans h.size k.size, fun q hq hg => (k.block q (Nat.lt_of_lt_of_le hq h.size) hg).trans (h.block q hq hg)⟩
theorem Only.save {g : Nat} {w w' : World} (h : Only g w w') : Save g w w' := ⟨h.os, h.tape, h.output, by rw [h.size]; exact Nat.le_refl _, fun q _ hg => h.block q hg⟩
theorem Save.below {g : Nat} {a w w' : World} (h : Save g a w) {B : Nat} (hb : Below B w w') (hB : a.heap.size ≤ B) : Save g a w' := ⟨hb.os.trans h.os, hb.tape.trans h.tape, hb.output.trans h.output, Nat.le_trans h.size hb.size, fun q hq hg => (hb.block q (by omega)).trans (h.block q hq hg)⟩
theorem Save.up {g : Nat} {w0 w w' : World} (h : Save g w w') (hg : w0.heap.size ≤ g) (hb : Below w0.heap.size w0 w) : Below w0.heap.size w0 w' := ⟨h.os.trans hb.os, h.tape.trans hb.tape, h.output.trans hb.output, Nat.le_trans hb.size h.size, fun q hq => (h.block q (Nat.lt_of_lt_of_le hq hb.size) (by omega)).trans (hb.block q hq)⟩
theorem Save.blk {g : Nat} {w w' : World} (h : Save g w w') {q : Nat} {t : TypeId} {cs : Array Value} (hq : q ≠ g) (hb : Blk w q t cs) : Blk w' q t cs := (h.block q hb.lt hq).trans hb
theorem EyeM.below {w0 w w' : World} {g : Nat} {y : EyeD} (h : EyeM w0 w g y) {B : Nat} (hb : Below B w w') (hg : g < B) : EyeM w0 w' g y := by
  obtain ⟨A, n, c, h1, h2, h3, h4, h5⟩ := h
  exact ⟨A, n, c, h1, h2, h3, h4.below hb hg, h5⟩
theorem EyeM.lt {w0 w : World} {g : Nat} {y : EyeD} (h : EyeM w0 w g y) : g < w.heap.size := by
  obtain ⟨A, n, c, h1, h2, h3, h4, h5⟩ := h
  exact h4.lt

/-- Behind k rounds: what was read, and what comes yet. -/
def RMid (h : Int) (n : Nat) (y2 : EyeD) (k : Nat) (hv : Int) (L : List Rng) (yk : EyeD) : Prop :=
  (k = 0 ∧ hv = h ∧ yk = y2 ∧ L = []) ∨ (1 ≤ k ∧ (yk.e = 0 → 0 ≤ (L.getD (k - 1) (0, 0)).1 ∧ (L.getD (k - 1) (0, 0)).1 ≤ 4611686018427387903) ∧
    yList h n y2 = (L ++ (yMore (n + 1 - k) (L.getD (k - 1) (0, 0)).1 yk).1, (yMore (n + 1 - k) (L.getD (k - 1) (0, 0)).1 yk).2))
theorem yStep_lo {hi : Int} {y : EyeD} (hh : hi ≤ 4611686018427387903) (h : (yStep hi y).2.e = 0) : 0 ≤ (yStep hi y).1.1 ∧ (yStep hi y).1.1 ≤ 4611686018427387903 := by
  obtain ⟨_, a, b, c⟩ := yStep_ok h
  omega
theorem RMid.first {h : Int} {n : Nat} {y2 : EyeD} (he : y2.e = 0) (hh : h ≤ 4611686018427387903) (hv : Int) : RMid h n y2 1 hv [(yStep h y2).1] (yStep h y2).2 := by
  refine .inr ⟨Nat.le_refl _, fun e => yStep_lo hh e, ?_⟩
  unfold yList
  rw [if_neg (by simp [he])]
  rfl
theorem RMid.next {h hv : Int} {n k : Nat} {y2 yk : EyeD} {L : List Rng} (h1 : 1 ≤ k) (hk : k ≤ n) (hl : L.length = k) (hm : RMid h n y2 k hv L yk) (he : yk.e = 0) (hv' : Int) :
    RMid h n y2 (k + 1) hv' (L ++ [(yStep ((L.getD (k - 1) (0, 0)).1 - (yNum yk).1 - 2) (yNum yk).2).1]) (yStep ((L.getD (k - 1) (0, 0)).1 - (yNum yk).1 - 2) (yNum yk).2).2 := by
  rcases hm with ⟨h0, _⟩ | ⟨_, ha, hb⟩
  · omega
  · obtain ⟨b0, b1⟩ := ha he
    have hg : (L ++ [(yStep ((L.getD (k - 1) (0, 0)).1 - (yNum yk).1 - 2) (yNum yk).2).1]).getD (k + 1 - 1) (0, 0) = (yStep ((L.getD (k - 1) (0, 0)).1 - (yNum yk).1 - 2) (yNum yk).2).1 := by
      simp [List.getD, hl]
    refine .inr ⟨by omega, fun e => ?_, ?_⟩
    · rw [hg]; exact yStep_lo (by omega) e
    · rw [hg, hb, show n + 1 - k = (n + 1 - (k + 1)) + 1 by omega, yMore, if_neg (by simp [he])]
      simp
theorem RMid.last {h hv : Int} {n k : Nat} {y2 yk : EyeD} {L : List Rng} (hm : RMid h n y2 k hv L yk) (hx : n + 1 = k ∨ yk.e ≠ 0) : yList h n y2 = (L, yk) := by
  rcases hm with ⟨h0, rfl, rfl, rfl⟩ | ⟨_, ha, hb⟩
  · rcases hx with hx | hx
    · omega
    · unfold yList; rw [if_pos hx]
  · rw [hb]
    rcases hx with hx | hx
    · rw [show n + 1 - k = 0 by omega]; simp [yMore]
    · cases n + 1 - k with
      | zero => simp [yMore]
      | succ m => simp [yMore, hx]
theorem yRngs_eq (y : EyeD) (h n : Nat) (y1 y2 : EyeD) (h1 : yNum y = (h, y1)) (h2 : yMany y1 = (n, y2)) : yRngs y = yList h n y2 := by
  unfold yRngs; rw [h1, h2]

theorem rngInfoE : (Tryz.prog.info? 116).map (fun i => (i.zero, i.size, i.bytes)) = some (some (.agg #[.int .i64 0, .int .i64 0]), 2, 16) := by kernel_rfl
/-- What ranges answers. -/
def RngsOut (w0 w : World) (g : Nat) (y : EyeD) (e : Ending) (w' : World) : Prop := ∃ (A : Option Addr) (k c : Nat), e = .returned (.slice A k c) ∧ (yRngs y).1.length = k ∧ k ≤ c ∧ c ≤ 9223372036854775807 ∧ OwnX rcells 2 w' w.heap.size 116 A c (yRngs y).1 ∧ EyeM w0 w' g (yRngs y).2 ∧ Save g w w'

set_option maxRecDepth 100000 in
set_option maxHeartbeats 4000000 in
theorem rngs_any (w0 w : World) (g : Nat) (y : EyeD) (hy : y.u + y.b.length ≤ 140737488355328) (hg : w0.heap.size ≤ g) (hb : Below w0.heap.size w0 w) (h : EyeM w0 w g y) :
    Calls Tryz.prog 138 #[.pointer (some ⟨g, 0, none⟩)] w (RngsOut w0 w g y) := by
  have hgw := h.lt
  obtain ⟨hn_, y1, h1⟩ : ∃ a b, yNum y = (a, b) := ⟨_, _, rfl⟩
  obtain ⟨m_, y1', h1'⟩ : ∃ a b, yNum y1 = (a, b) := ⟨_, _, rfl⟩
  have l1 := yNum_le y
  have l2 := yNum_le y1
  have u1 := yNum_all y
  have u2 := yNum_all y1
  have k1 := eyeNum_any w0 w g y hy hg hb h
  rw [h1] at l1 u1 k1
  rw [h1'] at l2 u2
  simp only at l1 l2 u1 u2 k1
  have K1 := Lib.hid k1
  have HB := Lib.hid hb
  have H1 := Lib.hid h1
  have H1' := Lib.hid h1'
  have HU1 := Lib.hid u1
  have HU2 := Lib.hid u2
  clear h1 h1' u1 u2 k1 h hb
  go_enter Tryz.func138, Tryz.ntmps138
  go_wp2_with fail
  refine K1.out.mono ?_
  rintro e w1 ⟨rfl, hE1, hO1⟩
  have hS1 := hO1.save
  have hB1 := hS1.up hg HB.out
  have k2 := eyeNum_any w0 w1 g y1 (by rw [HU1.out]; exact hy) hg hB1 hE1
  rw [H1'.out] at k2
  simp only at k2
  have K2 := Lib.hid k2
  have HS1 := Lib.hid hS1
  have HB1 := Lib.hid hB1
  clear K1 hE1 hO1 hS1 hB1 k2
  go_wp2_with fail
  refine K2.out.mono ?_
  rintro e w2 ⟨rfl, hE2, hO2⟩
  have HS2 := Lib.hid (HS1.out.trans hO2.save)
  have HE2 := Lib.hid hE2
  have HB2 := Lib.hid (hO2.save.up hg HB1.out)
  clear K2 hE2 hO2 HS1 HB1
  obtain ⟨y2, h2⟩ : ∃ b, yMany y1 = (m_, b) := ⟨_, by unfold yMany; rw [H1'.out]⟩
  have HR := Lib.hid (yRngs_eq y hn_ m_ y1 y2 H1.out h2)
  have u3 := yMany_all y1
  rw [h2] at u3
  simp only at u3
  have HU3 := Lib.hid (u3.trans HU1.out)
  have H2 := Lib.hid h2
  clear h2 u3 H1 HU1 HU2
  go_upto_if 13 with (fail)
  go_cut [] (fun wx => EyeM w0 wx g y2 ∧ Save g w wx ∧ (6 ≤ m_ → y2.e ≠ 0))
  case first =>
    by_cases h6 : 6 ≤ m_
    · have hc : (6 : Int) ≤ (m_ : Int) := by omega
      have h2 := H2.out
      unfold yMany at h2
      rw [H1'.out] at h2
      simp only [if_pos h6] at h2
      obtain rfl : yFail 1 y1' = y2 := (Prod.mk.inj h2).2
      clear h2
      go_wp2_with fail
      refine (fail_any w0 _ g _ 1 HE2.out).mono ?_
      rintro e w3 ⟨rfl, hE3, hO3⟩
      go_wp2_with fail
      go_meet
      exact ⟨hE3, HS2.out.trans hO3.save, fun _ => yFail_ne (by decide) _⟩
    · have hc : ¬ (6 : Int) ≤ (m_ : Int) := by omega
      have h2 := H2.out
      unfold yMany at h2
      rw [H1'.out] at h2
      simp only [if_neg h6] at h2
      obtain rfl : y1' = y2 := (Prod.mk.inj h2).2
      clear h2
      go_wp2_with fail
      go_meet
      exact ⟨HE2.out, HS2.out, fun h => absurd h h6⟩
  case rest =>
    obtain ⟨hE, hS, h6⟩ := hcut
    have HE := Lib.hid hE
    have HS := Lib.hid hS
    have H6 := Lib.hid h6
    clear HS2 HE2 HB2 H2 H1' hE hS h6
    go_wp2_with fail
    go_loopw [3, 5, 6] (fun hi out iv wr => ∃ (k : Nat) (A : Option Addr) (c : Nat) (L : List Rng) (yk : EyeD) (hv : Int), hi = .int .i64 hv ∧ out = .slice A k c ∧ iv = .int .i64 (k : Int) ∧ EyeM w0 wr g yk ∧ Save g w wr ∧ OwnX rcells 2 wr w.heap.size 116 A c L ∧ L.length = k ∧ k ≤ m_ + 1 ∧ k ≤ 7 ∧ yk.u + yk.b.length = y.u + y.b.length ∧ RMid hn_ m_ y2 k hv L yk) (fun _ _ iv _ => m_ + 1 - (intOf iv).toNat)
    case atStart => exact ⟨0, none, 0, [], y2, hn_, rfl, rfl, rfl, HE.out, HS.out, OwnX.nil _ _ _, rfl, Nat.zero_le _, by decide, HU3.out, .inl ⟨rfl, rfl, rfl, rfl⟩⟩
    case round =>
      obtain ⟨k, A, c, L, yk, hv, rfl, rfl, rfl, hEk, hSk, hOk, hLk, hkm, hk7, huk, hRk⟩ := hrel
      have HEk := Lib.hid hEk
      have HSk := Lib.hid hSk
      have HOk := Lib.hid hOk
      have HLk := Lib.hid hLk
      have HUk := Lib.hid huk
      have HRk := Lib.hid hRk
      clear hEk hSk hOk hLk huk hRk
      obtain ⟨eA, en, ec, e1, e2, e3, e4, e5⟩ := HEk.out
      have FE := e4.factsE
      have hcap := HOk.out.cap
      rw [HLk.out] at hcap
      obtain ⟨hcap0, hcap1⟩ := hcap
      clear e1 e2 e3 e4 e5
      by_cases hlt : k ≤ m_
      · by_cases he : yk.e = 0
        · rw [he] at FE
          have HHE := Lib.hid he
          clear he
          have hm6 : m_ < 6 := by
            rcases Nat.lt_or_ge m_ 6 with h | h
            · exact h
            · exfalso
              have h2 := H6.out h
              rcases HRk.out with ⟨_, _, rfl, _⟩ | ⟨hk1, _, hq⟩
              · exact h2 HHE.out
              · have hq2 : (yList (hn_ : Int) m_ y2).1 = [] := by unfold yList; rw [if_pos h2]
                rw [hq] at hq2
                have hq3 := (List.append_eq_nil_iff.1 hq2).1
                have := HLk.out
                rw [hq3] at this
                simp at this; omega
          by_cases hk0 : k = 0
          · subst hk0
            obtain ⟨_, rfl, rfl, rfl⟩ : (0 : Nat) = 0 ∧ hv = (hn_ : Int) ∧ yk = y2 ∧ L = [] := by
              rcases HRk.out with h | ⟨h, _⟩
              · exact h
              · omega
            have HF1 := Lib.hid (fun (hv' : Int) => RMid.first (h := (hn_ : Int)) (n := m_) HHE.out (by omega) hv')
            have ln2 := yNum_le (yk)
            have un2 := yNum_all (yk)
            have kn2 := eyeNum_any w0 wr g (yk) (by rw [HUk.out]; exact hy) hg (HSk.out.up hg HB.out) HEk.out
            obtain ⟨q2, yp, hqp⟩ : ∃ a b, yNum (yk) = (a, b) := ⟨_, _, rfl⟩
            rw [hqp] at ln2 un2 kn2
            simp only at ln2 un2 kn2
            have hst : yStep ((hn_ : Int)) (yk) = ((((hn_ : Int)) - (q2 : Int), ((hn_ : Int))), if ((hn_ : Int)) - (q2 : Int) < 0 then yFail 6 yp else yp) := by unfold yStep; rw [hqp]
            have hnw := HF1.out ((hn_ : Int))
            rw [hst] at hnw
            simp only at hnw
            have HNW := Lib.hid hnw
            have HUP := Lib.hid (un2.trans HUk.out)
            have KN2 := Lib.hid kn2
            have hvb : -4611686018427387905 ≤ (hn_ : Int) ∧ (hn_ : Int) ≤ 4611686018427387903 := by omega
            obtain ⟨hvb0, hvb1⟩ := hvb
            clear hqp un2 kn2 hst hnw HF1
            generalize hHV : ((hn_ : Int)) = hv2 at *
            clear hHV
            go_wp2_with fail
            refine KN2.out.mono ?_
            rintro e w6 ⟨rfl, hE6, hO6⟩
            have HE6 := Lib.hid hE6
            have HS6 := Lib.hid (HSk.out.trans hO6.save)
            have HO6 := Lib.hid (OwnX.mono (show OwnX rcells 2 w6 w.heap.size 116 A c ([] : List Rng) from hO6.own HOk.out (fun q hq => by have := HOk.out.lt (n := 0) q hq; omega)) (Nat.le_refl _))
            clear hE6 hO6 KN2
            have hb0 : -9223372036854775808 ≤ hv2 - (q2 : Int) := by omega
            have hb1 : hv2 - (q2 : Int) ≤ 9223372036854775807 := by omega
            have hsz6 : w.heap.size ≤ w6.heap.size := HS6.out.size
            by_cases hneg : hv2 - (q2 : Int) < 0
            · rw [if_pos hneg] at HNW
              go_wp2_with fail
              refine (fail_any w0 _ g _ 6 HE6.out).mono ?_
              rintro e w7 ⟨rfl, hE7, hO7⟩
              have HE7 := Lib.hid hE7
              have HS7 := Lib.hid (HS6.out.trans hO7.save)
              have HO7 := Lib.hid (show OwnX rcells 2 w7 w.heap.size 116 A c ([] : List Rng) from hO7.own HO6.out (fun q hq => by have := HO6.out.lt (n := 0) q hq; omega))
              have HU7 := Lib.hid ((yFail_all 6 yp).trans HUP.out)
              have hsz7 : w.heap.size ≤ w7.heap.size := HS7.out.size
              clear hE7 hO7 hneg
              go_wp2_with (at_builtin
                           refine wpList_appX rcells 2 rcells_one _ rfl (.tmp 48) (.tmp 52) _ rfl w.heap.size 116 _ 16 Tryz.underlying32 rngInfoE rfl (by decide) (by decide) A (0) c ([] : List Rng) rfl HLk.out (HO7.out.alloc _) _ 1 1 [(hv2 - (q2 : Int), hv2)] rfl rfl (RdX.oneH _ _ (hv2 - (q2 : Int), hv2) _ rfl rfl (by simp)) _ rfl (0 + 1) rfl (by omega) (by simp; omega) ?_
                           intro A8 c8 w8 hO8 hc8 hc8' hb8 hgr8)
              go_roundw
              case rel => exact ⟨0 + 1, A8, c8, _, yFail 6 yp, hv2, rfl, rfl, by first | (go_num; done) | rfl, (HE7.out.below ((Below.refl _ _).alloc (Nat.le_refl _) _) HE7.out.lt).below hb8 hgw, (HS7.out.below ((Below.refl _ _).alloc (Nat.le_refl _) _) hsz7).below hb8 (Nat.le_refl _), hO8, by rw [List.length_append, HLk.out]; rfl, by omega, by omega, HU7.out, HNW.out⟩
              case measure => first | (simp [intOf]; done) | (simp [intOf]; omega)
            · rw [if_neg hneg] at HNW
              go_wp2_with (at_builtin
                           refine wpList_appX rcells 2 rcells_one _ rfl (.tmp 48) (.tmp 52) _ rfl w.heap.size 116 _ 16 Tryz.underlying32 rngInfoE rfl (by decide) (by decide) A (0) c ([] : List Rng) rfl HLk.out (HO6.out.alloc _) _ 1 1 [(hv2 - (q2 : Int), hv2)] rfl rfl (RdX.oneH _ _ (hv2 - (q2 : Int), hv2) _ rfl rfl (by simp)) _ rfl (0 + 1) rfl (by omega) (by simp; omega) ?_
                           intro A8 c8 w8 hO8 hc8 hc8' hb8 hgr8)
              go_roundw
              case rel => exact ⟨0 + 1, A8, c8, _, yp, hv2, rfl, rfl, by first | (go_num; done) | rfl, (HE6.out.below ((Below.refl _ _).alloc (Nat.le_refl _) _) HE6.out.lt).below hb8 hgw, (HS6.out.below ((Below.refl _ _).alloc (Nat.le_refl _) _) hsz6).below hb8 (Nat.le_refl _), hO8, by rw [List.length_append, HLk.out]; rfl, by omega, by omega, HUP.out, HNW.out⟩
              case measure => first | (simp [intOf]; done) | (simp [intOf]; omega)
          · have hk1 : 1 ≤ k := by omega
            have hk00 : (0 : Int) < (k : Int) := by omega
            have hlo := HRk.out
            rcases hlo with ⟨h, _⟩ | ⟨_, hlo, _⟩
            · exact absurd h hk0
            obtain ⟨lo0, lo1⟩ := hlo HHE.out
            obtain ⟨b, off, rfl, hcell⟩ := (OwnX.rd HOk.out).rcell (by rw [HLk.out]; omega)
            have hc1 := (hcell (k - 1) (by rw [HLk.out]; omega)).1
            have hbb := HOk.out.lt (n := k) b rfl
            have hbl := hbb.2
            obtain ⟨j, rfl⟩ : ∃ j, k = j + 1 := ⟨k - 1, by omega⟩
            have HN := Lib.hid (fun (hv' : Int) => RMid.next hk1 hlt HLk.out HRk.out HHE.out hv')
            rw [Nat.add_sub_cancel] at hc1 lo0 lo1
            have ln := yNum_le yk
            have un := yNum_all yk
            have kn := eyeNum_any w0 wr.drew g yk (by rw [HUk.out]; exact hy) hg (HSk.out.up hg HB.out).drew (show EyeM w0 wr.drew g yk from HEk.out)
            obtain ⟨q1, yq, hq⟩ : ∃ a b, yNum yk = (a, b) := ⟨_, _, rfl⟩
            rw [hq] at ln un kn
            simp only [hq, Nat.add_sub_cancel] at HN ln un kn
            generalize (L.getD j (0, 0)).1 = lw at *
            have KN := Lib.hid kn
            have HUN := Lib.hid (un.trans HUk.out)
            have hc1' := hc1
            have hbg : b ≠ g := by omega
            have hj0 : (0 : Int) ≤ (j : Int) := by omega
            have hj1 : IntKind.i64.wrap (j : Int) = (j : Int) := IntWalk.i64_in _ (by omega)
            have hj2 : (j : Int) < (j : Int) + 1 := by omega
            have hw1 : IntKind.i64.wrap (lw - (q1 : Int)) = lw - (q1 : Int) := IntWalk.i64_in _ (by omega)
            have hw2 : IntKind.i64.wrap (lw - (q1 : Int) - 2) = lw - (q1 : Int) - 2 := IntWalk.i64_in _ (by omega)
            clear hq un kn hcell hbb
            go_upto_region 10 with (fail)
            go_cut [3] (fun s3 wx => s3 = .int .i64 (lw - (q1 : Int) - 2) ∧ EyeM w0 wx g yq ∧ Save g w wx ∧ OwnX rcells 2 wx w.heap.size 116 (some ⟨b, off, none⟩) c L)
            case first =>
              go_region_held3 (fun w' => w'.cell? ⟨b, off + j * 2, none⟩ = some (.int .i64 lw)) (go_keep)
                (first
                  | (go_at_call 137; refine Calls.mono (KN.out) ?_; rintro e w5 ⟨rfl, hE5, hO5⟩; have hc5 : w5.cell? ⟨b, off + j * 2, none⟩ = some (.int .i64 lw) := (World.cell?_of_block (hO5.block b hbg)).trans hc1))
              all_goals
                go_wp2_with fail
                go_meet
                refine ⟨rfl, hE5, (HSk.out.below ((Below.refl _ _).drew) (Nat.le_refl _)).trans hO5.save, ?_⟩
                exact hO5.own (show OwnX rcells 2 wr.drew w.heap.size 116 (some ⟨b, off, none⟩) c L from HOk.out) (fun q hq => by have := HOk.out.lt (n := j + 1) q hq; omega)
            case rest =>
              obtain ⟨rfl, hEx, hSx, hOx⟩ := hcut
              have HEx := Lib.hid hEx
              have HSx := Lib.hid hSx
              have HOx := Lib.hid hOx
              clear hEx hSx hOx KN FE hc1 hc1'
              have ln2 := yNum_le (yq)
              have un2 := yNum_all (yq)
              have kn2 := eyeNum_any w0 wc g (yq) (by rw [HUN.out]; exact hy) hg (HSx.out.up hg HB.out) HEx.out
              obtain ⟨q2, yp, hqp⟩ : ∃ a b, yNum (yq) = (a, b) := ⟨_, _, rfl⟩
              rw [hqp] at ln2 un2 kn2
              simp only at ln2 un2 kn2
              have hst : yStep (lw - (q1 : Int) - 2) (yq) = (((lw - (q1 : Int) - 2) - (q2 : Int), (lw - (q1 : Int) - 2)), if (lw - (q1 : Int) - 2) - (q2 : Int) < 0 then yFail 6 yp else yp) := by unfold yStep; rw [hqp]
              have hnw := HN.out (lw - (q1 : Int) - 2)
              rw [hst] at hnw
              simp only at hnw
              have HNW := Lib.hid hnw
              have HUP := Lib.hid (un2.trans HUN.out)
              have KN2 := Lib.hid kn2
              have hvb : -4611686018427387905 ≤ lw - (q1 : Int) - 2 ∧ lw - (q1 : Int) - 2 ≤ 4611686018427387903 := by omega
              obtain ⟨hvb0, hvb1⟩ := hvb
              clear hqp un2 kn2 hst hnw HN
              generalize hHV : (lw - (q1 : Int) - 2) = hv2 at *
              clear hHV
              go_wp2_with fail
              refine KN2.out.mono ?_
              rintro e w6 ⟨rfl, hE6, hO6⟩
              have HE6 := Lib.hid hE6
              have HS6 := Lib.hid (HSx.out.trans hO6.save)
              have HO6 := Lib.hid (OwnX.mono (show OwnX rcells 2 w6 w.heap.size 116 (some ⟨b, off, none⟩) c L from hO6.own HOx.out (fun q hq => by have := HOx.out.lt (n := j + 1) q hq; omega)) (Nat.le_refl _))
              clear hE6 hO6 KN2
              have hb0 : -9223372036854775808 ≤ hv2 - (q2 : Int) := by omega
              have hb1 : hv2 - (q2 : Int) ≤ 9223372036854775807 := by omega
              have hsz6 : w.heap.size ≤ w6.heap.size := HS6.out.size
              by_cases hneg : hv2 - (q2 : Int) < 0
              · rw [if_pos hneg] at HNW
                go_wp2_with fail
                refine (fail_any w0 _ g _ 6 HE6.out).mono ?_
                rintro e w7 ⟨rfl, hE7, hO7⟩
                have HE7 := Lib.hid hE7
                have HS7 := Lib.hid (HS6.out.trans hO7.save)
                have HO7 := Lib.hid (show OwnX rcells 2 w7 w.heap.size 116 (some ⟨b, off, none⟩) c L from hO7.own HO6.out (fun q hq => by have := HO6.out.lt (n := j + 1) q hq; omega))
                have HU7 := Lib.hid ((yFail_all 6 yp).trans HUP.out)
                have hsz7 : w.heap.size ≤ w7.heap.size := HS7.out.size
                clear hE7 hO7 hneg
                go_wp2_with (at_builtin
                             refine wpList_appX rcells 2 rcells_one _ rfl (.tmp 48) (.tmp 52) _ rfl w.heap.size 116 _ 16 Tryz.underlying32 rngInfoE rfl (by decide) (by decide) (some ⟨b, off, none⟩) (j + 1) c L rfl HLk.out (HO7.out.alloc _) _ 1 1 [(hv2 - (q2 : Int), hv2)] rfl rfl (RdX.oneH _ _ (hv2 - (q2 : Int), hv2) _ rfl rfl (by simp)) _ rfl (j + 1 + 1) rfl (by omega) (by simp; omega) ?_
                             intro A8 c8 w8 hO8 hc8 hc8' hb8 hgr8)
                go_roundw
                case rel => exact ⟨j + 1 + 1, A8, c8, _, yFail 6 yp, hv2, rfl, rfl, by first | (go_num; done) | rfl, (HE7.out.below ((Below.refl _ _).alloc (Nat.le_refl _) _) HE7.out.lt).below hb8 hgw, (HS7.out.below ((Below.refl _ _).alloc (Nat.le_refl _) _) hsz7).below hb8 (Nat.le_refl _), hO8, by rw [List.length_append, HLk.out]; rfl, by omega, by omega, HU7.out, HNW.out⟩
                case measure => first | (simp [intOf]; done) | (simp [intOf]; omega)
              · rw [if_neg hneg] at HNW
                go_wp2_with (at_builtin
                             refine wpList_appX rcells 2 rcells_one _ rfl (.tmp 48) (.tmp 52) _ rfl w.heap.size 116 _ 16 Tryz.underlying32 rngInfoE rfl (by decide) (by decide) (some ⟨b, off, none⟩) (j + 1) c L rfl HLk.out (HO6.out.alloc _) _ 1 1 [(hv2 - (q2 : Int), hv2)] rfl rfl (RdX.oneH _ _ (hv2 - (q2 : Int), hv2) _ rfl rfl (by simp)) _ rfl (j + 1 + 1) rfl (by omega) (by simp; omega) ?_
                             intro A8 c8 w8 hO8 hc8 hc8' hb8 hgr8)
                go_roundw
                case rel => exact ⟨j + 1 + 1, A8, c8, _, yp, hv2, rfl, rfl, by first | (go_num; done) | rfl, (HE6.out.below ((Below.refl _ _).alloc (Nat.le_refl _) _) HE6.out.lt).below hb8 hgw, (HS6.out.below ((Below.refl _ _).alloc (Nat.le_refl _) _) hsz6).below hb8 (Nat.le_refl _), hO8, by rw [List.length_append, HLk.out]; rfl, by omega, by omega, HUP.out, HNW.out⟩
                case measure => first | (simp [intOf]; done) | (simp [intOf]; omega)
        · have hne : (yk.e == 0) = false := by simp [he]
          have hfin := RMid.last HRk.out (.inr he)
          have hfr := HR.out.trans hfin
          have HFR := Lib.hid hfr
          generalize yk.e = ek at *
          clear he hfin hfr
          go_wp2_with fail
          go_ret
          refine ⟨A, k, c, rfl, ?_, hcap0, hcap1, ?_, ?_, HSk.out⟩
          · rw [HFR.out]; exact HLk.out
          · rw [HFR.out]; exact HOk.out
          · rw [HFR.out]; exact HEk.out
      · have hfr := HR.out.trans (RMid.last HRk.out (.inl (by omega)))
        have HFR := Lib.hid hfr
        clear hfr
        go_wp2_with fail
        go_ret
        refine ⟨A, k, c, rfl, ?_, hcap0, hcap1, ?_, ?_, HSk.out⟩
        · rw [HFR.out]; exact HLk.out
        · rw [HFR.out]; exact HOk.out
        · rw [HFR.out]; exact HEk.out
end Go.Proofs.YtbcagdjfegobnaaGreat
/- What Decode needs besides: Check of a frame that is too large in one number; bytes behind each other in an int. -/
namespace Go.Proofs.YtbcagdjfegobnaaGreat
open Go.ChangeShapes Go.WideShapes Go.ChangeAt Go.RowKit
set_option linter.unusedVariables false

/-- 'n<<8 | c', whatever n. -/
theorem or_byteW (N c : Nat) (hN : N < 72057594037927936) (hc : c < 256) : bits .or .i64 (wrap64 ((N : Int) * 256)) (c : Int) = wrap64 ((N * 256 + c : Nat) : Int) := by
  have h1 : (BitVec.ofInt 64 (wrap64 ((N : Int) * 256))).toNat = N * 256 := by
    have e : BitVec.ofInt 64 (wrap64 ((N : Int) * 256)) = BitVec.ofInt 64 ((N * 256 : Nat) : Int) := by
      apply BitVec.eq_of_toNat_eq
      rw [BitVec.toNat_ofInt, BitVec.toNat_ofInt]
      unfold wrap64
      omega
    rw [e, BitVec.ofInt_natCast, BitVec.toNat_ofNat]
    exact Nat.mod_eq_of_lt (by omega)
  have h2 : (BitVec.ofInt 64 (c : Int)).toNat = c := by
    rw [BitVec.ofInt_natCast, BitVec.toNat_ofNat]; exact Nat.mod_eq_of_lt (by omega)
  show IntKind.i64.wrap ((BitVec.ofInt 64 (wrap64 ((N : Int) * 256)) ||| BitVec.ofInt 64 (c : Int)).toNat : Int) = _
  rw [BitVec.toNat_or, h1, h2, nat_join 8 (N * 256) c (by omega) (by omega), wrap_i64]
  unfold wrap64
  omega
theorem wrap64_id (n : Nat) (h : n ≤ 4611686018427387903) : wrap64 (n : Int) = (n : Int) := by unfold wrap64; omega
theorem wrap64_bad (n : Nat) (h : 4611686018427387903 < n) (h2 : n < 18446744073709551616) : wrap64 (n : Int) < 0 ∨ 4611686018427387903 < wrap64 (n : Int) := by unfold wrap64; omega

set_option maxRecDepth 100000 in
set_option maxHeartbeats 2000000 in
/-- The code is too large. -/
theorem fCheck_code (k id off n m : Nat) (code : Int) (fin bi bo bc bd bf bw : Bool) (A : Option Addr) (c : Nat) (B : Option Addr) (d : Nat) (w : World)
    (HP : Hid (∀ W, Calls Tryz.prog 86 #[.int .i64 k] W fun e w' => e = .returned (.tuple #[.agg #[.bool bi, .bool bo, .bool bc, .bool bd, .bool bf, .bool bw], .bool true]) ∧ Below W.heap.size W w'))
    (M1 : Hid (∀ W, Calls Tryz.prog 90 #[.bool bi, .int .i64 id] W fun e w' => e = .returned (.bool true) ∧ W = w'))
    (M2 : Hid (∀ W, Calls Tryz.prog 90 #[.bool bo, .int .i64 off] W fun e w' => e = .returned (.bool true) ∧ W = w'))
    (M3 : Hid (∀ W, Calls Tryz.prog 90 #[.bool bc, .int .i64 code] W fun e w' => e = .returned (.bool false) ∧ W = w'))
    (hm : m ≤ 120) (hn : n ≤ 6) :
    Calls Tryz.prog 57 #[.agg #[.int .i64 k, .int .i64 id, .int .i64 off, .bool fin, .int .i64 code, .slice A n c, .slice B m d]] w fun e w' => e = .returned (.int .i64 6) ∧ Below w.heap.size w w' := by
  have h120 : decide (120 < (m : Int)) = false := decide_eq_false (by omega)
  have h6 : decide (6 < (n : Int)) = false := decide_eq_false (by omega)
  go_enter Tryz.func57, Tryz.ntmps57
  go_wp2_with fail
  refine (HP.out _).mono ?_
  rintro e w1 ⟨rfl, hb1⟩
  go_upto_region 2 with (fail)
  refine wp_world (fun w' => Blk w' w.heap.size 68 #[.int .i64 k, .int .i64 id, .int .i64 off, .bool fin, .int .i64 code, .slice A n c, .slice B m d] ∧ Blk w' w1.heap.size 182 #[.bool bi, .bool bo, .bool bc, .bool bd, .bool bf, .bool bw] ∧ Below w.heap.size w w') ⟨?_, ?_, ?_⟩ ?_
  · have h := (Blk.new w 68 #[.int .i64 k, .int .i64 id, .int .i64 off, .bool fin, .int .i64 code, .slice A n c, .slice B m d]).carry hb1
    (apply Blk.as; (case h => (repeat (first | with_reducible exact h | with_reducible apply Blk.drew | with_reducible apply Blk.set4 | with_reducible apply Blk.set_ | (with_reducible apply Blk.far4 (hne := ?side); case side => (first | omega | (simp; omega) | (simp; done))) | (with_reducible apply Blk.far (hp := ?side); case side => (first | omega | (simp; omega) | (simp; done))) | with_reducible apply Blk.alloc))); (case e => (first | with_reducible rfl | (simp; done) | rfl)))
  · first | exact Blk.new _ _ _ | exact (Blk.new _ _ _).as (by simp)
  · have h : Below w.heap.size w w1 := ((Below.refl _ _).alloc (Nat.le_refl _) _).trans (hb1.mono (by simp))
    exact h.alloc h.size _
  rintro w2 ⟨hF, hP, hb⟩
  have FF := hF.factsF
  have FP := hP.factsP
  have HB := Lib.hid hb
  clear hb1 hF hP hb
  go_wp2_with fail
  refine (M1.out _).mono ?_
  rintro e w' ⟨rfl, rfl⟩
  go_wp2_with fail
  refine (M2.out _).mono ?_
  rintro e w' ⟨rfl, rfl⟩
  go_wp2_with fail
  refine (M3.out _).mono ?_
  rintro e w' ⟨rfl, rfl⟩
  go_wp2_with fail
  go_ret
  exact ⟨by first | rfl | simp, HB.out⟩
set_option maxRecDepth 100000 in
set_option maxHeartbeats 2000000 in
/-- The end of the data is too far. -/
theorem fCheck_far (k id off n m : Nat) (code : Int) (fin bi bo bc bf bw : Bool) (A : Option Addr) (c : Nat) (B : Option Addr) (d : Nat) (w : World)
    (HP : Hid (∀ W, Calls Tryz.prog 86 #[.int .i64 k] W fun e w' => e = .returned (.tuple #[.agg #[.bool bi, .bool bo, .bool bc, .bool true, .bool bf, .bool bw], .bool true]) ∧ Below W.heap.size W w'))
    (M1 : Hid (∀ W, Calls Tryz.prog 90 #[.bool bi, .int .i64 id] W fun e w' => e = .returned (.bool true) ∧ W = w'))
    (M2 : Hid (∀ W, Calls Tryz.prog 90 #[.bool bo, .int .i64 off] W fun e w' => e = .returned (.bool true) ∧ W = w'))
    (M3 : Hid (∀ W, Calls Tryz.prog 90 #[.bool bc, .int .i64 code] W fun e w' => e = .returned (.bool true) ∧ W = w'))
    (hm : m ≤ 120) (hn : n ≤ 6) (hfar : 4611686018427387903 < off + m) :
    Calls Tryz.prog 57 #[.agg #[.int .i64 k, .int .i64 id, .int .i64 off, .bool fin, .int .i64 code, .slice A n c, .slice B m d]] w fun e w' => e = .returned (.int .i64 6) ∧ Below w.heap.size w w' := by
  have h120 : decide (120 < (m : Int)) = false := decide_eq_false (by omega)
  have h6 : decide (6 < (n : Int)) = false := decide_eq_false (by omega)
  have hw : IntKind.i64.wrap (4611686018427387903 - (m : Int)) = 4611686018427387903 - (m : Int) := by rw [IntKind.wrap_i64]; omega
  have hd : decide (4611686018427387903 - (m : Int) < (off : Int)) = true := decide_eq_true (by omega)
  clear hfar
  go_enter Tryz.func57, Tryz.ntmps57
  go_wp2_with fail
  refine (HP.out _).mono ?_
  rintro e w1 ⟨rfl, hb1⟩
  go_upto_region 2 with (fail)
  refine wp_world (fun w' => Blk w' w.heap.size 68 #[.int .i64 k, .int .i64 id, .int .i64 off, .bool fin, .int .i64 code, .slice A n c, .slice B m d] ∧ Blk w' w1.heap.size 182 #[.bool bi, .bool bo, .bool bc, .bool true, .bool bf, .bool bw] ∧ Below w.heap.size w w') ⟨?_, ?_, ?_⟩ ?_
  · have h := (Blk.new w 68 #[.int .i64 k, .int .i64 id, .int .i64 off, .bool fin, .int .i64 code, .slice A n c, .slice B m d]).carry hb1
    (apply Blk.as; (case h => (repeat (first | with_reducible exact h | with_reducible apply Blk.drew | with_reducible apply Blk.set4 | with_reducible apply Blk.set_ | (with_reducible apply Blk.far4 (hne := ?side); case side => (first | omega | (simp; omega) | (simp; done))) | (with_reducible apply Blk.far (hp := ?side); case side => (first | omega | (simp; omega) | (simp; done))) | with_reducible apply Blk.alloc))); (case e => (first | with_reducible rfl | (simp; done) | rfl)))
  · first | exact Blk.new _ _ _ | exact (Blk.new _ _ _).as (by simp)
  · have h : Below w.heap.size w w1 := ((Below.refl _ _).alloc (Nat.le_refl _) _).trans (hb1.mono (by simp))
    exact h.alloc h.size _
  rintro w2 ⟨hF, hP, hb⟩
  have FF := hF.factsF
  have FP := hP.factsP
  have HB := Lib.hid hb
  clear hb1 hF hP hb
  go_wp2_with fail
  refine (M1.out _).mono ?_
  rintro e w' ⟨rfl, rfl⟩
  go_wp2_with fail
  refine (M2.out _).mono ?_
  rintro e w' ⟨rfl, rfl⟩
  go_wp2_with fail
  refine (M3.out _).mono ?_
  rintro e w' ⟨rfl, rfl⟩
  go_wp2_with fail
  go_ret
  exact ⟨by first | rfl | simp, HB.out⟩

/-- What a frame that was read may be: all but its code and where its data end. -/
theorem fbody_may (k : Nat) (fin : Bool) {y : EyeD} (hk : kOk k = true) (hf : pFin k = false → fin = false) (h : (fbody k fin y).2.e = 0) :
    FrMay (fbody k fin y).1 ∧ (pCode k = false → (fbody k fin y).1.code = 0) ∧ (pWord k = false → (fbody k fin y).1.code ≤ 4611686018427387903) ∧ (fbody k fin y).1.code < 18446744073709551616 := by
  unfold fbody at *
  simp only at h ⊢
  have h4 := e_of (ifD_good _) h
  have h3 := e_of (ifC_good _ _) h4
  have h2 := e_of (ifN_good _) h3
  have h1 := e_of (ifN_good _) h2
  obtain ⟨r1, r2, r3, r4⟩ := ifR_ok k h1
  generalize ifR (k == 2) y = r at *
  obtain ⟨i1, i2, i3⟩ := ifN_ok _ h2
  generalize ifN (pId k) r.2 = i at *
  obtain ⟨o1, o2, o3⟩ := ifN_ok _ h3
  generalize ifN (pOff k) i.2 = o at *
  obtain ⟨c1, c2⟩ := ifC_ok _ _ (kind_word k).1 h4
  have c3 : pWord k = false → (ifC (pWord k) (pCode k) o.2).1 ≤ 4611686018427387903 := fun hw => by
    rw [hw] at h4 ⊢
    exact (ifN_ok _ h4).2.1
  have c4 : (ifC (pWord k) (pCode k) o.2).1 < 18446744073709551616 := by
    cases hw : pWord k with
    | false => have := c3 hw; rw [hw] at this; omega
    | true =>
      rw [hw] at h4
      have hl := (yTake_ok (n := 8) (y := o.2) h4).2
      have := valB_lt (yTake 8 o.2).1 0 1 (by omega)
      rw [hl] at this
      show valB (yTake 8 o.2).1 0 < _
      omega
  generalize ifC (pWord k) (pCode k) o.2 = c at *
  obtain ⟨d1, d2, d3⟩ := ifD_ok _ h
  generalize ifD (pData k) c.2 = d at *
  exact ⟨⟨hk, d2, r3, i2, i3, o2, o3, d3, hf, r4, r1⟩, c2, c3, c4⟩
/-- Check of a frame that was read. -/
theorem fCheck_read (f : FrD) (m : FrMay f) (hc0 : pCode f.kind = false → f.code = 0) (hc1 : f.code < 18446744073709551616) (A : Option Addr) (c : Nat) (B : Option Addr) (d : Nat) (w : World) (hr : RdX rcells 2 w A f.rngs) (hnc : f.rngs.length ≤ c) (hcm : c ≤ 9223372036854775807) :
    Calls Tryz.prog 57 #[.agg #[.int .i64 f.kind, .int .i64 f.id, .int .i64 f.off, .bool f.fin, .int .i64 (wrap64 (f.code : Int)), .slice A f.rngs.length c, .slice B f.data.length d]] w fun e w' => e = .returned (.int .i64 (if frB f = false then 6 else 0)) ∧ Below w.heap.size w w' := by
  by_cases hx : f.code ≤ 4611686018427387903
  · rw [wrap64_id _ hx]
    by_cases hfar : pData f.kind = true → f.off + f.data.length ≤ 4611686018427387903
    · have ok : FrOk f := ⟨m.kind, m.len, m.many, m.id, m.noId, m.off, m.noOff, hx, hc0, hfar, m.noData, m.noFin, m.ack, m.rngs⟩
      rw [frB_ok ok]
      exact fCheck_ok f ok A c B d w hr hnc hcm
    · have hp : pData f.kind = true := Classical.byContradiction fun h => hfar fun h2 => absurd h2 h
      have hq : 4611686018427387903 < f.off + f.data.length := by
        rcases Nat.lt_or_ge 4611686018427387903 (f.off + f.data.length) with h | h
        · exact h
        · exact absurd (fun _ => h) hfar
      have hB : frB f = false := by
        unfold frB; rw [hp, decide_eq_true hx]; simp; omega
      rw [hB, if_pos rfl]
      have hP := fun W => partsOf_good f.kind m.kind W
      have hpc : pcells f.kind = #[.bool (pId f.kind), .bool (pOff f.kind), .bool (pCode f.kind), .bool true, .bool (pFin f.kind), .bool (pWord f.kind)] := by unfold pcells; rw [hp]
      rw [hpc] at hP
      exact fCheck_far f.kind f.id f.off f.rngs.length f.data.length f.code f.fin (pId f.kind) (pOff f.kind) (pCode f.kind) (pFin f.kind) (pWord f.kind) A c B d w
        (Lib.hid hP) (Lib.hid fun W => may_ok _ _ m.id m.noId W) (Lib.hid fun W => may_ok _ _ m.off m.noOff W) (Lib.hid fun W => may_ok _ _ hx hc0 W) m.len m.many hq
  · have hB : frB f = false := by
      unfold frB; rw [decide_eq_false hx]; rfl
    rw [hB, if_pos rfl]
    exact fCheck_code f.kind f.id f.off f.rngs.length f.data.length (wrap64 (f.code : Int)) f.fin (pId f.kind) (pOff f.kind) (pCode f.kind) (pData f.kind) (pFin f.kind) (pWord f.kind) A c B d w
      (Lib.hid fun W => partsOf_good f.kind m.kind W) (Lib.hid fun W => may_ok _ _ m.id m.noId W) (Lib.hid fun W => may_ok _ _ m.off m.noOff W) (Lib.hid fun W => may_bad _ _ (wrap64_bad _ (by omega) hc1) W) m.len m.many
end Go.Proofs.YtbcagdjfegobnaaGreat
