/- The contracts of an eye's fail, number and take. -/
import Derived.Test.YtenlgfeldkfmiaaFrameSame
import Derived.Test.YtenlgfeldkfmiaaDecodeWalk
namespace Go.Proofs.Ytenlgfeldkfmiaa
open Go.ChangeShapes Go.WideShapes Go.ChangeAt Go.RowKit
set_option linter.unusedVariables false

/-- What stays where one block alone is written: all others. -/
structure Only (g : Nat) (w w' : World) : Prop where
  os : w'.os = w.os
  tape : w'.tape = w.tape
  output : w'.output = w.output
  size : w'.heap.size = w.heap.size
  block : ∀ q, q ≠ g → w'.heap[q]? = w.heap[q]?
theorem Only.refl (g : Nat) (w : World) : Only g w w := ⟨rfl, rfl, rfl, rfl, fun _ _ => rfl⟩
theorem Only.trans {g : Nat} {a b c : World} (h : Only g a b) (k : Only g b c) : Only g a c := ⟨k.os.trans h.os, k.tape.trans h.tape, k.output.trans h.output, k.size.trans h.size, fun q hq => (k.block q hq).trans (h.block q hq)⟩
theorem Only.set (g i : Nat) (w : World) (u : Value) : Only g w (w.setCell ⟨g, i, none⟩ u) := by
  have h := (Below.refl 0 w).setCell (p := ⟨g, i, none⟩) (Nat.zero_le _) u
  exact ⟨h.os, h.tape, h.output, by simp, fun q hq => Below.heap_setCell w ⟨g, i, none⟩ u q hq⟩
theorem Only.below {g : Nat} {w w' : World} (h : Only g w w') {B : Nat} (hB : B ≤ g) : Below B w w' := ⟨h.os, h.tape, h.output, by rw [h.size]; exact Nat.le_refl _, fun q hq => h.block q (by omega)⟩
theorem Only.blk {g : Nat} {w w' : World} (h : Only g w w') {q : Nat} {t : TypeId} {cs : Array Value} (hq : q ≠ g) (hb : Blk w q t cs) : Blk w' q t cs := (h.block q hq).trans hb
theorem Only.own {g : Nat} {w w' : World} (h : Only g w w') {base : Nat} {e : TypeId} {size n : Nat} {v : Value} {xs : List Value} (ho : w.ownsRow base e size v n xs) (hg : ∀ k, v.ownBlock = some k → k ≠ g) : w'.ownsRow base e size v n xs := by
  refine ⟨ho.1, ?_⟩
  rcases ho.2 with h2 | ⟨k, cap, cur, hv, hk, hh, r⟩
  · exact .inl h2
  · exact .inr ⟨k, cap, cur, hv, hk, (h.block k (hg k (by rw [hv]; rfl))).trans hh, r⟩

theorem Blk.factsE {w : World} {g : Nat} {t : TypeId} {x y z : Value} (h : Blk w g t #[x, y, z]) : g < w.heap.size ∧ w.cell? ⟨g, 0, none⟩ = some x ∧ w.cell? ⟨g, 1, none⟩ = some y ∧ w.cell? ⟨g, 2, none⟩ = some z ∧
    w.frozen? ⟨g, 0, none⟩ = false ∧ w.frozen? ⟨g, 1, none⟩ = false ∧ w.frozen? ⟨g, 2, none⟩ = false :=
  ⟨h.lt, by rw [h.cell]; rfl, by rw [h.cell]; rfl, by rw [h.cell]; rfl, h.frozen 0, h.frozen 1, h.frozen 2⟩

/-- An eye in memory: what it reads was there from the beginning. -/
def EyeM (w0 w : World) (g : Nat) (y : EyeD) : Prop := ∃ (A : Option Addr) (n c : Nat), y.b.length = n ∧ n ≤ c ∧ c ≤ 9223372036854775807 ∧ Blk w g 76 #[.slice A n c, .int .i64 (y.u : Int), .int .i64 y.e] ∧ RdB w0 A y.b

theorem fail_zero (g : Nat) (s u : Value) (E : Int) (w : World) (h : Blk w g 76 #[s, u, .int .i64 0]) :
    Calls Try.prog 34 #[.pointer (some ⟨g, 0, none⟩), .int .i64 E] w fun e w' => e = .returned (.tuple #[]) ∧ w.setCell ⟨g, 2, none⟩ (.int .i64 E) = w' := by
  have F := h.factsE
  clear h
  go_enter Try.func34, Try.ntmps34
  go_wp2_with fail
  go_end0
  exact ⟨rfl, rfl⟩
theorem fail_non (g : Nat) (s u : Value) (E e0 : Int) (h0 : e0 ≠ 0) (w : World) (h : Blk w g 76 #[s, u, .int .i64 e0]) :
    Calls Try.prog 34 #[.pointer (some ⟨g, 0, none⟩), .int .i64 E] w fun e w' => e = .returned (.tuple #[]) ∧ w = w' := by
  have F := h.factsE
  have hne : (e0 == 0) = false := by simp [h0]
  clear h h0
  go_enter Try.func34, Try.ntmps34
  go_wp2_with fail
  go_end0
  exact ⟨rfl, rfl⟩
theorem fail_any (w0 w : World) (g : Nat) (y : EyeD) (E : Int) (h : EyeM w0 w g y) :
    Calls Try.prog 34 #[.pointer (some ⟨g, 0, none⟩), .int .i64 E] w fun e w' => e = .returned (.tuple #[]) ∧ EyeM w0 w' g (yFail E y) ∧ Only g w w' := by
  obtain ⟨A, n, c, hn, hnc, hcm, hB, hr⟩ := h
  obtain ⟨b, u, e⟩ := y
  by_cases h0 : e = 0
  · subst h0
    refine (fail_zero g _ _ E w hB).mono ?_
    rintro _ w' ⟨rfl, rfl⟩
    exact ⟨rfl, ⟨A, n, c, hn, hnc, hcm, hB.set_ 2 _, hr⟩, Only.set _ _ _ _⟩
  · refine (fail_non g _ _ E e h0 w hB).mono ?_
    rintro _ w' ⟨rfl, rfl⟩
    refine ⟨rfl, ?_, Only.refl _ _⟩
    rw [yFail_e h0]
    exact ⟨A, n, c, hn, hnc, hcm, hB, hr⟩

set_option maxRecDepth 100000 in
theorem number_off (g : Nat) (s u : Value) (e0 : Int) (h0 : e0 ≠ 0) (w : World) (h : Blk w g 76 #[s, u, .int .i64 e0]) :
    Calls Try.prog 31 #[.pointer (some ⟨g, 0, none⟩)] w fun e w' => e = .returned (.int .i64 0) ∧ w = w' := by
  have F := h.factsE
  have hne : (e0 == 0) = false := by simp [h0]
  clear h h0
  go_enter Try.func31, Try.ntmps31
  go_wp2_with fail
  go_ret
  exact ⟨rfl, rfl⟩
set_option maxRecDepth 100000 in
set_option maxHeartbeats 1000000 in
theorem number_short (g n c : Nat) (A : Option Addr) (b : List UInt8) (u : Value) (hn : b.length = n) (hnc : n ≤ c) (hcm : c ≤ 9223372036854775807) (w : World) (h : Blk w g 76 #[.slice A n c, u, .int .i64 0]) (hr : RdB w A b) (hd : decR b = (0, 0, 4)) :
    Calls Try.prog 31 #[.pointer (some ⟨g, 0, none⟩)] w fun e w' => e = .returned (.int .i64 0) ∧ w.setCell ⟨g, 2, none⟩ (.int .i64 4) = w' := by
  have F := h.factsE
  have HD := Lib.hid (decode_n A b n c w hn hr hnc hcm _ hd)
  have HH := Lib.hid h
  clear h hr hd hn
  go_enter Try.func31, Try.ntmps31
  go_wp2_with fail
  refine HD.out.mono ?_
  rintro e w' ⟨rfl, rfl⟩
  go_wp2_with fail
  refine (fail_zero g _ _ 4 _ HH.out).mono ?_
  rintro e w' ⟨rfl, rfl⟩
  go_wp2_with fail
  go_ret
  exact ⟨rfl, rfl⟩
set_option maxRecDepth 100000 in
set_option maxHeartbeats 1000000 in
theorem number_good (g n c m K u : Nat) (A D : Option Addr) (b : List UInt8) (hn : b.length = n) (hnc : n ≤ c) (hcm : c ≤ 9223372036854775807) (w : World) (h : Blk w g 76 #[.slice A n c, .int .i64 (u : Int), .int .i64 0]) (hr : RdB w A b) (hd : decR b = ((m : Int), (K : Int), 0))
    (hK : K ≤ n) (hu : u + n ≤ 140737488355328) (hD : (if c = K then A else Option.map (fun x => x.add K) A) = D) :
    Calls Try.prog 31 #[.pointer (some ⟨g, 0, none⟩)] w fun e w' => e = .returned (.int .i64 (m : Int)) ∧ (w.setCell ⟨g, 0, none⟩ (.slice D (n - K) (c - K))).setCell ⟨g, 1, none⟩ (.int .i64 ((u : Int) + (K : Int))) = w' := by
  have F := h.factsE
  have HD := Lib.hid (decode_n A b n c w hn hr hnc hcm _ hd)
  have hk0 : (0 : Int) ≤ (K : Int) := by omega
  have hkn : (K : Int) ≤ (n : Int) := by omega
  have hkc : (K : Int) ≤ (c : Int) := by omega
  clear h hr hd hn
  go_enter Try.func31, Try.ntmps31
  go_wp2_with fail
  refine HD.out.mono ?_
  rintro e w' ⟨rfl, rfl⟩
  go_wp2_with fail
  go_ret
  exact ⟨rfl, rfl⟩
theorem eyeNum_any (w0 w : World) (g : Nat) (y : EyeD) (hy : y.u + y.b.length ≤ 140737488355328) (hg : w0.heap.size ≤ g) (hb : Below w0.heap.size w0 w) (h : EyeM w0 w g y) :
    Calls Try.prog 31 #[.pointer (some ⟨g, 0, none⟩)] w fun e w' => e = .returned (.int .i64 ((yNum y).1 : Nat)) ∧ EyeM w0 w' g (yNum y).2 ∧ Only g w w' := by
  obtain ⟨A, n, c, hn, hnc, hcm, hB, hr⟩ := h
  obtain ⟨b, u, e⟩ := y
  simp only at hn
  by_cases h0 : e = 0
  · subst h0
    rcases decR_cases b with ⟨hd, _⟩ | ⟨m, K, hd, e1, e2, e3, e4, e5⟩
    · have hy : yNum ⟨b, u, 0⟩ = (0, ⟨b, u, 4⟩) := by simp [yNum, hd]
      rw [hy]
      refine (number_short g n c A b _ hn hnc hcm w hB (hr.below hb) hd).mono ?_
      rintro _ w' ⟨rfl, rfl⟩
      exact ⟨rfl, ⟨A, n, c, hn, hnc, hcm, hB.set_ 2 _, hr⟩, Only.set _ _ _ _⟩
    · have hyn : yNum ⟨b, u, 0⟩ = (m, ⟨b.drop K, u + K, 0⟩) := by simp [yNum, hd]
      rw [hyn]
      have hc := RdB.cut (k := K) (cap := c) hr e3 (by simp only [hn]; omega)
      refine (number_good g n c m K u A _ b hn hnc hcm w hB (hr.below hb) hd (by omega) (by simp only at hy; omega) rfl).mono ?_
      rintro _ w' ⟨rfl, rfl⟩
      refine ⟨rfl, ⟨_, n - K, c - K, by simp; omega, by omega, by omega, ?_, hc⟩, (Only.set _ _ _ _).trans (Only.set _ _ _ _)⟩
      refine Blk.as ((hB.set_ 0 _).set_ 1 _) ?_
      simp
  · have hy : yNum ⟨b, u, e⟩ = (0, ⟨b, u, e⟩) := by simp [yNum, h0]
    rw [hy]
    refine (number_off g _ _ e h0 w hB).mono ?_
    rintro _ w' ⟨rfl, rfl⟩
    exact ⟨rfl, ⟨A, n, c, hn, hnc, hcm, hB, hr⟩, Only.refl _ _⟩

set_option maxRecDepth 100000 in
theorem take_off (g : Nat) (s u : Value) (e0 : Int) (n : Nat) (h0 : e0 ≠ 0) (w : World) (h : Blk w g 76 #[s, u, .int .i64 e0]) :
    Calls Try.prog 33 #[.pointer (some ⟨g, 0, none⟩), .int .i64 (n : Int)] w fun e w' => e = .returned (.slice none 0 0) ∧ w = w' := by
  have F := h.factsE
  have hne : (e0 == 0) = false := by simp [h0]
  clear h h0
  go_enter Try.func33, Try.ntmps33
  go_wp2_with fail
  go_ret
  exact ⟨rfl, rfl⟩
set_option maxRecDepth 100000 in
set_option maxHeartbeats 1000000 in
theorem take_short (g l c n : Nat) (A : Option Addr) (u : Value) (hl : l < n) (w : World) (h : Blk w g 76 #[.slice A l c, u, .int .i64 0]) :
    Calls Try.prog 33 #[.pointer (some ⟨g, 0, none⟩), .int .i64 (n : Int)] w fun e w' => e = .returned (.slice none 0 0) ∧ w.setCell ⟨g, 2, none⟩ (.int .i64 4) = w' := by
  have F := h.factsE
  have HH := Lib.hid h
  have hd : decide (l < n) = true := decide_eq_true hl
  clear h
  go_enter Try.func33, Try.ntmps33
  go_wp2_with fail
  refine (fail_zero g _ _ 4 _ HH.out).mono ?_
  rintro e w' ⟨rfl, rfl⟩
  go_wp2_with fail
  go_ret
  exact ⟨rfl, rfl⟩
set_option maxRecDepth 100000 in
set_option maxHeartbeats 1000000 in
theorem take_good (g l c n u : Nat) (A D : Option Addr) (hn : n ≤ l) (hnc : l ≤ c) (hcm : c ≤ 9223372036854775807) (hu : u + l ≤ 140737488355328) (w : World) (h : Blk w g 76 #[.slice A l c, .int .i64 (u : Int), .int .i64 0])
    (hD : (if c = n then A else Option.map (fun x => x.add n) A) = D) :
    Calls Try.prog 33 #[.pointer (some ⟨g, 0, none⟩), .int .i64 (n : Int)] w fun e w' => e = .returned (.slice A n n) ∧ (w.setCell ⟨g, 0, none⟩ (.slice D (l - n) (c - n))).setCell ⟨g, 1, none⟩ (.int .i64 ((u : Int) + (n : Int))) = w' := by
  have F := h.factsE
  have hd : decide (l < n) = false := decide_eq_false (by omega)
  have hk0 : (0 : Int) ≤ (n : Int) := by omega
  have hkn : (n : Int) ≤ (l : Int) := by omega
  have hkc : (n : Int) ≤ (c : Int) := by omega
  clear h
  go_enter Try.func33, Try.ntmps33
  go_wp2_with fail
  go_ret
  exact ⟨rfl, rfl⟩
theorem eyeTake_any (w0 w : World) (g n : Nat) (y : EyeD) (hy : y.u + y.b.length ≤ 140737488355328) (hg : w0.heap.size ≤ g) (hb : Below w0.heap.size w0 w) (h : EyeM w0 w g y) :
    Calls Try.prog 33 #[.pointer (some ⟨g, 0, none⟩), .int .i64 (n : Int)] w fun e w' => ∃ (A : Option Addr) (k c : Nat), e = .returned (.slice A k c) ∧ (yTake n y).1.length = k ∧ k ≤ c ∧ c ≤ 9223372036854775807 ∧ RdB w0 A (yTake n y).1 ∧ EyeM w0 w' g (yTake n y).2 ∧ Only g w w' := by
  obtain ⟨A, l, c, hl, hnc, hcm, hB, hr⟩ := h
  obtain ⟨b, u, e⟩ := y
  simp only at hl
  by_cases h0 : e = 0
  · subst h0
    by_cases hs : l < n
    · have hy : yTake n ⟨b, u, 0⟩ = ([], ⟨b, u, 4⟩) := by simp [yTake, hl, hs]
      rw [hy]
      refine (take_short g l c n A _ hs w hB).mono ?_
      rintro _ w' ⟨rfl, rfl⟩
      exact ⟨none, 0, 0, rfl, rfl, Nat.le_refl _, by decide, RdB.nil, ⟨A, l, c, hl, hnc, hcm, hB.set_ 2 _, hr⟩, Only.set _ _ _ _⟩
    · have hy' : yTake n ⟨b, u, 0⟩ = (b.take n, ⟨b.drop n, u + n, 0⟩) := by simp [yTake, hl, hs]
      rw [hy']
      have hc := RdB.cut (k := n) (cap := c) hr (by simp only [hl]; omega) (by simp only [hl]; omega)
      refine (take_good g l c n u A _ (by omega) hnc hcm (by simp only [hl] at hy; omega) w hB rfl).mono ?_
      rintro _ w' ⟨rfl, rfl⟩
      refine ⟨A, n, n, rfl, by simp; omega, Nat.le_refl _, by omega, hr.front (by simp only [hl]; omega), ⟨_, l - n, c - n, by simp; omega, by omega, by omega, ?_, hc⟩, (Only.set _ _ _ _).trans (Only.set _ _ _ _)⟩
      refine Blk.as ((hB.set_ 0 _).set_ 1 _) ?_
      simp
  · have hy : yTake n ⟨b, u, e⟩ = ([], ⟨b, u, e⟩) := by simp [yTake, h0]
    rw [hy]
    refine (take_off g _ _ e n h0 w hB).mono ?_
    rintro _ w' ⟨rfl, rfl⟩
    exact ⟨none, 0, 0, rfl, rfl, Nat.le_refl _, by decide, RdB.nil, ⟨A, l, c, hl, hnc, hcm, hB, hr⟩, Only.refl _ _⟩
end Go.Proofs.Ytenlgfeldkfmiaa
