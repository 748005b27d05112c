/- Words for the walk of SenderGood: what stays while the round's own blocks and the row of frames are written; the frames that were sent. -/
import Derived.Test.YtpmgoediglmofaaSnTells
import Derived.Test.YtpmgoediglmofaaSnGrant
import Derived.Test.YtpmgoediglmofaaSnLose
import Derived.Test.YtpmgoediglmofaaSnErr
import Derived.Test.YtpmgoediglmofaaNest
namespace Go.Proofs.Ytpmgoediglmofaa
open Go.ChangeShapes Go.WideShapes Go.ChangeAt Go.RowKit
set_option linter.unusedVariables false

/-- The blocks from a to b are as they were. -/
def Agr (a b : Nat) (w wx : World) : Prop := w.heap.size ≤ wx.heap.size ∧ ∀ q, a ≤ q → q < b → wx.heap[q]? = w.heap[q]?
theorem Agr.refl (a b : Nat) (w : World) : Agr a b w w := ⟨Nat.le_refl _, fun _ _ _ => rfl⟩
theorem Agr.set {a b : Nat} {w wx : World} (h : Agr a b w wx) {p : Addr} (hp : p.block < a ∨ b ≤ p.block) (u : Value) : Agr a b w (wx.setCell p u) := ⟨by simpa using h.1, fun q h1 h2 => (Below.heap_setCell wx p u q (by omega)).trans (h.2 q h1 h2)⟩
theorem Agr.set8 {a b g : Nat} {w wx : World} (h : Agr a b w wx) (hp : g < a ∨ b ≤ g) (u0 u1 u2 u3 u4 u5 u6 u7 : Value) : Agr a b w ((((((((wx.setCell ⟨g, 0, none⟩ u0).setCell ⟨g, 1, none⟩ u1).setCell ⟨g, 2, none⟩ u2).setCell ⟨g, 3, none⟩ u3).setCell ⟨g, 4, none⟩ u4).setCell ⟨g, 5, none⟩ u5).setCell ⟨g, 6, none⟩ u6).setCell ⟨g, 7, none⟩ u7) :=
  (((((((h.set (p := ⟨g, 0, none⟩) hp u0).set (p := ⟨g, 1, none⟩) hp u1).set (p := ⟨g, 2, none⟩) hp u2).set (p := ⟨g, 3, none⟩) hp u3).set (p := ⟨g, 4, none⟩) hp u4).set (p := ⟨g, 5, none⟩) hp u5).set (p := ⟨g, 6, none⟩) hp u6).set (p := ⟨g, 7, none⟩) hp u7
theorem Agr.set7 {a b g : Nat} {w wx : World} (h : Agr a b w wx) (hp : g < a ∨ b ≤ g) (u0 u1 u2 u3 u4 u5 u6 : Value) : Agr a b w (((((((wx.setCell ⟨g, 0, none⟩ u0).setCell ⟨g, 1, none⟩ u1).setCell ⟨g, 2, none⟩ u2).setCell ⟨g, 3, none⟩ u3).setCell ⟨g, 4, none⟩ u4).setCell ⟨g, 5, none⟩ u5).setCell ⟨g, 6, none⟩ u6) :=
  ((((((h.set (p := ⟨g, 0, none⟩) hp u0).set (p := ⟨g, 1, none⟩) hp u1).set (p := ⟨g, 2, none⟩) hp u2).set (p := ⟨g, 3, none⟩) hp u3).set (p := ⟨g, 4, none⟩) hp u4).set (p := ⟨g, 5, none⟩) hp u5).set (p := ⟨g, 6, none⟩) hp u6
theorem Agr.alloc {a b : Nat} {w wx : World} (h : Agr a b w wx) (hb : b ≤ wx.heap.size) (o : Obj) : Agr a b w (wx.alloc o) := ⟨Nat.le_trans h.1 (by simp), fun q h1 h2 => (((Below.refl wx.heap.size wx).alloc (Nat.le_refl _) o).block q (by omega)).trans (h.2 q h1 h2)⟩
theorem Agr.drew {a b : Nat} {w wx : World} (h : Agr a b w wx) : Agr a b w wx.drew := h
theorem Blk.newE {w : World} {t : TypeId} {cs : Array Value} {H : Nat} (hH : w.heap.size = H) : Blk (w.alloc (.cells cs t)) H t cs := by subst hH; exact Blk.new _ _ _
theorem Blk.setF {w : World} {g : Nat} {t : TypeId} {a b c d e f k : Value} (h : Blk w g t #[a, b, c, d, e, f, k]) (u0 u1 u2 u3 u4 u5 u6 : Value) : Blk (((((((w.setCell ⟨g, 0, none⟩ u0).setCell ⟨g, 1, none⟩ u1).setCell ⟨g, 2, none⟩ u2).setCell ⟨g, 3, none⟩ u3).setCell ⟨g, 4, none⟩ u4).setCell ⟨g, 5, none⟩ u5).setCell ⟨g, 6, none⟩ u6) g t #[u0, u1, u2, u3, u4, u5, u6] := by
  have h0 : Blk _ g t #[u0, b, c, d, e, f, k] := (h.set_ 0 u0).as (by simp)
  have h1 : Blk _ g t #[u0, u1, c, d, e, f, k] := (h0.set_ 1 u1).as (by simp)
  have h2 : Blk _ g t #[u0, u1, u2, d, e, f, k] := (h1.set_ 2 u2).as (by simp)
  have h3 : Blk _ g t #[u0, u1, u2, u3, e, f, k] := (h2.set_ 3 u3).as (by simp)
  have h4 : Blk _ g t #[u0, u1, u2, u3, u4, f, k] := (h3.set_ 4 u4).as (by simp)
  have h5 : Blk _ g t #[u0, u1, u2, u3, u4, u5, k] := (h4.set_ 5 u5).as (by simp)
  exact (h5.set_ 6 u6).as (by simp)
theorem Blk.setS {w : World} {g : Nat} {t : TypeId} {a b c d e f k l : Value} (h : Blk w g t #[a, b, c, d, e, f, k, l]) (u0 u1 u2 u3 u4 u5 u6 u7 : Value) : Blk ((((((((w.setCell ⟨g, 0, none⟩ u0).setCell ⟨g, 1, none⟩ u1).setCell ⟨g, 2, none⟩ u2).setCell ⟨g, 3, none⟩ u3).setCell ⟨g, 4, none⟩ u4).setCell ⟨g, 5, none⟩ u5).setCell ⟨g, 6, none⟩ u6).setCell ⟨g, 7, none⟩ u7) g t #[u0, u1, u2, u3, u4, u5, u6, u7] := by
  have h0 : Blk _ g t #[u0, b, c, d, e, f, k, l] := (h.set_ 0 u0).as (by simp)
  have h1 : Blk _ g t #[u0, u1, c, d, e, f, k, l] := (h0.set_ 1 u1).as (by simp)
  have h2 : Blk _ g t #[u0, u1, u2, d, e, f, k, l] := (h1.set_ 2 u2).as (by simp)
  have h3 : Blk _ g t #[u0, u1, u2, u3, e, f, k, l] := (h2.set_ 3 u3).as (by simp)
  have h4 : Blk _ g t #[u0, u1, u2, u3, u4, f, k, l] := (h3.set_ 4 u4).as (by simp)
  have h5 : Blk _ g t #[u0, u1, u2, u3, u4, u5, k, l] := (h4.set_ 5 u5).as (by simp)
  have h6 : Blk _ g t #[u0, u1, u2, u3, u4, u5, u6, l] := (h5.set_ 6 u6).as (by simp)
  exact (h6.set_ 7 u7).as (by simp)
theorem Blk.farF {w : World} {g q : Nat} {t : TypeId} {cs : Array Value} (h : Blk w g t cs) (hne : g ≠ q) (u0 u1 u2 u3 u4 u5 u6 : Value) : Blk (((((((w.setCell ⟨q, 0, none⟩ u0).setCell ⟨q, 1, none⟩ u1).setCell ⟨q, 2, none⟩ u2).setCell ⟨q, 3, none⟩ u3).setCell ⟨q, 4, none⟩ u4).setCell ⟨q, 5, none⟩ u5).setCell ⟨q, 6, none⟩ u6) g t cs := (((((((h.far (p := ⟨q, 0, none⟩) hne u0).far (p := ⟨q, 1, none⟩) hne u1).far (p := ⟨q, 2, none⟩) hne u2).far (p := ⟨q, 3, none⟩) hne u3).far (p := ⟨q, 4, none⟩) hne u4).far (p := ⟨q, 5, none⟩) hne u5).far (p := ⟨q, 6, none⟩) hne u6)
theorem Blk.farS {w : World} {g q : Nat} {t : TypeId} {cs : Array Value} (h : Blk w g t cs) (hne : g ≠ q) (u0 u1 u2 u3 u4 u5 u6 u7 : Value) : Blk ((((((((w.setCell ⟨q, 0, none⟩ u0).setCell ⟨q, 1, none⟩ u1).setCell ⟨q, 2, none⟩ u2).setCell ⟨q, 3, none⟩ u3).setCell ⟨q, 4, none⟩ u4).setCell ⟨q, 5, none⟩ u5).setCell ⟨q, 6, none⟩ u6).setCell ⟨q, 7, none⟩ u7) g t cs := (h.farF hne u0 u1 u2 u3 u4 u5 u6).far (p := ⟨q, 7, none⟩) hne u7
theorem Below.setF {B q : Nat} {a w : World} (h : Below B a w) (hq : B ≤ q) (u0 u1 u2 u3 u4 u5 u6 : Value) : Below B a (((((((w.setCell ⟨q, 0, none⟩ u0).setCell ⟨q, 1, none⟩ u1).setCell ⟨q, 2, none⟩ u2).setCell ⟨q, 3, none⟩ u3).setCell ⟨q, 4, none⟩ u4).setCell ⟨q, 5, none⟩ u5).setCell ⟨q, 6, none⟩ u6) := (((((((h.setCell (p := ⟨q, 0, none⟩) hq u0).setCell (p := ⟨q, 1, none⟩) hq u1).setCell (p := ⟨q, 2, none⟩) hq u2).setCell (p := ⟨q, 3, none⟩) hq u3).setCell (p := ⟨q, 4, none⟩) hq u4).setCell (p := ⟨q, 5, none⟩) hq u5).setCell (p := ⟨q, 6, none⟩) hq u6)
theorem Below.setS {B q : Nat} {a w : World} (h : Below B a w) (hq : B ≤ q) (u0 u1 u2 u3 u4 u5 u6 u7 : Value) : Below B a ((((((((w.setCell ⟨q, 0, none⟩ u0).setCell ⟨q, 1, none⟩ u1).setCell ⟨q, 2, none⟩ u2).setCell ⟨q, 3, none⟩ u3).setCell ⟨q, 4, none⟩ u4).setCell ⟨q, 5, none⟩ u5).setCell ⟨q, 6, none⟩ u6).setCell ⟨q, 7, none⟩ u7) := (Below.setF h hq u0 u1 u2 u3 u4 u5 u6).setCell (p := ⟨q, 7, none⟩) hq u7

/-- A frame that was sent. -/
structure FrG where
  off : Int
  nd : Nat
  F : Bool
  D : Option Addr
  cd : Nat
def fgc (x : FrG) : List Value := [.int .i64 8, .int .i64 0, .int .i64 x.off, .bool x.F, .int .i64 0, .slice none 0 0, .slice x.D x.nd x.cd]
def fgn : FrG := ⟨0, 0, false, none, 0⟩
theorem fgc_len (x : FrG) : (fgc x).length = 7 := rfl
theorem fgc_one (x : FrG) : ∀ u ∈ fgc x, u.oneCell' = true := by
  intro u hu
  simp only [fgc, List.mem_cons, List.not_mem_nil, or_false] at hu
  rcases hu with rfl | rfl | rfl | rfl | rfl | rfl | rfl <;> rfl
/-- What was sent may be told of. -/
def SntOk (n : Nat) (fin : Bool) (nx : Int) (fs : List FrG) : Prop := ∀ x ∈ fs, 0 ≤ x.off ∧ x.off + x.nd ≤ nx ∧ (x.F = true → fin = true ∧ nx = n ∧ x.off + x.nd = n)
theorem SntOk.nil (n : Nat) (fin : Bool) (nx : Int) : SntOk n fin nx [] := fun x hx => absurd hx List.not_mem_nil
theorem SntOk.part {n : Nat} {fin : Bool} {nx : Int} {fs : List FrG} (h : SntOk n fin nx fs) (ended over : Bool) {x : FrG} (hx : x ∈ fs) : partOk n fin nx ended over x.off (x.nd : Int) x.F := by
  obtain ⟨h0, h1, h2⟩ := h x hx
  refine ⟨h0, by omega, by omega, by omega, fun hf => ?_⟩
  obtain ⟨a, b, c⟩ := h2 hf
  exact ⟨.inr (.inr ⟨a, b⟩), c⟩
theorem SntOk.up {n : Nat} {fin : Bool} {nx nx' : Int} {fs : List FrG} (h : SntOk n fin nx fs) (h0 : nx ≤ nx') (h1 : nx' ≤ n) : SntOk n fin nx' fs := fun x hx => by
  obtain ⟨a, b, c⟩ := h x hx
  exact ⟨a, by omega, fun hf => by obtain ⟨p, q, r⟩ := c hf; exact ⟨p, by omega, r⟩⟩
theorem SntOk.write {n z : Nat} {f : Bool} {nx : Int} {fs : List FrG} (h : SntOk n false nx fs) : SntOk z f nx fs := fun x hx => by
  obtain ⟨a, b, c⟩ := h x hx
  exact ⟨a, b, fun hf => by have := (c hf).1; cases this⟩
theorem SntOk.snoc {n : Nat} {fin : Bool} {nx : Int} {fs : List FrG} (h : SntOk n fin nx fs) (x : FrG) (hx : 0 ≤ x.off ∧ x.off + x.nd ≤ nx ∧ (x.F = true → fin = true ∧ nx = n ∧ x.off + x.nd = n)) : SntOk n fin nx (fs ++ [x]) := fun y hy => by
  rcases List.mem_append.1 hy with h1 | h1
  · exact h y h1
  · rw [List.mem_singleton.1 h1]; exact hx

/-- What holds, and goes on holding while nobody writes but to gS, gN, gF and the row bo. -/
def KeptG (gS gN gF : Nat) (bo : Option Nat) (wr : World) (P : World → Prop) : Prop := ∀ W : World, (∀ q, q ≠ gS → q ≠ gN → q ≠ gF → bo ≠ some q → q < wr.heap.size → W.heap[q]? = wr.heap[q]?) → P W
section
variable {gS gN gF : Nat} {bo : Option Nat} {wr w' : World} {P Q : World → Prop}
theorem KeptG.here (h : KeptG gS gN gF bo wr P) : P wr := h wr fun _ _ _ _ _ _ => rfl
theorem KeptG.imp (h : KeptG gS gN gF bo wr P) (f : ∀ W, P W → Q W) : KeptG gS gN gF bo wr Q := fun W hW => f W (h W hW)
theorem KeptG.below (h : KeptG gS gN gF bo wr P) (hb : Below wr.heap.size wr w') : KeptG gS gN gF bo w' P := fun W hW => h W fun q h1 h2 h3 h4 h5 => (hW q h1 h2 h3 h4 (Nat.lt_of_lt_of_le h5 hb.size)).trans (hb.block q h5)
theorem KeptG.set (h : KeptG gS gN gF bo wr P) {p : Addr} (hp : p.block = gS ∨ p.block = gN ∨ p.block = gF) (u : Value) : KeptG gS gN gF bo (wr.setCell p u) P := fun W hW => h W fun q h1 h2 h3 h4 h5 => (hW q h1 h2 h3 h4 (by simpa using h5)).trans (Below.heap_setCell wr p u q (by omega))
theorem KeptG.grown {bo' : Option Nat} (h : KeptG gS gN gF bo wr P) (hg : wr.grownBy w' bo) (hb : ∀ k, bo' = some k → bo = some k ∨ wr.heap.size ≤ k) : KeptG gS gN gF bo' w' P := fun W hW => h W fun q h1 h2 h3 h4 h5 =>
  (hW q h1 h2 h3 (fun e => by rcases hb q e with h6 | h6; exact h4 h6; omega) (Nat.lt_of_lt_of_le h5 hg.size)).trans (hg.block q h5 fun e => h4 e.symm)
/-- Other blocks of the round's own. -/
theorem KeptG.re {gN' gF' : Nat} (h : KeptG gS gN gF bo wr P) (hN : gN' = gS ∨ gN' = gN ∨ gN' = gF ∨ wr.heap.size ≤ gN') (hF : gF' = gS ∨ gF' = gN ∨ gF' = gF ∨ wr.heap.size ≤ gF') : KeptG gS gN' gF' bo wr P := fun W hW => h W fun q h1 h2 h3 h4 h5 => hW q h1 (by omega) (by omega) h4 h5
/-- What a call made stays. -/
theorem SpKeep.keptG {w0 wx : World} {a b : Nat} (h : SpKeep w0 w' P) (ha : a = w0.heap.size) (hb : b = w'.heap.size) (hS : gS < a) (hN : gN < a ∨ b ≤ gN) (hF : gF < a ∨ b ≤ gF) (hbo : ∀ k, bo = some k → k < a) (hA : Agr a b w' wx) : KeptG gS gN gF bo wx P := fun W hW => h W fun q h1 h2 => by
  subst ha; subst hb
  exact (hW q (by omega) (by omega) (by omega) (fun e => by have := hbo q e; omega) (Nat.lt_of_lt_of_le h2 hA.1)).trans (hA.2 q h1 h2)
theorem KeptG.set8 {g : Nat} (h : KeptG gS gN gF bo wr P) (hp : g = gS ∨ g = gN ∨ g = gF) (u0 u1 u2 u3 u4 u5 u6 u7 : Value) : KeptG gS gN gF bo ((((((((wr.setCell ⟨g, 0, none⟩ u0).setCell ⟨g, 1, none⟩ u1).setCell ⟨g, 2, none⟩ u2).setCell ⟨g, 3, none⟩ u3).setCell ⟨g, 4, none⟩ u4).setCell ⟨g, 5, none⟩ u5).setCell ⟨g, 6, none⟩ u6).setCell ⟨g, 7, none⟩ u7) P :=
  (((((((h.set (p := ⟨g, 0, none⟩) hp u0).set (p := ⟨g, 1, none⟩) hp u1).set (p := ⟨g, 2, none⟩) hp u2).set (p := ⟨g, 3, none⟩) hp u3).set (p := ⟨g, 4, none⟩) hp u4).set (p := ⟨g, 5, none⟩) hp u5).set (p := ⟨g, 6, none⟩) hp u6).set (p := ⟨g, 7, none⟩) hp u7
end
/-- The row of the frames that were sent. -/
structure GdRow (w : World) (b : Nat) (T : Option Addr) (c : Nat) (fs : List FrG) : Prop where
  o : OwnX fgc 7 w b 59 T c fs
section
variable {w w' : World} {b : Nat} {T : Option Addr} {c : Nat} {fs : List FrG}
theorem GdRow.carry (h : GdRow w b T c fs) (hb : Below w.heap.size w w') : GdRow w' b T c fs := ⟨h.o.carry hb⟩
theorem GdRow.lt (h : GdRow w b T c fs) : ∀ k, T.map (·.block) = some k → b ≤ k ∧ k < w.heap.size := fun k hk => h.o.lt (n := 0) k (by rw [blk_of]; exact hk)
theorem GdRow.set (h : GdRow w b T c fs) {p : Addr} (hp : ∀ k, T.map (·.block) = some k → k ≠ p.block) (u : Value) : GdRow (w.setCell p u) b T c fs := ⟨own_far h.o (fun k hk => hp k (by rw [blk_of] at hk; exact hk)) u⟩
theorem GdRow.set8 {g : Nat} (h : GdRow w b T c fs) (hp : ∀ k, T.map (·.block) = some k → k ≠ g) (u0 u1 u2 u3 u4 u5 u6 u7 : Value) : GdRow ((((((((w.setCell ⟨g, 0, none⟩ u0).setCell ⟨g, 1, none⟩ u1).setCell ⟨g, 2, none⟩ u2).setCell ⟨g, 3, none⟩ u3).setCell ⟨g, 4, none⟩ u4).setCell ⟨g, 5, none⟩ u5).setCell ⟨g, 6, none⟩ u6).setCell ⟨g, 7, none⟩ u7) b T c fs :=
  (((((((h.set (p := ⟨g, 0, none⟩) hp u0).set (p := ⟨g, 1, none⟩) hp u1).set (p := ⟨g, 2, none⟩) hp u2).set (p := ⟨g, 3, none⟩) hp u3).set (p := ⟨g, 4, none⟩) hp u4).set (p := ⟨g, 5, none⟩) hp u5).set (p := ⟨g, 6, none⟩) hp u6).set (p := ⟨g, 7, none⟩) hp u7
theorem GdRow.set7 {g : Nat} (h : GdRow w b T c fs) (hp : ∀ k, T.map (·.block) = some k → k ≠ g) (u0 u1 u2 u3 u4 u5 u6 : Value) : GdRow (((((((w.setCell ⟨g, 0, none⟩ u0).setCell ⟨g, 1, none⟩ u1).setCell ⟨g, 2, none⟩ u2).setCell ⟨g, 3, none⟩ u3).setCell ⟨g, 4, none⟩ u4).setCell ⟨g, 5, none⟩ u5).setCell ⟨g, 6, none⟩ u6) b T c fs :=
  ((((((h.set (p := ⟨g, 0, none⟩) hp u0).set (p := ⟨g, 1, none⟩) hp u1).set (p := ⟨g, 2, none⟩) hp u2).set (p := ⟨g, 3, none⟩) hp u3).set (p := ⟨g, 4, none⟩) hp u4).set (p := ⟨g, 5, none⟩) hp u5).set (p := ⟨g, 6, none⟩) hp u6
theorem GdRow.cap (h : GdRow w b T c fs) : fs.length ≤ c ∧ c ≤ 9223372036854775807 := h.o.cap
theorem GdRow.at_ (h : GdRow w b T c fs) (hn : 0 < fs.length) : ∃ g off, T = some ⟨g, off, none⟩ ∧ ∀ k, k < fs.length → ∀ j v, j < 7 → (fgc (fs.getD k fgn))[j]? = some v → w.cell? ⟨g, off + k * 7 + j, none⟩ = some v := RdX.at_ fgc_len h.o.rd fgn hn
end
/-- The state at the head of a round. -/
def GdSt (w0 wr : World) (gS i : Nat) (s4 : Value) : Prop := ∃ (A : Option Addr) (n c : Nat) (bs : List UInt8) (fin : Bool) (nx mx : Int) (B : Option Addr) (m d : Nat) (lost : List Rng) (C : Option Addr) (k e : Nat) (acked : List Rng) (ended over : Bool) (T : Option Addr) (ns cs : Nat) (fs : List FrG),
  s4 = .slice T ns cs ∧ fs.length = ns ∧ ns ≤ i ∧ Blk wr gS 50 #[.slice A n c, .bool fin, .int .i64 nx, .int .i64 mx, .slice B m d, .slice C k e, .bool ended, .bool over] ∧ KeptG gS gS gS (T.map (·.block)) wr (fun W => SnV W A n c bs fin nx mx B m d lost C k e acked ended over) ∧ GdRow wr (gS + 1) T cs fs ∧ SntOk n fin nx fs ∧ Below gS w0 wr
/-- The state behind the switch. -/
def GdMid (w0 wx : World) (gS gN i : Nat) (n : Nat) (fin : Bool) (nx : Int) (Sn : World → Prop) (old : Array Value) (s4 s8 : Value) : Prop := ∃ (T : Option Addr) (ns cs : Nat) (fs : List FrG) (code : Int),
  s4 = .slice T ns cs ∧ s8 = .int .i64 code ∧ fs.length = ns ∧ ns ≤ i + 1 ∧ Blk wx gS 50 old ∧ GdRow wx (gS + 1) T cs fs ∧ (∀ k, T.map (·.block) = some k → k ≠ gN) ∧ Below gS w0 wx ∧
  ((∃ (A : Option Addr) (n c : Nat) (bs : List UInt8) (fin : Bool) (nx mx : Int) (B : Option Addr) (m d : Nat) (lost : List Rng) (C : Option Addr) (k e : Nat) (acked : List Rng) (ended over : Bool), code = 0 ∧ Blk wx gN 50 #[.slice A n c, .bool fin, .int .i64 nx, .int .i64 mx, .slice B m d, .slice C k e, .bool ended, .bool over] ∧ KeptG gS gN gN (T.map (·.block)) wx (fun W => SnV W A n c bs fin nx mx B m d lost C k e acked ended over) ∧ SntOk n fin nx fs) ∨
    ((code = 17 ∨ code = 8) ∧ KeptG gS gN gN (T.map (·.block)) wx Sn ∧ SntOk n fin nx fs))
/-- What Write answers. -/
def WrOut (w : World) (n x : Nat) (bs xs : List UInt8) (fin : Bool) (nx mx : Int) (lost acked : List Rng) (ended over f : Bool) (e' : Ending) (w' : World) : Prop := ∃ (A' : Option Addr) (n' c' : Nat) (f' : Bool) (nx' mx' : Int) (B' : Option Addr) (m' d' : Nat) (C' : Option Addr) (k' e2 : Nat) (en' ov' : Bool) (code : Int),
  e' = .returned (.tuple #[.agg #[.slice A' n' c', .bool f', .int .i64 nx', .int .i64 mx', .slice B' m' d', .slice C' k' e2, .bool en', .bool ov'], .int .i64 code]) ∧ Below w.heap.size w w' ∧
  ((code = 0 ∧ fin = false ∧ n' = n + x ∧ f' = f ∧ nx' = nx ∧ mx' = mx ∧ en' = ended ∧ ov' = over ∧ SpKeep w w' (fun W => SnV W A' n' c' (bs ++ xs) f' nx' mx' B' m' d' lost C' k' e2 acked en' ov')) ∨ code = 17 ∨ code = 8)
theorem snWrite_any (w : World) (A : Option Addr) (n c : Nat) (bs : List UInt8) (fin : Bool) (nx mx : Int) (B : Option Addr) (m d : Nat) (lost : List Rng) (C : Option Addr) (k e : Nat) (acked : List Rng) (ended over : Bool) (h : SnV w A n c bs fin nx mx B m d lost C k e acked ended over)
    (X : Option Addr) (x cx : Nat) (xs : List UInt8) (hx : xs.length = x) (hxc : x ≤ cx) (hcx : cx ≤ 9223372036854775807) (hx1 : x ≤ 1000) (hr : RdB w X xs) (f : Bool) :
    Calls Try.prog 16 #[.agg #[.slice A n c, .bool fin, .int .i64 nx, .int .i64 mx, .slice B m d, .slice C k e, .bool ended, .bool over], .slice X x cx, .bool f] w (WrOut w n x bs xs fin nx mx lost acked ended over f) := by
  cases fin with
  | true =>
    refine (snWrite_done w A n c bs nx mx B m d lost C k e acked ended over h X x cx f).mono ?_
    rintro e' w' ⟨rfl, hb⟩
    exact ⟨none, 0, 0, false, 0, 0, none, 0, 0, none, 0, 0, false, false, 17, rfl, hb, .inr (.inl rfl)⟩
  | false =>
    by_cases hf : 600 < n + x
    · refine (snWrite_full w A n c bs nx mx B m d lost C k e acked ended over h X x cx f hf hx1).mono ?_
      rintro e' w' ⟨rfl, hb⟩
      exact ⟨none, 0, 0, false, 0, 0, none, 0, 0, none, 0, 0, false, false, 8, rfl, hb, .inr (.inr rfl)⟩
    · refine (snWrite_ok w A n c bs nx mx B m d lost C k e acked ended over h X x cx xs hx hxc hcx hr (by omega) f _ rfl _ rfl).mono ?_
      rintro e' w' ⟨A', c', B', d', C', k', rfl, hK, hb⟩
      exact ⟨A', _, c', f, nx, mx, B', m, d', C', k, k', ended, over, 0, rfl, hb, .inl ⟨rfl, rfl, rfl, rfl, rfl, rfl, rfl, rfl, hK⟩⟩
end Go.Proofs.Ytpmgoediglmofaa
