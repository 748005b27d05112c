/- Rows of fields stay where a table is written. -/
import Derived.Test.YtihngonemdaihaaFLine
namespace Go.Proofs.Ytihngonemdaihaa
open Go.RowKit
set_option linter.unusedVariables false

def NoStr (cs : Array Value) : Prop := ∀ (i : Nat) (x : ByteArray), cs[i]? ≠ some (.string x)
theorem noStr3 (a b : Int) (X : Option Addr) (x y : Nat) : NoStr #[.int .i64 a, .int .i64 b, .slice X x y] := by
  intro i s
  rcases i with _ | _ | _ | i <;> simp
theorem noStr_set {cs : Array Value} (h : NoStr cs) (i : Nat) (u : Value) (hu : ∀ x, u ≠ .string x) : NoStr (cs.setIfInBounds i u) := by
  intro j x hj
  rw [Array.getElem?_setIfInBounds] at hj
  split at hj
  · split at hj
    · injection hj with hj; exact hu x hj
    · cases hj
  · exact h j x hj
theorem fcells_str {xs : List Fld} {v : Value} (hv : v ∈ xs.flatMap fcells) : ∃ x, v = .string x := by
  obtain ⟨f, _, hf⟩ := List.mem_flatMap.1 hv
  simp [fcells] at hf
  rcases hf with rfl | rfl
  · exact ⟨_, rfl⟩
  · exact ⟨_, rfl⟩
theorem RdX.setT {w : World} {A : Option Addr} {xs : List Fld} (h : RdX fcells 2 w A xs) {g : Nat} {t : TypeId} {cs : Array Value} (hB : Blk w g t cs) (hc : NoStr cs) (i : Nat) (u : Value) : RdX fcells 2 (w.setCell ⟨g, i, none⟩ u) A xs :=
  ⟨h.1, fun hn => by
    obtain ⟨b, off, rfl, hcell⟩ := h.2 hn
    refine ⟨b, off, rfl, fun j v hv => ?_⟩
    have hx := hcell j v hv
    obtain ⟨x, rfl⟩ := fcells_str (List.mem_of_getElem? hv)
    by_cases hb : b = g
    · subst hb
      rw [hB.cell] at hx
      exact absurd hx (hc _ _)
    · rw [World.cell?_of_block (w := w) (Below.heap_setCell w ⟨g, i, none⟩ u b hb)]
      exact hx⟩
theorem RdX.setT3 {w : World} {A : Option Addr} {xs : List Fld} (h : RdX fcells 2 w A xs) {g : Nat} {t : TypeId} {a b : Int} {X : Option Addr} {x y : Nat} (hB : Blk w g t #[.int .i64 a, .int .i64 b, .slice X x y]) (a' b' : Int) (X' : Option Addr) (x' y' : Nat) :
    RdX fcells 2 (((w.setCell ⟨g, 0, none⟩ (.int .i64 a')).setCell ⟨g, 1, none⟩ (.int .i64 b')).setCell ⟨g, 2, none⟩ (.slice X' x' y')) A xs :=
  ((h.setT hB (noStr3 _ _ _ _ _) 0 _).setT (hB.set_ 0 _) (noStr_set (noStr3 _ _ _ _ _) _ _ (fun _ h => by cases h)) 1 _).setT ((hB.set_ 0 _).set_ 1 _) (noStr_set (noStr_set (noStr3 _ _ _ _ _) _ _ (fun _ h => by cases h)) _ _ (fun _ h => by cases h)) 2 _
theorem TabV.rows {w w' : World} {room put : Int} {A : Option Addr} {n c : Nat} {l : List Fld} (h : TabV w room put A n c l) (hr : RdX fcells 2 w' A l) : TabV w' room put A n c l :=
  ⟨h.hn, h.hnc, h.hcm, h.h0, h.h1, h.h2, h.h3, h.hf, h.hs, hr⟩
theorem Blk.set3 {w : World} {g : Nat} {t : TypeId} {x y z : Value} (h : Blk w g t #[x, y, z]) (u v s : Value) : Blk (((w.setCell ⟨g, 0, none⟩ u).setCell ⟨g, 1, none⟩ v).setCell ⟨g, 2, none⟩ s) g t #[u, v, s] := ((h.set_ 0 u).set_ 1 v).set_ 2 s
theorem Below.set3 {B : Nat} {a w : World} (h : Below B a w) {g : Nat} (hg : B ≤ g) (u v s : Value) : Below B a (((w.setCell ⟨g, 0, none⟩ u).setCell ⟨g, 1, none⟩ v).setCell ⟨g, 2, none⟩ s) := ((h.setCell hg u).setCell hg v).setCell hg s
/-- A row stays where a block is written none of whose cells is of the row's kind. -/
theorem Rd.setP {p : Value → Prop} {w : World} {size n : Nat} {A : Option Addr} {xs : List Value} (h : Rd w size A n xs) (hx : ∀ v ∈ xs, p v) {g : Nat} {t : TypeId} {cs : Array Value} (hB : Blk w g t cs) (hc : ∀ (i : Nat) v, cs[i]? = some v → ¬ p v) (i : Nat) (u : Value) : Rd (w.setCell ⟨g, i, none⟩ u) size A n xs :=
  ⟨h.1, fun hn => by
    obtain ⟨b, off, rfl, hcell⟩ := h.2 hn
    refine ⟨b, off, rfl, fun j v hv => ?_⟩
    have hj := hcell j v hv
    by_cases hb : b = g
    · subst hb
      rw [hB.cell] at hj
      exact absurd (hx v (List.mem_of_getElem? hv)) (hc _ _ hj)
    · rw [World.cell?_of_block (w := w) (Below.heap_setCell w ⟨g, i, none⟩ u b hb)]
      exact hj⟩
def IsU8 (v : Value) : Prop := ∃ z, v = .int .u8 z
theorem u8s_is (bs : List UInt8) : ∀ v ∈ u8s bs, IsU8 v := fun v hv => by
  obtain ⟨b, _, rfl⟩ := List.mem_map.1 hv
  exact ⟨_, rfl⟩
theorem noU83 (a b : Int) (X : Option Addr) (x y : Nat) : ∀ (i : Nat) v, (#[.int .i64 a, .int .i64 b, .slice X x y] : Array Value)[i]? = some v → ¬ IsU8 v := by
  intro i v hv
  rintro ⟨z, rfl⟩
  rcases i with _ | _ | _ | i <;> simp at hv
theorem RdB.setT3 {w : World} {A : Option Addr} {bs : List UInt8} (h : RdB w A bs) {g : Nat} {t : TypeId} {a b : Int} {X : Option Addr} {x y : Nat} (hB : Blk w g t #[.int .i64 a, .int .i64 b, .slice X x y]) (a' b' : Int) (X' : Option Addr) (x' y' : Nat) :
    RdB (((w.setCell ⟨g, 0, none⟩ (.int .i64 a')).setCell ⟨g, 1, none⟩ (.int .i64 b')).setCell ⟨g, 2, none⟩ (.slice X' x' y')) A bs :=
  Rd.setP (Rd.setP (Rd.setP h (u8s_is bs) hB (noU83 _ _ _ _ _) 0 _) (u8s_is bs) ((hB.set_ 0 _).as (ds := #[.int .i64 a', .int .i64 b, .slice X x y]) (by rfl)) (noU83 _ _ _ _ _) 1 _) (u8s_is bs) (((hB.set_ 0 _).set_ 1 _).as (ds := #[.int .i64 a', .int .i64 b', .slice X x y]) (by rfl)) (noU83 _ _ _ _ _) 2 _
/-- A table in a block of its own. -/
structure TabB (w : World) (g : Nat) (room put : Int) (A : Option Addr) (n c : Nat) (l : List Fld) : Prop where
  blk : Blk w g 29 #[.int .i64 room, .int .i64 put, .slice A n c]
  tab : TabV w room put A n c l
theorem TabB.below {w w' : World} {g : Nat} {room put : Int} {A : Option Addr} {n c : Nat} {l : List Fld} (h : TabB w g room put A n c l) (hb : Below w.heap.size w w') : TabB w' g room put A n c l := ⟨h.blk.carry hb, h.tab.below hb⟩
/-- A block of a table was laid ahead of the call whose answer is stored in it. -/
theorem TabB.store {w : World} {g : Nat} {room put : Int} {A : Option Addr} {n c : Nat} {l : List Fld} (h : TabV w room put A n c l) {a b : Int} {X : Option Addr} {x y : Nat} (hB : Blk w g 29 #[.int .i64 a, .int .i64 b, .slice X x y]) :
    TabB (((w.setCell ⟨g, 0, none⟩ (.int .i64 room)).setCell ⟨g, 1, none⟩ (.int .i64 put)).setCell ⟨g, 2, none⟩ (.slice A n c)) g room put A n c l :=
  ⟨hB.set3 _ _ _, h.rows (h.hr.setT3 hB _ _ _ _ _)⟩
theorem TabB.drew {w : World} {g : Nat} {room put : Int} {A : Option Addr} {n c : Nat} {l : List Fld} (h : TabB w g room put A n c l) : TabB w.drew g room put A n c l := ⟨h.blk.drew, h.tab.rows (Rd.drew h.tab.hr)⟩
end Go.Proofs.Ytihngonemdaihaa
