/- A map of bytes in memory: words for the walk of SenderEver. -/
import Derived.Test.YtoonohhjcfceeaaEverMap
import Derived.Maps.OwnOps
import Derived.Maps.RangeWalk
namespace Go.Proofs.Ytoonohhjcfceeaa
open Go.ChangeShapes Go.WideShapes Go.ChangeAt Go.RowKit
open Go.Maps (Keyed int_keyed keyOf_int_mk)
set_option linter.unusedVariables false

theorem lawU : Keyed Try.prog 3 := int_keyed Try.underlying3
/-- The map of bytes in block g reads as D. -/
def MapU (w : World) (g cnt : Nat) (D : (DataW Unit)) : Prop := w.ownsMap Try.prog 3 (plainElem Try.prog 5) g cnt D
theorem cell_mapU_none {w : World} {g cnt : Nat} {D : (DataW Unit)} (h : MapU w g cnt D) (o : Nat) : w.cell? ⟨g, o, none⟩ = none := by
  obtain ⟨es, clock, hb, _⟩ := h
  simp [World.cell?, hb]
theorem MapU.lt {w : World} {g cnt : Nat} {D : (DataW Unit)} (h : MapU w g cnt D) : g < w.heap.size := by
  obtain ⟨es, clock, hb, _⟩ := h
  exact (Array.getElem?_eq_some_iff.1 hb).1
theorem MapU.of_block {w w' : World} {g cnt : Nat} {D : (DataW Unit)} (h : MapU w g cnt D) (hb : w'.heap[g]? = w.heap[g]?) : MapU w' g cnt D := by
  obtain ⟨es, clock, h1, r⟩ := h
  exact ⟨es, clock, hb.trans h1, r⟩
theorem MapU.below {w w' : World} {g cnt : Nat} {D : (DataW Unit)} (h : MapU w g cnt D) (hb : Below w.heap.size w w') : MapU w' g cnt D := h.of_block (hb.block g h.lt)
theorem MapU.set {w : World} {g cnt : Nat} {D : (DataW Unit)} (h : MapU w g cnt D) {p : Addr} (hp : g ≠ p.block) (u : Value) : MapU (w.setCell p u) g cnt D := h.of_block (Below.heap_setCell w p u g hp)
theorem MapU.alloc {w : World} {g cnt : Nat} {D : (DataW Unit)} (h : MapU w g cnt D) (o : Obj) : MapU (w.alloc o) g cnt D := h.below ((Below.refl _ _).alloc (Nat.le_refl _) _)
theorem Blk.mapU_ne {w : World} {g q cnt : Nat} {t : TypeId} {cs : Array Value} {D : (DataW Unit)} (h : Blk w q t cs) (hm : MapU w g cnt D) : q ≠ g := fun e => by
  subst e
  obtain ⟨es, clock, hb, _⟩ := hm
  have h' : w.heap[q]? = some (.cells cs t (0, 0)) := h
  rw [h'] at hb
  injection hb with hb
  cases hb
theorem Blk.mapU_grown {w w' : World} {g q cnt : Nat} {t : TypeId} {cs : Array Value} {D : (DataW Unit)} (h : Blk w q t cs) (hm : MapU w g cnt D) (hg : w.grownBy w' (some g)) : Blk w' q t cs := h.grown hg fun e => h.mapU_ne hm (Option.some.inj e)
theorem Rd.mapU_grown {w w' : World} {size n g cnt : Nat} {A : Option Addr} {xs : List Value} {D : (DataW Unit)} (h : Rd w size A n xs) (hm : MapU w g cnt D) (hg : w.grownBy w' (some g)) : Rd w' size A n xs :=
  ⟨h.1, fun hn => by
    obtain ⟨b, off, rfl, hc⟩ := h.2 hn
    refine ⟨b, off, rfl, fun j v hv => ?_⟩
    have h1 := hc j v hv
    have hb : b ≠ g := fun e => by subst e; rw [cell_mapU_none hm] at h1; cases h1
    exact (World.cell?_of_block (hg.block b (World.block_lt_of_cell? w _ h1) (fun e => hb (Option.some.inj e)))).trans h1⟩
theorem SnV.mapU_grown {w w' : World} {A : Option Addr} {n c : Nat} {bs : List UInt8} {fin : Bool} {nx mx : Int} {B : Option Addr} {m d : Nat} {lost : List Rng} {C : Option Addr} {k e : Nat} {acked : List Rng} {ended over : Bool} {g cnt : Nat} {D : DataW Unit} (h : SnV w A n c bs fin nx mx B m d lost C k e acked ended over) (hm : MapU w g cnt D) (hg : w.grownBy w' (some g)) : SnV w' A n c bs fin nx mx B m d lost C k e acked ended over :=
  ⟨h.hn, h.hm, h.hk, h.hnc, h.hcm, h.hmd, h.hdm, h.hke, h.hem, h.ok, Rd.mapU_grown h.ra hm hg, Rd.mapU_grown h.rb hm hg, Rd.mapU_grown h.rc hm hg⟩
theorem MapU.tidy {w : World} {g cnt : Nat} {D : DataW Unit} (h : MapU w g cnt D) : Maps.Tidy D := World.ownsMap.tidy h lawU
theorem MapU.made (w : World) : MapU (w.alloc (.map #[] 0)) w.heap.size 0 (.map []) := World.ownsMap_made w _ _ _
end Go.Proofs.Ytoonohhjcfceeaa
