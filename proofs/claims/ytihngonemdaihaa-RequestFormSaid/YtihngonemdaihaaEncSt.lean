/- The state of Encode's first loop in memory. -/
import Derived.Test.YtihngonemdaihaaEncP
import Derived.Test.YtihngonemdaihaaFPen2
import Derived.Test.YtihngonemdaihaaFLine
import Derived.Test.YtihngonemdaihaaInts
namespace Go.Proofs.Ytihngonemdaihaa
open Go.ChangeShapes Go.WideShapes Go.ChangeAt Go.RowKit
set_option linter.unusedVariables false

theorem PenF.setF {w : World} {base g : Nat} {us : List UInt8} (h : PenF w base g us) {q : Nat} {t : TypeId} {cs : Array Value} (hq : Blk w q t cs) (hne : g ≠ q) (ht : t ≠ 5) (i : Nat) (u : Value) : PenF (w.setCell ⟨q, i, none⟩ u) base g us := by
  obtain ⟨A, n, c, h1, h2, h3⟩ := h
  exact ⟨A, n, c, h1, h2.far (p := ⟨q, i, none⟩) hne u, h3.set_far hq ht i u⟩
theorem i64s_set (zs : List Int) (i : Nat) (z : Int) : (i64s zs).toArray.setIfInBounds i (.int .i64 z) = (i64s (zs.set i z)).toArray := by simp [i64s, List.map_set]
theorem i64s_at (zs : List Int) (j : Nat) (h : j < zs.length) : (i64s zs).toArray[j]? = some (.int .i64 (zs.getD j 0)) := by simpa using i64s_get zs j h
theorem zeros_i64 (n : Nat) : madeCells #[.int .i64 0] n = (i64s (List.replicate n 0)).toArray := by
  apply Array.ext
  · simp [size_madeCells, i64s]
  · intro i h1 h2
    simp [madeCells, i64s, Nat.mod_one]
theorem KeepO.set3 {w : World} {q : Nat} {t : TypeId} {x y z : Value} (hq : Blk w q t #[x, y, z]) (ht : t ≠ 47) (u v s : Value) : KeepO w (((w.setCell ⟨q, 0, none⟩ u).setCell ⟨q, 1, none⟩ v).setCell ⟨q, 2, none⟩ s) :=
  ((KeepO.set hq ht 0 u).trans (KeepO.set (hq.set_ 0 u) ht 1 v)).trans (KeepO.set ((hq.set_ 0 u).set_ 1 v) ht 2 s)
/-- The state of Encode's first loop. -/
structure EncT (W wr : World) (gP gI : Nat) (r : Nat) (put : Int) (rows : List Fld) (A : Option Addr) (n c : Nat) (zs : List Int) (tell : List UInt8) : Prop where
  hT : Blk wr W.heap.size 29 #[.int .i64 (r : Int), .int .i64 put, .slice A n c]
  hZ : Blk wr (W.heap.size + 1) 29 #[.int .i64 0, .int .i64 0, .slice none 0 0]
  hR : OwnX fcells 2 wr W.heap.size 47 A c rows
  hI : Blk wr gI 3 (i64s zs).toArray
  hP : PenF wr gP gP tell
  hB : Below W.heap.size W wr
  hn : rows.length = n
  g1 : W.heap.size + 1 < gP
  g2 : gP < gI
section
variable {W w w' : World} {gP gI : Nat} {r : Nat} {put : Int} {rows : List Fld} {A : Option Addr} {n c : Nat} {zs : List Int} {tell : List UInt8}
theorem EncT.carry (h : EncT W w gP gI r put rows A n c zs tell) (hb : Below w.heap.size w w') : EncT W w' gP gI r put rows A n c zs tell :=
  ⟨h.hT.carry hb, h.hZ.carry hb, h.hR.carry hb, h.hI.carry hb, h.hP.carry hb, h.hB.trans (hb.mono h.hB.size), h.hn, h.g1, h.g2⟩
theorem EncT.alloc (h : EncT W w gP gI r put rows A n c zs tell) (o : Obj) : EncT W (w.alloc o) gP gI r put rows A n c zs tell := h.carry ((Below.refl _ _).alloc (Nat.le_refl _) _)
theorem EncT.setI (h : EncT W w gP gI r put rows A n c zs tell) (i : Nat) (z : Int) : EncT W (w.setCell ⟨gI, i, none⟩ (.int .i64 z)) gP gI r put rows A n c (zs.set i z) tell :=
  ⟨h.hT.far (p := ⟨gI, i, none⟩) (by show W.heap.size ≠ gI; have := h.g1; have := h.g2; omega) _,
   h.hZ.far (p := ⟨gI, i, none⟩) (by show W.heap.size + 1 ≠ gI; have := h.g1; have := h.g2; omega) _,
   KeepO.set h.hI (by decide) i _ _ _ _ _ h.hR, (h.hI.set_ i _).as (i64s_set zs i z),
   h.hP.setF h.hI (by have := h.g2; omega) (by decide) i _, h.hB.setCell (p := ⟨gI, i, none⟩) (by show W.heap.size ≤ gI; have := h.g1; have := h.g2; omega) _, h.hn, h.g1, h.g2⟩
theorem EncT.setT (h : EncT W w gP gI r put rows A n c zs tell) {rows' : List Fld} {A' : Option Addr} {n' c' : Nat} {b : Nat} (hR : OwnX fcells 2 w b 47 A' c' rows') (hb : W.heap.size ≤ b) (hn' : rows'.length = n') (put' : Int) :
    EncT W (((w.setCell ⟨W.heap.size, 0, none⟩ (.int .i64 (r : Int))).setCell ⟨W.heap.size, 1, none⟩ (.int .i64 put')).setCell ⟨W.heap.size, 2, none⟩ (.slice A' n' c')) gP gI r put' rows' A' n' c' zs tell := by
  have g1 := h.g1
  have g2 := h.g2
  have t1 := h.hT.set_ 0 (.int .i64 (r : Int))
  have t2 := t1.set_ 1 (.int .i64 put')
  refine ⟨(t2.set_ 2 (.slice A' n' c')).as (by rfl), ?_, ?_, ?_, ?_, ?_, hn', g1, g2⟩
  · exact ((h.hZ.far (p := ⟨W.heap.size, 0, none⟩) (by show W.heap.size + 1 ≠ W.heap.size; omega) _).far (p := ⟨W.heap.size, 1, none⟩) (by show W.heap.size + 1 ≠ W.heap.size; omega) _).far (p := ⟨W.heap.size, 2, none⟩) (by show W.heap.size + 1 ≠ W.heap.size; omega) _
  · exact KeepO.set t2 (by decide) 2 _ _ _ _ _ (KeepO.set t1 (by decide) 1 _ _ _ _ _ (KeepO.set h.hT (by decide) 0 _ _ _ _ _ (hR.mono hb)))
  · exact ((h.hI.far (p := ⟨W.heap.size, 0, none⟩) (by show gI ≠ W.heap.size; omega) _).far (p := ⟨W.heap.size, 1, none⟩) (by show gI ≠ W.heap.size; omega) _).far (p := ⟨W.heap.size, 2, none⟩) (by show gI ≠ W.heap.size; omega) _
  · exact ((h.hP.setF h.hT (by omega) (by decide) 0 _).setF t1 (by omega) (by decide) 1 _).setF t2 (by omega) (by decide) 2 _
  · exact ((h.hB.setCell (p := ⟨W.heap.size, 0, none⟩) (Nat.le_refl _) _).setCell (p := ⟨W.heap.size, 1, none⟩) (Nat.le_refl _) _).setCell (p := ⟨W.heap.size, 2, none⟩) (Nat.le_refl _) _
theorem EncT.pen {tell' : List UInt8} (h : EncT W w gP gI r put rows A n c zs tell) (hP : PenF w' gP gP tell') (hk : Keep gP w w') (hb : Below gP w w') (ho : KeepO w w') : EncT W w' gP gI r put rows A n c zs tell' :=
  ⟨h.hT.below hb (by have := h.g1; omega), h.hZ.below hb (by have := h.g1; omega), ho _ _ _ _ h.hR, hk _ _ _ (by have := h.g2; omega) (by decide) h.hI, hP, h.hB.trans (hb.mono (by have := h.g1; omega)), h.hn, h.g1, h.g2⟩
end
/-- Bytes in memory. -/
structure BV (w : World) (A : Option Addr) (n c : Nat) (bs : List UInt8) : Prop where
  hn : bs.length = n
  hnc : n ≤ c
  hcm : c ≤ 9223372036854775807
  rd : RdB w A bs
theorem BV.below {w w' : World} {A : Option Addr} {n c : Nat} {bs : List UInt8} (h : BV w A n c bs) (hb : Below w.heap.size w w') : BV w' A n c bs := ⟨h.hn, h.hnc, h.hcm, RdB.below h.rd hb⟩
/-- What Encode answers. -/
def FEncOut (w : World) (r : Nat) (put : Int) (R0 : List Fld) (ah : Bool) (fs : List Fld) (e' : Ending) (w' : World) : Prop :=
  ∃ (A : Option Addr) (n c : Nat) (A1 : Option Addr) (n1 c1 : Nat) (A2 : Option Addr) (n2 c2 : Nat) (told : List Fld) (need : Nat) (ps : List (Fld × Int)),
    e' = .returned (.tuple #[.agg #[.int .i64 (r : Int), .int .i64 (put + told.length), .slice A n c], .slice A1 n1 c1, .slice A2 n2 c2, .int .i64 0]) ∧ EncQ r put R0 ah fs told need ps ∧ TabV w' (r : Int) (put + told.length) A n c (R0 ++ told) ∧ BV w' A1 n1 c1 (tellB told) ∧ BV w' A2 n2 c2 (secB need ps) ∧ Below w.heap.size w w'
end Go.Proofs.Ytihngonemdaihaa
