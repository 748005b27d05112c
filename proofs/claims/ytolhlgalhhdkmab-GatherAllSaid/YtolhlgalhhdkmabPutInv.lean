/- What gather.Put's loop keeps in memory. -/
import Derived.Test.YtolhlgalhhdkmabPutPlain
namespace Go.Proofs.Ytolhlgalhhdkmab
open Go.RowKit
set_option linter.unusedVariables false

/-- The blocks of the call, and the pieces that were laid so far. -/
structure PInv (w : World) (G : Array Value) (off : Int) (DV : Value) (gL : Nat) (at_ : Int) (A1 : Option Addr) (c1 : Nat) (l : List PD) (wr : World) : Prop where
  g : Blk wr w.heap.size 47 G
  o : Blk wr (w.heap.size + 1) 3 #[.int .i64 off]
  d : Blk wr (w.heap.size + 1 + 1) 43 #[DV]
  z : Blk wr (w.heap.size + 1 + 1 + 1) 47 #[.int .i64 0, .slice none 0 0, .int .i64 0, .int .i64 0]
  s : Blk wr gL 45 #[.slice A1 l.length c1]
  t : Blk wr (gL + 1) 3 #[.int .i64 at_]
  own : OwnX pdc 2 wr (gL + 2) 68 A1 c1 l
  sz : gL + 2 ≤ wr.heap.size
  lo : w.heap.size + 1 + 1 + 1 < gL
  b : Below w.heap.size w wr

section
variable {w wr : World} {G : Array Value} {off at_ : Int} {DV : Value} {gL c1 : Nat} {A1 : Option Addr} {l : List PD}
theorem PInv.alloc (h : PInv w G off DV gL at_ A1 c1 l wr) (ob : Obj) : PInv w G off DV gL at_ A1 c1 l (wr.alloc ob) :=
  ⟨h.g.alloc _, h.o.alloc _, h.d.alloc _, h.z.alloc _, h.s.alloc _, h.t.alloc _, h.own.alloc _, by have := h.sz; simp; omega, h.lo, h.b.alloc h.b.size _⟩
theorem PInv.carry {w' : World} (h : PInv w G off DV gL at_ A1 c1 l wr) (hb : Below wr.heap.size wr w') : PInv w G off DV gL at_ A1 c1 l w' :=
  ⟨h.g.carry hb, h.o.carry hb, h.d.carry hb, h.z.carry hb, h.s.carry hb, h.t.carry hb, h.own.carry hb, Nat.le_trans h.sz hb.size, h.lo, h.b.trans (hb.mono h.b.size)⟩
theorem PInv.row (h : PInv w G off DV gL at_ A1 c1 l wr) : ∀ k, A1.map (·.block) = some k → gL + 2 ≤ k ∧ k < wr.heap.size := fun k hk => own_block_lt h.own k (by rw [own_blk]; exact hk)
/-- A store into 'at'. -/
theorem PInv.setAt (h : PInv w G off DV gL at_ A1 c1 l wr) (v : Int) : PInv w G off DV gL v A1 c1 l (wr.setCell ⟨gL + 1, 0, none⟩ (.int .i64 v)) := by
  have hlo := h.lo
  exact ⟨h.g.far (by simp; omega) _, h.o.far (by simp; omega) _, h.d.far (by simp; omega) _, h.z.far (by simp; omega) _, h.s.far (by simp) _, h.t.set_ 0 _, h.own.set_below (by simp) _, by have := h.sz; simpa using this, h.lo, h.b.setCell (by simp; omega) _⟩
/-- The slice grows: nothing else changes. -/
theorem PInv.more {w' : World} {A' : Option Addr} {c' k : Nat} {l' : List PD} (h : PInv w G off DV gL at_ A1 c1 l wr) (hs : Spares wr w' gL (A1.map (·.block))) (hB : Blk w' gL 45 #[.slice A' k c']) (hk : l'.length = k)
    (hO : OwnX pdc 2 w' (gL + 2) 68 A' c' l') (hz : wr.heap.size ≤ w'.heap.size) (hb : Below 0 wr w') : PInv w G off DV gL at_ A' c' l' w' := by
  subst hk
  have hlo := h.lo
  have hsz := h.sz
  have keep : ∀ b, b < gL + 2 → b ≠ gL → w'.heap[b]? = wr.heap[b]? := fun b hb1 hb2 => hs b (by omega) hb2 (fun e => by have := (h.row b e.symm).1; omega)
  exact ⟨(keep _ (by omega) (by omega)).trans h.g, (keep _ (by omega) (by omega)).trans h.o, (keep _ (by omega) (by omega)).trans h.d, (keep _ (by omega) (by omega)).trans h.z, hB, (keep _ (by omega) (by omega)).trans h.t, hO, by omega, hlo,
    ⟨hb.os.trans h.b.os, hb.tape.trans h.b.tape, hb.output.trans h.b.output, Nat.le_trans h.b.size hz, fun b hb1 => (keep b (by omega) (by omega)).trans (h.b.block b hb1)⟩⟩
/-- One piece that is held is laid behind the others. -/
theorem PInv.append {w5 : World} {g c' k : Nat} {p : PD} {ob : Obj} (h : PInv w G off DV gL at_ A1 c1 l wr) (hO : OwnX pdc 2 w5 (gL + 2) 68 (some ⟨g, 0, none⟩) c' (l ++ [p])) (hk : l.length + 1 = k) (hb : Below (gL + 2) (wr.alloc ob) w5) (hgr : (wr.alloc ob).grownBy w5 (A1.map (·.block))) :
    PInv w G off DV gL at_ (some ⟨g, 0, none⟩) c' (l ++ [p]) (w5.setCell ⟨gL, 0, none⟩ (.slice (some ⟨g, 0, none⟩) k c')) := by
  have hlo := h.lo
  have hsz := h.sz
  have hsp : ∀ b', b' < wr.heap.size → some b' ≠ A1.map (·.block) → w5.heap[b']? = wr.heap[b']? := fun b' hb' hne' => (hgr.block b' (by simp; omega) hne').trans (Below.heap_alloc wr _ b' hb')
  have hz5 := hb.size
  simp at hz5
  refine h.more (fun b' hb' hne' hrow' => (Below.heap_setCell w5 ⟨gL, 0, none⟩ _ b' hne').trans (hsp b' hb' hrow')) (Blk.set_ (cs := #[.slice A1 l.length c1]) ?_ 0 _) (by rw [List.length_append]; exact hk) (hO.set_below (by simp) _) (by simp; omega) ?_
  · exact (hsp gL (by omega) (fun e => by have := (h.row gL e.symm).1; omega)).trans h.s
  · refine Below.setCell (Below.trans ?_ (hb.mono (Nat.zero_le _))) (Nat.zero_le _) _
    exact ((Below.refl wr.heap.size wr).alloc (Nat.le_refl _) _).mono (Nat.zero_le _)
end
end Go.Proofs.Ytolhlgalhhdkmab
