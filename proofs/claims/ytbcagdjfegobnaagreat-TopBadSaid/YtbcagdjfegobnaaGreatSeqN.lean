/- A region that does not draw its order, walked operation by operation: more steps. -/
import Derived.Test.YtbcagdjfegobnaaGreatSeqL
namespace Go.Proofs.YtbcagdjfegobnaaGreat
open Go.RowKit
set_option linter.unusedVariables false

section
variable {P : Program} {ops : Array Oper} {Q : Exit → Act → World → Prop} {a : Act} {w : World} {o : Oper} {os : List Oper}
theorem lvalG (d : Option Tmp) (v : Value) (w' : World) (hd : o.dst = d) (hw : Region.wanted o (yielded ops a.tmps) = true) (hr : (execOp a.eval o).run P w = .ok (.value v) w') (h : wpList P ops Q os (a.put d v) w') : wpList P ops Q (o :: os) a w := by
  unfold wpList
  rw [if_pos hw]
  refine .inl ?_
  unfold Oper.wp
  rw [hr]
  simp only [Oper.upon]
  rw [hd]; exact h
theorem lskip (d : Option Tmp) (hd : o.dst = d) (hw : Region.wanted o (yielded ops a.tmps) = false) (h : wpList P ops Q os (a.put d undef) w) : wpList P ops Q (o :: os) a w := by
  unfold wpList
  rw [if_neg (by simp [hw]), hd]; exact h
/-- What makes a new block. -/
theorem lnew (d : Option Tmp) (E : TypeId) (cs : Array Value) (vf : Nat → Value) (hd : o.dst = d) (hg : o.guard = none) (hr : (execOp a.eval o).run P w = .ok (.value (vf w.heap.size)) (w.alloc (.cells cs E)))
    (h : ∀ w' g, w.heap.size = g → Blk w' g E cs → Below w.heap.size w w' → wpList P ops Q os (a.put d (vf g)) w') : wpList P ops Q (o :: os) a w :=
  lval d _ _ hd hg hr (h _ _ rfl (Blk.new _ _ _) ((Below.refl _ _).alloc (Nat.le_refl _) _))
/-- .. whose value is written otherwise. -/
theorem lvalE (d : Option Tmp) (v0 v : Value) (w' : World) (e : v0 = v) (hd : o.dst = d) (hw : Region.wanted o (yielded ops a.tmps) = true) (hr : (execOp a.eval o).run P w = .ok (.value v0) w') (h : wpList P ops Q os (a.put d v) w') : wpList P ops Q (o :: os) a w :=
  lvalG d v w' hd hw (by rw [hr, e]) h
theorem lloadG (d : Option Tmp) (v : Value) (ty : TypeId) (x : Operand) (b off : Nat) (desc : TypeDesc) (hd : o.dst = d) (hw : Region.wanted o (yielded ops a.tmps) = true) (ho : o.op = .load ty x) (hx : a.eval x = .pointer (some ⟨b, off, none⟩)) (hu : P.underlying ty = some desc) (hds : (match desc with | .struct _ | .array _ _ => true | _ => false) = false) (hc : w.cell? ⟨b, off, none⟩ = some v) (h : wpList P ops Q os (a.put d v) w) : wpList P ops Q (o :: os) a w := by
  refine lvalG d v w hd hw ?_ h
  have hagg : (isAgg ty).run P w = .ok false w := by
    unfold isAgg
    rw [Sem.run_bind, run_underlying hu w]
    cases desc <;> simp_all
  have hl : (loadVar ty ⟨b, off, none⟩).run P w = .ok v w := by simp [loadVar, Sem.run_bind, hagg, hc]
  unfold execOp
  simp only [ho, hx, Instr.loadAt, Instr.sureAddr, Sem.run_bind, Sem.run_pure, Result.andThen_ok, hl]
end
end Go.Proofs.YtbcagdjfegobnaaGreat
