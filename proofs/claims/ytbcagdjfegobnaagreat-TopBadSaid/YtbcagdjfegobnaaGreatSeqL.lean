/- A region that does not draw its order, walked operation by operation; each side fact is the kernel's. -/
import Derived.Test.YtbcagdjfegobnaaGreatFlowX
namespace Go.Proofs.YtbcagdjfegobnaaGreat
open Go.RowKit
set_option linter.unusedVariables false

section
variable {P : Program} {ops : Array Oper} {Q : Exit → Act → World → Prop} {a : Act} {w : World} {o : Oper} {os : List Oper}
theorem lval (d : Option Tmp) (v : Value) (w' : World) (hd : o.dst = d) (hg : o.guard = none) (hr : (execOp a.eval o).run P w = .ok (.value v) w') (h : wpList P ops Q os (a.put d v) w') : wpList P ops Q (o :: os) a w := by
  unfold wpList
  rw [if_pos (by simp [Region.wanted, hg])]
  refine .inl ?_
  unfold Oper.wp
  rw [hr]
  simp only [Oper.upon]
  rw [hd]; exact h
theorem lnone (hg : o.guard = none) (hd : o.dst = none) (w' : World) (hr : (execOp a.eval o).run P w = .ok .skip w') (h : wpList P ops Q os (a.put none undef) w') : wpList P ops Q (o :: os) a w := by
  unfold wpList
  rw [if_pos (by simp [Region.wanted, hg])]
  refine .inl ?_
  unfold Oper.wp
  rw [hr]
  simp only [Oper.upon]
  rw [hd]; exact h
theorem lload (d : Option Tmp) (v : Value) (ty : TypeId) (x : Operand) (b off : Nat) (desc : TypeDesc) (hd : o.dst = d) (hg : o.guard = none) (ho : o.op = .load ty x) (hx : a.eval x = .pointer (some ⟨b, off, none⟩)) (hu : P.underlying ty = some desc) (hds : (match desc with | .struct _ | .array _ _ => true | _ => false) = false) (hc : w.cell? ⟨b, off, none⟩ = some v) (h : wpList P ops Q os (a.put d v) w) : wpList P ops Q (o :: os) a w := by
  refine lval d v w hd hg ?_ h
  have hagg : (isAgg ty).run P w = .ok false w := by
    unfold isAgg
    rw [Sem.run_bind, run_underlying hu w]
    cases desc <;> simp_all
  have hl : (loadVar ty ⟨b, off, none⟩).run P w = .ok v w := by simp [loadVar, Sem.run_bind, hagg, hc]
  unfold execOp
  simp only [ho, hx, Instr.loadAt, Instr.sureAddr, Sem.run_bind, Sem.run_pure, Result.andThen_ok, hl]
theorem lidx (d : Option Tmp) (t : TypeId) (x y : Operand) (b off n c : Nat) (K : IntKind) (i : Int) (sz : Nat) (to_ : Nat) (hd : o.dst = d) (hg : o.guard = none)
    (ho : o.op = .indexAddr t x y) (hx : a.eval x = .slice (some ⟨b, off, none⟩) n c) (hy : a.eval y = .int K i) (ht : P.underlying t = some (.slice (P.elem t))) (hz : (sizeOf (P.elem t)).run P w = .ok sz w) (h0 : 0 ≤ i) (h1 : i < n) (hto : off + i.toNat * sz = to_)
    (h : wpList P ops Q os (a.put d (.pointer (some ⟨b, to_, none⟩))) w) : wpList P ops Q (o :: os) a w :=
  lval d _ w hd hg (by
    subst hto
    unfold execOp
    simp only [ho, hx, hy, Sem.run_bind, run_indexAt_slice (h := ht), h0, h1, and_self, if_true, hz, Result.andThen_ok, Sem.run_pure, add_none]) h
theorem run_set1 (ty : TypeId) (b off : Nat) (v u : Value) (desc : TypeDesc) (hu : P.underlying ty = some desc) (hds : (match desc with | .struct _ | .array _ _ => true | _ => false) = false) (hc : w.cell? ⟨b, off, none⟩ = some u) (hf : w.frozen? ⟨b, off, none⟩ = false) (hv : v.cells = #[v]) (hi : (P.info? ty).map (·.size) = some 1) (h1 : v.oneCell' = true) :
    (storeVar ty ⟨b, off, none⟩ v).run P w = .ok () (w.setCell ⟨b, off, none⟩ v) := by
  cases hq : P.info? ty with
  | none => simp [hq] at hi
  | some i =>
    have hs' : i.size = 1 := by simp [hq] at hi; omega
    have hst : (store ⟨b, off, none⟩ v).run P w = .ok () (w.setCell ⟨b, off, none⟩ v) := by
      rw [run_store P w _ v _ h1]
      simp [hc, hf]
    have h0 : (⟨b, off, none⟩ : Addr).add 0 = ⟨b, off, none⟩ := rfl
    simp [storeVar, sizeOf, typeInfo, hq, hv, hs', storeCells, h0, hst]
theorem lcall (d : Option Tmp) (f : FuncId) (args : Array Value) (hd : o.dst = d) (hg : o.guard = none) (hr : (execOp a.eval o).run P w = .ok (.enter f args) w) (hc : Calls P f args w (fun e w'' => ∃ v, e = .returned v ∧ wpList P ops Q os (a.put d v) w'')) : wpList P ops Q (o :: os) a w := by
  unfold wpList
  rw [if_pos (by simp [Region.wanted, hg])]
  refine .inl ?_
  unfold Oper.wp
  rw [hr]
  simp only [Oper.upon]
  exact hc.mono fun e w'' ⟨v, he, hv⟩ => by subst he; rw [hd]; exact hv
theorem lset (ty : TypeId) (x y : Operand) (b off : Nat) (v u : Value) (desc : TypeDesc) (hg : o.guard = none) (hd : o.dst = none) (ho : o.op = .store ty x y) (hx : a.eval x = .pointer (some ⟨b, off, none⟩)) (hy : a.eval y = v) (hu : P.underlying ty = some desc) (hds : (match desc with | .struct _ | .array _ _ => true | _ => false) = false) (hc : w.cell? ⟨b, off, none⟩ = some u) (hf : w.frozen? ⟨b, off, none⟩ = false) (hv : v.cells = #[v]) (hi : (P.info? ty).map (·.size) = some 1) (h1 : v.oneCell' = true)
    (h : wpList P ops Q os (a.put none undef) (w.setCell ⟨b, off, none⟩ v)) : wpList P ops Q (o :: os) a w := by
  refine lnone hg hd _ ?_ h
  unfold execOp
  simp only [ho, hx, hy, Instr.storeAt, Instr.sureAddr, Sem.run_bind, Sem.run_pure, Result.andThen_ok, run_set1 (P := P) ty b off v u desc hu hds hc hf hv hi h1]
end
end Go.Proofs.YtbcagdjfegobnaaGreat
