/- A region that draws its order, walked once: the steps. -/
import Derived.Test.YtbcagdjfegobnaaGreatFlow7
import Derived.Test.YtbcagdjfegobnaaGreatBig
namespace Go.Proofs.YtbcagdjfegobnaaGreat
open Go.RowKit
set_option linter.unusedVariables false

section
variable {P : Program} {ops : Array Oper} {core ev : Nat → Bool} {C : World → Prop} {W : Nat → Act → Value → World → Prop} {R : World → World → Prop} {Q : Exit → Act → World → Prop} {Fin : List Fact → Act → Prop} {k : Nat} {ks : List Nat} {F : List Fact} {a : Act}
theorem wp_flowR {id : Nat} {a : Act} {w : World} (core ev : Nat → Bool) (sz : Nat) (ks : List Nat) (C : World → Prop) (W : Nat → Act → Value → World → Prop) (R : World → World → Prop) (hm : P.follows .mixedOrders = true) (hB : flowB ops core sz = true) (hpu : pureB ops core ev = true) (hks : coreL ops core = ks) (hQ : ∀ c a d v w, Q (.panic c) (a.put (some d) v) w → Q (.panic c) a w) (hsz : a.tmps.size = sz)
    (hst : FStay ops C W R) (hC : C w.drew) (hfl : flowL P ops ev C W R (flowFin P ops core C Q) ks [] a) : (Code.region id ops true).wp P Q a w :=
  wp_region_flow hm core ev sz hB hpu hQ hsz C W hst hC (by rw [hks]; exact hfl)
/-- What is asked where every step leaves the blocks that there are. -/
structure FStayB (ops : Array Oper) (C : World → Prop) (W : Nat → Act → Value → World → Prop) : Prop where
  c : ∀ w w', C w → Below w.heap.size w w' → C w'
  w : ∀ k a v w w', W k a v w → Below w.heap.size w w' → W k a v w'
  a : ∀ k a b v w, (∀ t ∈ looks ops k, a.tmps[t]? = b.tmps[t]?) → W k a v w → W k b v w
theorem FStayB.st (h : FStayB ops C W) : FStay ops C W (fun w w' => Below w.heap.size w w') := ⟨fun _ => Below.refl _ _, fun _ _ _ h k => h.trans (k.mono h.size), h.c, h.w, h.a⟩
theorem wp_flow {id : Nat} {a : Act} {w : World} (core ev : Nat → Bool) (sz : Nat) (ks : List Nat) (C : World → Prop) (W : Nat → Act → Value → World → Prop) (hm : P.follows .mixedOrders = true) (hB : flowB ops core sz = true) (hpu : pureB ops core ev = true) (hks : coreL ops core = ks) (hQ : ∀ c a d v w, Q (.panic c) (a.put (some d) v) w → Q (.panic c) a w) (hsz : a.tmps.size = sz)
    (hst : FStayB ops C W) (hC : C w.drew) (hfl : flowL P ops ev C W (fun w w' => Below w.heap.size w w') (flowFin P ops core C Q) ks [] a) : (Code.region id ops true).wp P Q a w :=
  wp_flowR core ev sz ks C W _ hm hB hpu hks hQ hsz hst.st hC hfl
theorem flow_quiet {o : Oper} {v : Value} (ho : ops[k]? = some o) (hw : Region.wanted o (yielded ops a.tmps) = true) (he : ev k = false) (hs : ∀ w, cls ops C F k w → stillR w v ((execOp a.eval o).run P w)) (hp : pu ops k = true → ∀ w, (execOp a.eval o).run P w = .ok (.value v) w) (h : flowL P ops ev C W R Fin ks F (a.put o.dst v)) : flowL P ops ev C W R Fin (k :: ks) F a := by
  intro o' ho'
  obtain rfl := Option.some.inj (ho.symm.trans ho')
  rw [if_pos hw, if_neg (by simp [he])]
  exact ⟨v, hs, hp, h⟩
theorem flow_skip {o : Oper} (ho : ops[k]? = some o) (hw : Region.wanted o (yielded ops a.tmps) = false) (h : flowL P ops ev C W R Fin ks F (a.put o.dst undef)) : flowL P ops ev C W R Fin (k :: ks) F a := by
  intro o' ho'
  obtain rfl := Option.some.inj (ho.symm.trans ho')
  rw [if_neg (by simp [hw])]
  exact h
theorem flow_event {o : Oper} (ho : ops[k]? = some o) (hw : Region.wanted o (yielded ops a.tmps) = true) (he : ev k = true) (hd : ∀ w, cls ops C F k w → doesR P (fun v w' => W k a v w' ∧ C w' ∧ R w w') ((execOp a.eval o).run P w))
    (h : ∀ v, (∃ w, C w ∧ W k a v w) → flowL P ops ev C W R Fin ks ((k, W k a v) :: F) (a.put o.dst v)) : flowL P ops ev C W R Fin (k :: ks) F a := by
  intro o' ho'
  obtain rfl := Option.some.inj (ho.symm.trans ho')
  rw [if_pos hw, if_pos he]
  exact ⟨hd, h⟩
theorem flow_end (h : Fin F a) : flowL P ops ev C W R Fin [] F a := h
/-- A load of a struct whose cells are not looked into. -/
theorem still_loadR {o : Oper} {w : World} (ty : TypeId) (x : Operand) (ho : o.op = .load ty x) (b off : Nat) (hx : a.eval x = .pointer (some ⟨b, off, none⟩)) (p : Array Value) (d : TypeDesc)
    (hu : P.underlying ty = some d) (hd : (match d with | .struct _ | .array _ _ => true | _ => false) = true) (hi : (P.info? ty).map (·.size) = some p.size) (hc : ∀ j v, p[j]? = some v → w.cell? ⟨b, off + j, none⟩ = some v) : stillR w (.agg p) ((execOp a.eval o).run P w) := by
  unfold execOp
  simp only [ho, hx, Instr.loadAt, Instr.sureAddr, Sem.run_bind, Sem.run_pure, Result.andThen_ok, run_loadVar_cells ty b off p d hu hd hi hc]
  exact ⟨rfl, rfl⟩
/-- An operation that yields a value and leaves the world. -/
theorem still_run {o : Oper} {w : World} {v : Value} (h : (execOp a.eval o).run P w = .ok (.value v) w) : stillR w v ((execOp a.eval o).run P w) := by rw [h]; exact ⟨rfl, rfl⟩
/-- A load of one cell. -/
theorem still_load1 {o : Oper} {w : World} (ty : TypeId) (x : Operand) (ho : o.op = .load ty x) (b off : Nat) (hx : a.eval x = .pointer (some ⟨b, off, none⟩)) (v : Value) (d : TypeDesc)
    (hu : P.underlying ty = some d) (hd : (match d with | .struct _ | .array _ _ => true | _ => false) = false) (hc : w.cell? ⟨b, off, none⟩ = some v) : stillR w v ((execOp a.eval o).run P w) := by
  have hagg : (isAgg ty).run P w = .ok false w := by
    unfold isAgg
    rw [Sem.run_bind, run_underlying hu w]
    cases d <;> simp_all
  have hl : (loadVar ty ⟨b, off, none⟩).run P w = .ok v w := by simp [loadVar, Sem.run_bind, hagg, hc]
  unfold execOp
  simp only [ho, hx, Instr.loadAt, Instr.sureAddr, Sem.run_bind, Sem.run_pure, Result.andThen_ok, hl]
  exact ⟨rfl, rfl⟩
/-- A call of a Go function. -/
theorem does_call {o : Oper} {w w2 : World} {f : FuncId} {args : Array Value} {R : Value → World → Prop} (h : (execOp a.eval o).run P w = .ok (.enter f args) w2) (hc : Calls P f args w2 (fun e w'' => ∃ v, e = .returned v ∧ R v w'')) : doesR P R ((execOp a.eval o).run P w) := by rw [h]; exact hc
/-- What yields a value. -/
theorem does_value {o : Oper} {w w2 : World} {v : Value} {R : Value → World → Prop} (h : (execOp a.eval o).run P w = .ok (.value v) w2) (hc : R v w2) : doesR P R ((execOp a.eval o).run P w) := by rw [h]; exact hc
end
end Go.Proofs.YtbcagdjfegobnaaGreat
