/- Texts of the proof, laid together: Flow FlowK Nest. -/
import Derived.Test.YtbcagdjfegobnaaGreatC15
import Derived.Test.YtbcagdjfegobnaaGreatC09
import Derived.StillTail
import Derived.Test.YtbcagdjfegobnaaGreatC01
/- A region that draws its order, walked once: the steps. -/
namespace Go.Proofs.YtbcagdjfegobnaaGreat
open Go.RowKit
set_option linter.unusedVariables false

section
variable {P : Program} {ops : Array Oper} {core ev : Nat → Bool} {C : World → Prop} {W : Nat → Act → Value → World → Prop} {R : World → World → Prop} {Q : Exit → Act → World → Prop} {Fin : List Fact → Act → Prop} {k : Nat} {ks : List Nat} {F : List Fact} {a : Act}
theorem wp_flowR {id : Nat} {a : Act} {w : World} (core ev : Nat → Bool) (sz : Nat) (ks : List Nat) (C : World → Prop) (W : Nat → Act → Value → World → Prop) (R : World → World → Prop) (hm : P.follows .mixedOrders = true) (hB : flowB ops core sz = true) (hpu : pureB ops core ev = true) (hks : coreL ops core = ks) (hQ : ∀ c a d v w, Q (.panic c) (a.put (some d) v) w → Q (.panic c) a w) (hsz : a.tmps.size = sz)
    (hst : FStay ops C W R) (hC : C w.drew) (hfl : flowL P ops ev C W R (flowFin P ops core C Q) ks [] a) : (Code.region id ops true).wp P Q a w :=
  wp_region_flow hm core ev sz hB hpu hQ hsz C W hst hC (by rw [hks]; exact hfl)
/-- What is asked where every step leaves the blocks that there are. -/
structure FStayB (ops : Array Oper) (C : World → Prop) (W : Nat → Act → Value → World → Prop) : Prop where
  c : ∀ w w', C w → Below w.heap.size w w' → C w'
  w : ∀ k a v w w', W k a v w → Below w.heap.size w w' → W k a v w'
  a : ∀ k a b v w, (∀ t ∈ looks ops k, a.tmps[t]? = b.tmps[t]?) → W k a v w → W k b v w
theorem FStayB.st (h : FStayB ops C W) : FStay ops C W (fun w w' => Below w.heap.size w w') := ⟨fun _ => Below.refl _ _, fun _ _ _ h k => h.trans (k.mono h.size), h.c, h.w, h.a⟩
theorem wp_flow {id : Nat} {a : Act} {w : World} (core ev : Nat → Bool) (sz : Nat) (ks : List Nat) (C : World → Prop) (W : Nat → Act → Value → World → Prop) (hm : P.follows .mixedOrders = true) (hB : flowB ops core sz = true) (hpu : pureB ops core ev = true) (hks : coreL ops core = ks) (hQ : ∀ c a d v w, Q (.panic c) (a.put (some d) v) w → Q (.panic c) a w) (hsz : a.tmps.size = sz)
    (hst : FStayB ops C W) (hC : C w.drew) (hfl : flowL P ops ev C W (fun w w' => Below w.heap.size w w') (flowFin P ops core C Q) ks [] a) : (Code.region id ops true).wp P Q a w :=
  wp_flowR core ev sz ks C W _ hm hB hpu hks hQ hsz hst.st hC hfl
theorem flow_quiet {o : Oper} {v : Value} (ho : ops[k]? = some o) (hw : Region.wanted o (yielded ops a.tmps) = true) (he : ev k = false) (hs : ∀ w, cls ops C F k w → stillR w v ((execOp a.eval o).run P w)) (hp : pu ops k = true → ∀ w, (execOp a.eval o).run P w = .ok (.value v) w) (h : flowL P ops ev C W R Fin ks F (a.put o.dst v)) : flowL P ops ev C W R Fin (k :: ks) F a := by
  intro o' ho'
  obtain rfl := Option.some.inj (ho.symm.trans ho')
  rw [if_pos hw, if_neg (by simp [he])]
  exact ⟨v, hs, hp, h⟩
theorem flow_skip {o : Oper} (ho : ops[k]? = some o) (hw : Region.wanted o (yielded ops a.tmps) = false) (h : flowL P ops ev C W R Fin ks F (a.put o.dst undef)) : flowL P ops ev C W R Fin (k :: ks) F a := by
  intro o' ho'
  obtain rfl := Option.some.inj (ho.symm.trans ho')
  rw [if_neg (by simp [hw])]
  exact h
theorem flow_event {o : Oper} (ho : ops[k]? = some o) (hw : Region.wanted o (yielded ops a.tmps) = true) (he : ev k = true) (hd : ∀ w, cls ops C F k w → doesR P (fun v w' => W k a v w' ∧ C w' ∧ R w w') ((execOp a.eval o).run P w))
    (h : ∀ v, (∃ w, C w ∧ W k a v w) → flowL P ops ev C W R Fin ks ((k, W k a v) :: F) (a.put o.dst v)) : flowL P ops ev C W R Fin (k :: ks) F a := by
  intro o' ho'
  obtain rfl := Option.some.inj (ho.symm.trans ho')
  rw [if_pos hw, if_pos he]
  exact ⟨hd, h⟩
theorem flow_end (h : Fin F a) : flowL P ops ev C W R Fin [] F a := h
/-- A load of a struct whose cells are not looked into. -/
theorem still_loadR {o : Oper} {w : World} (ty : TypeId) (x : Operand) (ho : o.op = .load ty x) (b off : Nat) (hx : a.eval x = .pointer (some ⟨b, off, none⟩)) (p : Array Value) (d : TypeDesc)
    (hu : P.underlying ty = some d) (hd : (match d with | .struct _ | .array _ _ => true | _ => false) = true) (hi : (P.info? ty).map (·.size) = some p.size) (hc : ∀ j v, p[j]? = some v → w.cell? ⟨b, off + j, none⟩ = some v) : stillR w (.agg p) ((execOp a.eval o).run P w) := by
  unfold execOp
  simp only [ho, hx, Instr.loadAt, Instr.sureAddr, Sem.run_bind, Sem.run_pure, Result.andThen_ok, run_loadVar_cells ty b off p d hu hd hi hc]
  exact ⟨rfl, rfl⟩
/-- An operation that yields a value and leaves the world. -/
theorem still_run {o : Oper} {w : World} {v : Value} (h : (execOp a.eval o).run P w = .ok (.value v) w) : stillR w v ((execOp a.eval o).run P w) := by rw [h]; exact ⟨rfl, rfl⟩
/-- A load of one cell. -/
theorem still_load1 {o : Oper} {w : World} (ty : TypeId) (x : Operand) (ho : o.op = .load ty x) (b off : Nat) (hx : a.eval x = .pointer (some ⟨b, off, none⟩)) (v : Value) (d : TypeDesc)
    (hu : P.underlying ty = some d) (hd : (match d with | .struct _ | .array _ _ => true | _ => false) = false) (hc : w.cell? ⟨b, off, none⟩ = some v) : stillR w v ((execOp a.eval o).run P w) := by
  have hagg : (isAgg ty).run P w = .ok false w := by
    unfold isAgg
    rw [Sem.run_bind, run_underlying hu w]
    cases d <;> simp_all
  have hl : (loadVar ty ⟨b, off, none⟩).run P w = .ok v w := by simp [loadVar, Sem.run_bind, hagg, hc]
  unfold execOp
  simp only [ho, hx, Instr.loadAt, Instr.sureAddr, Sem.run_bind, Sem.run_pure, Result.andThen_ok, hl]
  exact ⟨rfl, rfl⟩
/-- A call of a Go function. -/
theorem does_call {o : Oper} {w w2 : World} {f : FuncId} {args : Array Value} {R : Value → World → Prop} (h : (execOp a.eval o).run P w = .ok (.enter f args) w2) (hc : Calls P f args w2 (fun e w'' => ∃ v, e = .returned v ∧ R v w'')) : doesR P R ((execOp a.eval o).run P w) := by rw [h]; exact hc
/-- What yields a value. -/
theorem does_value {o : Oper} {w w2 : World} {v : Value} {R : Value → World → Prop} (h : (execOp a.eval o).run P w = .ok (.value v) w2) (hc : R v w2) : doesR P R ((execOp a.eval o).run P w) := by rw [h]; exact hc
end
end Go.Proofs.YtbcagdjfegobnaaGreat
/- A region that draws its order, walked once: the steps, by the operation's number. -/
namespace Go.Proofs.YtbcagdjfegobnaaGreat
open Go.RowKit
set_option linter.unusedVariables false

theorem cell_on {B : Nat} {w w' : World} (h : Below B w w') {b off : Nat} (hb : b < B) {v : Value} (hc : w.cell? ⟨b, off, none⟩ = some v) : w'.cell? ⟨b, off, none⟩ = some v := by
  rw [h.cell (show (⟨b, off, none⟩ : Addr).block < B from hb)]; exact hc
def opK (ops : Array Oper) (k : Nat) : Oper := (ops[k]?).getD default
theorem opK_some {ops : Array Oper} {k : Nat} (hk : decide (k < ops.size) = true) : ops[k]? = some (opK ops k) := by
  have h : k < ops.size := of_decide_eq_true hk
  simp [opK, h]
section
variable {P : Program} {ops : Array Oper} {core ev : Nat → Bool} {C : World → Prop} {W : Nat → Act → Value → World → Prop} {R : World → World → Prop} {Q : Exit → Act → World → Prop} {Fin : List Fact → Act → Prop} {k : Nat} {ks : List Nat} {F : List Fact} {a : Act}
/-- A step whose operation yields v in whatever world. -/
theorem fq (d : Tmp) (v : Value) (hk : decide (k < ops.size) = true) (hd : (opK ops k).dst = some d) (hw : Region.wanted (opK ops k) (yielded ops a.tmps) = true) (he : ev k = false) (hs : ∀ w, (execOp a.eval (opK ops k)).run P w = .ok (.value v) w) (h : flowL P ops ev C W R Fin ks F (a.put (some d) v)) : flowL P ops ev C W R Fin (k :: ks) F a :=
  flow_quiet (opK_some hk) hw he (fun w _ => still_run (hs w)) (fun _ => hs) (by rw [hd]; exact h)
/-- A load of one cell. -/
theorem fq1 (d : Tmp) (v : Value) (ty : TypeId) (x : Operand) (b off : Nat) (desc : TypeDesc) (hk : decide (k < ops.size) = true) (hd : (opK ops k).dst = some d) (hw : Region.wanted (opK ops k) (yielded ops a.tmps) = true) (he : ev k = false)
    (ho : (opK ops k).op = .load ty x) (hx : a.eval x = .pointer (some ⟨b, off, none⟩)) (hu : P.underlying ty = some desc) (hds : (match desc with | .struct _ | .array _ _ => true | _ => false) = false) (hc : ∀ w, cls ops C F k w → w.cell? ⟨b, off, none⟩ = some v)
    (h : flowL P ops ev C W R Fin ks F (a.put (some d) v)) : flowL P ops ev C W R Fin (k :: ks) F a :=
  flow_quiet (opK_some hk) hw he (fun w hw => still_load1 ty x ho b off hx v desc hu hds (hc w hw)) (fun hp => absurd hp (by simp [pu, opK_some hk, pureOp, ho])) (by rw [hd]; exact h)
/-- A load of a struct whose cells are not looked into. -/
theorem fqR (d : Tmp) (p : Array Value) (ty : TypeId) (x : Operand) (b off : Nat) (desc : TypeDesc) (hk : decide (k < ops.size) = true) (hd : (opK ops k).dst = some d) (hw : Region.wanted (opK ops k) (yielded ops a.tmps) = true) (he : ev k = false)
    (ho : (opK ops k).op = .load ty x) (hx : a.eval x = .pointer (some ⟨b, off, none⟩)) (hu : P.underlying ty = some desc) (hds : (match desc with | .struct _ | .array _ _ => true | _ => false) = true) (hi : (P.info? ty).map (·.size) = some p.size) (hc : ∀ w, cls ops C F k w → ∀ j v, p[j]? = some v → w.cell? ⟨b, off + j, none⟩ = some v)
    (h : flowL P ops ev C W R Fin ks F (a.put (some d) (.agg p))) : flowL P ops ev C W R Fin (k :: ks) F a :=
  flow_quiet (opK_some hk) hw he (fun w hw => still_loadR ty x ho b off hx p desc hu hds hi (hc w hw)) (fun hp => absurd hp (by simp [pu, opK_some hk, pureOp, ho])) (by rw [hd]; exact h)
/-- A call of a Go function. -/
theorem fcall (d : Tmp) (f : FuncId) (args : Array Value) (hk : decide (k < ops.size) = true) (hd : (opK ops k).dst = some d) (hw : Region.wanted (opK ops k) (yielded ops a.tmps) = true) (he : ev k = true) (hr : ∀ w, (execOp a.eval (opK ops k)).run P w = .ok (.enter f args) w)
    (hc : ∀ w, cls ops C F k w → Calls P f args w (fun e w'' => ∃ v, e = .returned v ∧ (W k a v w'' ∧ C w'' ∧ R w w'')))
    (h : ∀ v, (∃ w, C w ∧ W k a v w) → flowL P ops ev C W R Fin ks ((k, W k a v) :: F) (a.put (some d) v)) : flowL P ops ev C W R Fin (k :: ks) F a :=
  flow_event (opK_some hk) hw he (fun w hcl => does_call (hr w) (hc w hcl)) (fun v hv => by rw [hd]; exact h v hv)
/-- A call whose value is not kept. -/
theorem fcall0 (f : FuncId) (args : Array Value) (hk : decide (k < ops.size) = true) (hd : (opK ops k).dst = none) (hw : Region.wanted (opK ops k) (yielded ops a.tmps) = true) (he : ev k = true) (hr : ∀ w, (execOp a.eval (opK ops k)).run P w = .ok (.enter f args) w)
    (hc : ∀ w, cls ops C F k w → Calls P f args w (fun e w'' => ∃ v, e = .returned v ∧ (W k a v w'' ∧ C w'' ∧ R w w'')))
    (h : ∀ v, (∃ w, C w ∧ W k a v w) → flowL P ops ev C W R Fin ks ((k, W k a v) :: F) (a.put none v)) : flowL P ops ev C W R Fin (k :: ks) F a :=
  flow_event (opK_some hk) hw he (fun w hcl => does_call (hr w) (hc w hcl)) (fun v hv => by rw [hd]; exact h v hv)
/-- What yields a value and a new world: an alloc and its like. -/
theorem fnew (d : Tmp) (vf : World → Value) (wf : World → World) (hk : decide (k < ops.size) = true) (hd : (opK ops k).dst = some d) (hw : Region.wanted (opK ops k) (yielded ops a.tmps) = true) (he : ev k = true) (hr : ∀ w, (execOp a.eval (opK ops k)).run P w = .ok (.value (vf w)) (wf w))
    (hc : ∀ w, cls ops C F k w → W k a (vf w) (wf w) ∧ C (wf w) ∧ R w (wf w))
    (h : ∀ v, (∃ w, C w ∧ W k a v w) → flowL P ops ev C W R Fin ks ((k, W k a v) :: F) (a.put (some d) v)) : flowL P ops ev C W R Fin (k :: ks) F a :=
  flow_event (opK_some hk) hw he (fun w hcl => does_value (hr w) (hc w hcl)) (fun v hv => by rw [hd]; exact h v hv)
/-- Behind the core: the others, one behind the other. -/
def seqL (ops : Array Oper) : List Nat → Array Bool → Bool
  | [], l => (Region.ready .any ops l).isEmpty
  | t :: ts, l => decide (Region.ready .any ops l = [t]) && (decide (t < ops.size) && seqL ops ts (l.setIfInBounds t true))
theorem wpAny_of_seqL : ∀ (ts : List Nat) (l : Array Bool) (a : Act) (w : World), seqL ops ts l = true → wpList P ops Q (ts.map (opK ops)) a w → wpAny P .any ops Q ts.length l a w
  | [], _, _, _, hB, h => ⟨by simpa [seqL] using hB, h⟩
  | t :: ts, l, a, w, hB, h => by
    simp only [seqL, Bool.and_eq_true, decide_eq_true_eq] at hB
    obtain ⟨h1, h2, h3⟩ := hB
    refine ⟨fun h0 => (by rw [h1] at h0; cases h0), fun i hi => ?_⟩
    rw [h1] at hi
    have hik : i = t := by simpa using hi
    subst hik
    have hw : wpOp P ops Q i (wpList P ops Q (ts.map (opK ops))) a w := by unfold wpOp; simp only [opK_some (decide_eq_true h2)]; exact h
    exact wpOp_mono (fun a' w' h' => wpAny_of_seqL ts _ a' w' h3 h') hw
theorem fend (ts : List Nat) (hf : ops.size - (coreL ops core).length = ts.length) (hs : seqL ops ts ((List.range ops.size).map core).toArray = true)
    (h : ∀ w, C w → (∀ p ∈ F, p.2 w) → wpList P ops Q (ts.map (opK ops)) a w) : flowL P ops ev C W R (flowFin P ops core C Q) [] F a := by
  show flowFin P ops core C Q F a
  intro w hw hF
  rw [hf]
  exact wpAny_of_seqL ts _ a w hs (h w hw hF)
variable {w : World} {ts : List Nat}
/-- Steps of the tail. -/
theorem tval (d : Option Tmp) (v : Value) (w' : World) (hd : (opK ops k).dst = d) (hw : Region.wanted (opK ops k) (yielded ops a.tmps) = true) (hr : (execOp a.eval (opK ops k)).run P w = .ok (.value v) w')
    (h : wpList P ops Q (ts.map (opK ops)) (a.put d v) w') : wpList P ops Q ((k :: ts).map (opK ops)) a w := by
  rw [List.map_cons]
  unfold wpList
  rw [if_pos hw]
  refine .inl ?_
  unfold Oper.wp
  rw [hr]
  simp only [Oper.upon]
  rw [hd]; exact h
/-- What yields nothing: a store. -/
theorem tnone (d : Option Tmp) (w' : World) (hd : (opK ops k).dst = d) (hw : Region.wanted (opK ops k) (yielded ops a.tmps) = true) (hr : (execOp a.eval (opK ops k)).run P w = .ok .skip w')
    (h : wpList P ops Q (ts.map (opK ops)) (a.put d undef) w') : wpList P ops Q ((k :: ts).map (opK ops)) a w := by
  rw [List.map_cons]
  unfold wpList
  rw [if_pos hw]
  refine .inl ?_
  unfold Oper.wp
  rw [hr]
  simp only [Oper.upon]
  rw [hd]; exact h
theorem tskip (d : Option Tmp) (hd : (opK ops k).dst = d) (hw : Region.wanted (opK ops k) (yielded ops a.tmps) = false)
    (h : wpList P ops Q (ts.map (opK ops)) (a.put d undef) w) : wpList P ops Q ((k :: ts).map (opK ops)) a w := by
  rw [List.map_cons]
  unfold wpList
  rw [if_neg (by simp [hw]), hd]; exact h
/-- A struct is stored as_v a whole. -/
theorem tstoreP (hd : (opK ops k).dst = none) (hgd : (opK ops k).guard = none) (ty : TypeId) (x y : Operand) (ho : (opK ops k).op = .store ty x y) (g off : Nat) (hx : a.eval x = .pointer (some ⟨g, off, none⟩)) (p : Array Value) (hy : a.eval y = .agg p)
    (t : TypeId) (cs : Array Value) (hg : Blk w g t cs) (hi : (P.info? ty).map (·.size) = some p.size) (hs : off + p.size ≤ cs.size) (h1 : ∀ v ∈ p.toList, v.oneCell' = true) (cs' : Array Value) (hcs : (cs.toList.take off ++ p.toList ++ cs.toList.drop (off + p.size)).toArray = cs')
    (h : ∀ w', Blk w' g t cs' → Wr g w w' → wpList P ops Q (ts.map (opK ops)) (a.put none undef) w') : wpList P ops Q ((k :: ts).map (opK ops)) a w := by
  rw [List.map_cons]
  exact wpList_storeP hgd ty x y ho g off hx p hy t cs hg hi hs h1 cs' hcs (fun w' hB hw => by rw [hd]; exact h w' hB hw)
theorem tend (h : Q .normal a w) : wpList P ops Q (([] : List Nat).map (opK ops)) a w := h
end
end Go.Proofs.YtbcagdjfegobnaaGreat
/- Rows of things whose parts lie elsewhere: append of one thing, and where the new row lies. -/
namespace Go.Proofs.YtbcagdjfegobnaaGreat
open Go.RowKit
set_option linter.unusedVariables false

theorem blk_of (A : Option Addr) (n c : Nat) : (Value.slice A n c).ownBlock = A.map (·.block) := by cases A <;> rfl
/-- What is read lies in no block that is to come, nor in the block bo. -/
def InOff (w : World) (bo : Option Nat) (A : Option Addr) : Prop := ∀ a, A = some a → a.block < w.heap.size ∧ bo ≠ some a.block
theorem InOff.nil (w : World) (bo : Option Nat) : InOff w bo none := fun a h => by cases h
theorem InOff.grow {w w' : World} {bo bo' : Option Nat} {A : Option Addr} (h : InOff w bo A) (hs : w.heap.size ≤ w'.heap.size) (hb : ∀ k, bo' = some k → bo = some k ∨ w.heap.size ≤ k) : InOff w' bo' A := fun a ha => by
  obtain ⟨h1, h2⟩ := h a ha
  refine ⟨Nat.lt_of_lt_of_le h1 hs, fun e => ?_⟩
  rcases hb _ e with h3 | h3
  · exact h2 h3
  · omega
theorem InOff.keep {w w' : World} {bo : Option Nat} {A : Option Addr} (h : InOff w bo A) (hs : w.heap.size ≤ w'.heap.size) : InOff w' bo A := h.grow hs fun k hk => .inl hk
theorem InOff.fresh {w w' : World} {bo : Option Nat} {A : Option Addr} (h : ∀ a, A = some a → w.heap.size ≤ a.block ∧ a.block < w'.heap.size) (hb : ∀ k, bo = some k → k < w.heap.size) : InOff w' bo A := fun a ha => by
  obtain ⟨h1, h2⟩ := h a ha
  exact ⟨h2, fun e => by have := hb _ e; omega⟩
theorem Rd.grown {w w' : World} {size n : Nat} {A : Option Addr} {xs : List Value} {bo : Option Nat} (h : Rd w size A n xs) (hi : InOff w bo A) (hg : w.grownBy w' bo) : Rd w' size A n xs :=
  ⟨h.1, fun hn => by
    obtain ⟨b, off, rfl, hc⟩ := h.2 hn
    obtain ⟨h1, h2⟩ := hi _ rfl
    exact ⟨b, off, rfl, fun j v hv => (World.cell?_of_block (hg.block b h1 (fun e => h2 e.symm))).trans (hc j v hv)⟩⟩

section
variable {P : Program} {α : Type} (f : α → List Value) (size bytes : Nat) (hf : ∀ x, (f x).length = size) (hone : ∀ x, ∀ u ∈ f x, u.oneCell' = true)
include hf hone
/-- append of one thing, at an operation. -/
theorem wp_addN {w : World} {o : Oper} {a : Act} {K : Act → World → Prop} {Q : Exit → Act → World → Prop} (s x : Operand) (t : TypeId)
    (ho : o.op = .call { callee := .builtin .append, args := #[s, x], argTypes := #[t, t] })
    (E : TypeId) (z : Value) (ht : P.underlying t = some (.slice E)) (hinfo : (P.info? E).map (fun i => (i.zero, i.size, i.bytes)) = some (some z, size, bytes)) (hzs : z.cells.size = size) (hsz : 0 < size) (hb1 : 1 ≤ bytes)
    (base : Nat) (A : Option Addr) (m c : Nat) (l : List α) (hl : l.length = m) (hs : a.eval s = .slice A m c) (hown : OwnX f size w base E A c l)
    (p : α) (G d : Nat) (hx : a.eval x = .slice (some ⟨G, 0, none⟩) 1 d) (hr : Rd w size (some ⟨G, 0, none⟩) 1 (f p)) (k : Nat) (hk : m + 1 = k) (hm : (m + 1) * bytes ≤ 140737488355328) (hbase : base ≤ w.heap.size)
    (h : ∀ g cap w', OwnX f size w' base E (some ⟨g, 0, none⟩) cap (l ++ [p]) → k ≤ cap → cap ≤ 9223372036854775807 → Below base w w' → w.grownBy w' (A.map (·.block)) → (A.map (·.block) = some g ∨ g = w.heap.size) → g < w'.heap.size → K (a.put o.dst (.slice (some ⟨g, 0, none⟩) k cap)) w') :
    o.wp P a w K Q := by
  subst hk
  subst hl
  obtain ⟨i, hi, hz, hsize, hby⟩ := info_parts hinfo
  have hown' : w.ownsRow base E size (.slice A l.length c) l.length (l.flatMap f) := hown
  have hml : l.length + 1 ≤ maxLen := by
    have : (l.length + 1) * 1 ≤ (l.length + 1) * bytes := Nat.mul_le_mul_left _ hb1
    unfold maxLen; omega
  refine wp_append_lies w s x t ho base E i z size bytes ht hi hz hsize hby hzs hsz _ l.length (l.flatMap f) hs hown' ⟨G, 0, none⟩ 1 d (f p) hx (by rw [hf]; omega) ?_ (hone p) (by decide) hml hm hbase _ rfl fun g cap w' h2 h3 h4 h5 => ?_
  · intro j u hu
    obtain ⟨b, off, e, hc⟩ := hr.2 (by decide)
    injection e with e; injection e with e1 e2; subst e1; subst e2
    rw [add_none]; exact hc j u hu
  · rw [blk_of] at h3 h4
    have h2' : OwnX f size w' base E (some ⟨g, 0, none⟩) cap (l ++ [p]) := by unfold OwnX; simpa using h2
    have hcap := h2'.cap
    rw [List.length_append] at hcap
    exact h g cap w' h2' hcap.1 hcap.2 ((Below.refl _ _).grown (by rw [← blk_of A l.length c] at h3; exact h3) hbase (fun k hk => (hown'.lt k hk).1)) h3 h4 h5
theorem wpList_addN {w : World} {ops : Array Oper} {rest : List Oper} {o : Oper} {a : Act} {Q : Exit → Act → World → Prop} (hg : o.guard = none) (s x : Operand) (t : TypeId)
    (ho : o.op = .call { callee := .builtin .append, args := #[s, x], argTypes := #[t, t] })
    (E : TypeId) (z : Value) (ht : P.underlying t = some (.slice E)) (hinfo : (P.info? E).map (fun i => (i.zero, i.size, i.bytes)) = some (some z, size, bytes)) (hzs : z.cells.size = size) (hsz : 0 < size) (hb1 : 1 ≤ bytes)
    (base : Nat) (A : Option Addr) (m c : Nat) (l : List α) (hl : l.length = m) (hs : a.eval s = .slice A m c) (hown : OwnX f size w base E A c l)
    (p : α) (G d : Nat) (hx : a.eval x = .slice (some ⟨G, 0, none⟩) 1 d) (hr : Rd w size (some ⟨G, 0, none⟩) 1 (f p)) (k : Nat) (hk : m + 1 = k) (hm : (m + 1) * bytes ≤ 140737488355328) (hbase : base ≤ w.heap.size)
    (h : ∀ g cap w', OwnX f size w' base E (some ⟨g, 0, none⟩) cap (l ++ [p]) → k ≤ cap → cap ≤ 9223372036854775807 → Below base w w' → w.grownBy w' (A.map (·.block)) → (A.map (·.block) = some g ∨ g = w.heap.size) → g < w'.heap.size → wpList P ops Q rest (a.put o.dst (.slice (some ⟨g, 0, none⟩) k cap)) w') :
    wpList P ops Q (o :: rest) a w :=
  wpList_plain hg fun _ hK => wp_addN f size bytes hf hone s x t ho E z ht hinfo hzs hsz hb1 base A m c l hl hs hown p G d hx hr k hk hm hbase fun g cap w' h1 h2 h3 h4 h5 h6 h7 => hK _ _ (h g cap w' h1 h2 h3 h4 h5 h6 h7)
theorem step_addN {w : World} {ops : Array Oper} {o : Oper} {a : Act} {K : Act → World → Prop} {Q : Exit → Act → World → Prop} {E' : Prop} (hg : o.guard = none) (s x : Operand) (t : TypeId)
    (ho : o.op = .call { callee := .builtin .append, args := #[s, x], argTypes := #[t, t] })
    (E : TypeId) (z : Value) (ht : P.underlying t = some (.slice E)) (hinfo : (P.info? E).map (fun i => (i.zero, i.size, i.bytes)) = some (some z, size, bytes)) (hzs : z.cells.size = size) (hsz : 0 < size) (hb1 : 1 ≤ bytes)
    (base : Nat) (A : Option Addr) (m c : Nat) (l : List α) (hl : l.length = m) (hs : a.eval s = .slice A m c) (hown : OwnX f size w base E A c l)
    (p : α) (G d : Nat) (hx : a.eval x = .slice (some ⟨G, 0, none⟩) 1 d) (hr : Rd w size (some ⟨G, 0, none⟩) 1 (f p)) (k : Nat) (hk : m + 1 = k) (hm : (m + 1) * bytes ≤ 140737488355328) (hbase : base ≤ w.heap.size)
    (h : ∀ g cap w', OwnX f size w' base E (some ⟨g, 0, none⟩) cap (l ++ [p]) → k ≤ cap → cap ≤ 9223372036854775807 → Below base w w' → w.grownBy w' (A.map (·.block)) → (A.map (·.block) = some g ∨ g = w.heap.size) → g < w'.heap.size → K (a.put o.dst (.slice (some ⟨g, 0, none⟩) k cap)) w') :
    if Region.wanted o (yielded ops a.tmps) = true then Oper.wp P o a w K Q else E' := by
  rw [if_pos (by simp [Region.wanted, hg])]
  exact wp_addN f size bytes hf hone s x t ho E z ht hinfo hzs hsz hb1 base A m c l hl hs hown p G d hx hr k hk hm hbase h
end
end Go.Proofs.YtbcagdjfegobnaaGreat
