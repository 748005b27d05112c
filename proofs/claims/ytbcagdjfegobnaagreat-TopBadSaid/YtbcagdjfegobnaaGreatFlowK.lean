/- A region that draws its order, walked once: the steps, by the operation's number. -/
import Derived.Test.YtbcagdjfegobnaaGreatFlow
import Derived.StillTail
namespace Go.Proofs.YtbcagdjfegobnaaGreat
open Go.RowKit
set_option linter.unusedVariables false

theorem cell_on {B : Nat} {w w' : World} (h : Below B w w') {b off : Nat} (hb : b < B) {v : Value} (hc : w.cell? ⟨b, off, none⟩ = some v) : w'.cell? ⟨b, off, none⟩ = some v := by
  rw [h.cell (show (⟨b, off, none⟩ : Addr).block < B from hb)]; exact hc
def opK (ops : Array Oper) (k : Nat) : Oper := (ops[k]?).getD default
theorem opK_some {ops : Array Oper} {k : Nat} (hk : decide (k < ops.size) = true) : ops[k]? = some (opK ops k) := by
  have h : k < ops.size := of_decide_eq_true hk
  simp [opK, h]
section
variable {P : Program} {ops : Array Oper} {core ev : Nat → Bool} {C : World → Prop} {W : Nat → Act → Value → World → Prop} {R : World → World → Prop} {Q : Exit → Act → World → Prop} {Fin : List Fact → Act → Prop} {k : Nat} {ks : List Nat} {F : List Fact} {a : Act}
/-- A step whose operation yields v in whatever world. -/
theorem fq (d : Tmp) (v : Value) (hk : decide (k < ops.size) = true) (hd : (opK ops k).dst = some d) (hw : Region.wanted (opK ops k) (yielded ops a.tmps) = true) (he : ev k = false) (hs : ∀ w, (execOp a.eval (opK ops k)).run P w = .ok (.value v) w) (h : flowL P ops ev C W R Fin ks F (a.put (some d) v)) : flowL P ops ev C W R Fin (k :: ks) F a :=
  flow_quiet (opK_some hk) hw he (fun w _ => still_run (hs w)) (fun _ => hs) (by rw [hd]; exact h)
/-- A load of one cell. -/
theorem fq1 (d : Tmp) (v : Value) (ty : TypeId) (x : Operand) (b off : Nat) (desc : TypeDesc) (hk : decide (k < ops.size) = true) (hd : (opK ops k).dst = some d) (hw : Region.wanted (opK ops k) (yielded ops a.tmps) = true) (he : ev k = false)
    (ho : (opK ops k).op = .load ty x) (hx : a.eval x = .pointer (some ⟨b, off, none⟩)) (hu : P.underlying ty = some desc) (hds : (match desc with | .struct _ | .array _ _ => true | _ => false) = false) (hc : ∀ w, cls ops C F k w → w.cell? ⟨b, off, none⟩ = some v)
    (h : flowL P ops ev C W R Fin ks F (a.put (some d) v)) : flowL P ops ev C W R Fin (k :: ks) F a :=
  flow_quiet (opK_some hk) hw he (fun w hw => still_load1 ty x ho b off hx v desc hu hds (hc w hw)) (fun hp => absurd hp (by simp [pu, opK_some hk, pureOp, ho])) (by rw [hd]; exact h)
/-- A load of a struct whose cells are not looked into. -/
theorem fqR (d : Tmp) (p : Array Value) (ty : TypeId) (x : Operand) (b off : Nat) (desc : TypeDesc) (hk : decide (k < ops.size) = true) (hd : (opK ops k).dst = some d) (hw : Region.wanted (opK ops k) (yielded ops a.tmps) = true) (he : ev k = false)
    (ho : (opK ops k).op = .load ty x) (hx : a.eval x = .pointer (some ⟨b, off, none⟩)) (hu : P.underlying ty = some desc) (hds : (match desc with | .struct _ | .array _ _ => true | _ => false) = true) (hi : (P.info? ty).map (·.size) = some p.size) (hc : ∀ w, cls ops C F k w → ∀ j v, p[j]? = some v → w.cell? ⟨b, off + j, none⟩ = some v)
    (h : flowL P ops ev C W R Fin ks F (a.put (some d) (.agg p))) : flowL P ops ev C W R Fin (k :: ks) F a :=
  flow_quiet (opK_some hk) hw he (fun w hw => still_loadR ty x ho b off hx p desc hu hds hi (hc w hw)) (fun hp => absurd hp (by simp [pu, opK_some hk, pureOp, ho])) (by rw [hd]; exact h)
/-- A call of a Go function. -/
theorem fcall (d : Tmp) (f : FuncId) (args : Array Value) (hk : decide (k < ops.size) = true) (hd : (opK ops k).dst = some d) (hw : Region.wanted (opK ops k) (yielded ops a.tmps) = true) (he : ev k = true) (hr : ∀ w, (execOp a.eval (opK ops k)).run P w = .ok (.enter f args) w)
    (hc : ∀ w, cls ops C F k w → Calls P f args w (fun e w'' => ∃ v, e = .returned v ∧ (W k a v w'' ∧ C w'' ∧ R w w'')))
    (h : ∀ v, (∃ w, C w ∧ W k a v w) → flowL P ops ev C W R Fin ks ((k, W k a v) :: F) (a.put (some d) v)) : flowL P ops ev C W R Fin (k :: ks) F a :=
  flow_event (opK_some hk) hw he (fun w hcl => does_call (hr w) (hc w hcl)) (fun v hv => by rw [hd]; exact h v hv)
/-- A call whose value is not kept. -/
theorem fcall0 (f : FuncId) (args : Array Value) (hk : decide (k < ops.size) = true) (hd : (opK ops k).dst = none) (hw : Region.wanted (opK ops k) (yielded ops a.tmps) = true) (he : ev k = true) (hr : ∀ w, (execOp a.eval (opK ops k)).run P w = .ok (.enter f args) w)
    (hc : ∀ w, cls ops C F k w → Calls P f args w (fun e w'' => ∃ v, e = .returned v ∧ (W k a v w'' ∧ C w'' ∧ R w w'')))
    (h : ∀ v, (∃ w, C w ∧ W k a v w) → flowL P ops ev C W R Fin ks ((k, W k a v) :: F) (a.put none v)) : flowL P ops ev C W R Fin (k :: ks) F a :=
  flow_event (opK_some hk) hw he (fun w hcl => does_call (hr w) (hc w hcl)) (fun v hv => by rw [hd]; exact h v hv)
/-- What yields a value and a new world: an alloc and its like. -/
theorem fnew (d : Tmp) (vf : World → Value) (wf : World → World) (hk : decide (k < ops.size) = true) (hd : (opK ops k).dst = some d) (hw : Region.wanted (opK ops k) (yielded ops a.tmps) = true) (he : ev k = true) (hr : ∀ w, (execOp a.eval (opK ops k)).run P w = .ok (.value (vf w)) (wf w))
    (hc : ∀ w, cls ops C F k w → W k a (vf w) (wf w) ∧ C (wf w) ∧ R w (wf w))
    (h : ∀ v, (∃ w, C w ∧ W k a v w) → flowL P ops ev C W R Fin ks ((k, W k a v) :: F) (a.put (some d) v)) : flowL P ops ev C W R Fin (k :: ks) F a :=
  flow_event (opK_some hk) hw he (fun w hcl => does_value (hr w) (hc w hcl)) (fun v hv => by rw [hd]; exact h v hv)
/-- Behind the core: the others, one behind the other. -/
def seqL (ops : Array Oper) : List Nat → Array Bool → Bool
  | [], l => (Region.ready .any ops l).isEmpty
  | t :: ts, l => decide (Region.ready .any ops l = [t]) && (decide (t < ops.size) && seqL ops ts (l.setIfInBounds t true))
theorem wpAny_of_seqL : ∀ (ts : List Nat) (l : Array Bool) (a : Act) (w : World), seqL ops ts l = true → wpList P ops Q (ts.map (opK ops)) a w → wpAny P .any ops Q ts.length l a w
  | [], _, _, _, hB, h => ⟨by simpa [seqL] using hB, h⟩
  | t :: ts, l, a, w, hB, h => by
    simp only [seqL, Bool.and_eq_true, decide_eq_true_eq] at hB
    obtain ⟨h1, h2, h3⟩ := hB
    refine ⟨fun h0 => (by rw [h1] at h0; cases h0), fun i hi => ?_⟩
    rw [h1] at hi
    have hik : i = t := by simpa using hi
    subst hik
    have hw : wpOp P ops Q i (wpList P ops Q (ts.map (opK ops))) a w := by unfold wpOp; simp only [opK_some (decide_eq_true h2)]; exact h
    exact wpOp_mono (fun a' w' h' => wpAny_of_seqL ts _ a' w' h3 h') hw
theorem fend (ts : List Nat) (hf : ops.size - (coreL ops core).length = ts.length) (hs : seqL ops ts ((List.range ops.size).map core).toArray = true)
    (h : ∀ w, C w → (∀ p ∈ F, p.2 w) → wpList P ops Q (ts.map (opK ops)) a w) : flowL P ops ev C W R (flowFin P ops core C Q) [] F a := by
  show flowFin P ops core C Q F a
  intro w hw hF
  rw [hf]
  exact wpAny_of_seqL ts _ a w hs (h w hw hF)
variable {w : World} {ts : List Nat}
/-- Steps of the tail. -/
theorem tval (d : Option Tmp) (v : Value) (w' : World) (hd : (opK ops k).dst = d) (hw : Region.wanted (opK ops k) (yielded ops a.tmps) = true) (hr : (execOp a.eval (opK ops k)).run P w = .ok (.value v) w')
    (h : wpList P ops Q (ts.map (opK ops)) (a.put d v) w') : wpList P ops Q ((k :: ts).map (opK ops)) a w := by
  rw [List.map_cons]
  unfold wpList
  rw [if_pos hw]
  refine .inl ?_
  unfold Oper.wp
  rw [hr]
  simp only [Oper.upon]
  rw [hd]; exact h
/-- What yields nothing: a store. -/
theorem tnone (d : Option Tmp) (w' : World) (hd : (opK ops k).dst = d) (hw : Region.wanted (opK ops k) (yielded ops a.tmps) = true) (hr : (execOp a.eval (opK ops k)).run P w = .ok .skip w')
    (h : wpList P ops Q (ts.map (opK ops)) (a.put d undef) w') : wpList P ops Q ((k :: ts).map (opK ops)) a w := by
  rw [List.map_cons]
  unfold wpList
  rw [if_pos hw]
  refine .inl ?_
  unfold Oper.wp
  rw [hr]
  simp only [Oper.upon]
  rw [hd]; exact h
theorem tskip (d : Option Tmp) (hd : (opK ops k).dst = d) (hw : Region.wanted (opK ops k) (yielded ops a.tmps) = false)
    (h : wpList P ops Q (ts.map (opK ops)) (a.put d undef) w) : wpList P ops Q ((k :: ts).map (opK ops)) a w := by
  rw [List.map_cons]
  unfold wpList
  rw [if_neg (by simp [hw]), hd]; exact h
/-- A struct is stored as a whole. -/
theorem tstoreP (hd : (opK ops k).dst = none) (hgd : (opK ops k).guard = none) (ty : TypeId) (x y : Operand) (ho : (opK ops k).op = .store ty x y) (g off : Nat) (hx : a.eval x = .pointer (some ⟨g, off, none⟩)) (p : Array Value) (hy : a.eval y = .agg p)
    (t : TypeId) (cs : Array Value) (hg : Blk w g t cs) (hi : (P.info? ty).map (·.size) = some p.size) (hs : off + p.size ≤ cs.size) (h1 : ∀ v ∈ p.toList, v.oneCell' = true) (cs' : Array Value) (hcs : (cs.toList.take off ++ p.toList ++ cs.toList.drop (off + p.size)).toArray = cs')
    (h : ∀ w', Blk w' g t cs' → Wr g w w' → wpList P ops Q (ts.map (opK ops)) (a.put none undef) w') : wpList P ops Q ((k :: ts).map (opK ops)) a w := by
  rw [List.map_cons]
  exact wpList_storeP hgd ty x y ho g off hx p hy t cs hg hi hs h1 cs' hcs (fun w' hB hw => by rw [hd]; exact h w' hB hw)
theorem tend (h : Q .normal a w) : wpList P ops Q (([] : List Nat).map (opK ops)) a w := h
end
end Go.Proofs.YtbcagdjfegobnaaGreat
