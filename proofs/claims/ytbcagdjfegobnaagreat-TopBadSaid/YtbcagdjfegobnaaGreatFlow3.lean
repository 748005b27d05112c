/- A region that draws its order, walked once in the order of the text: the walk and its soundness. -/
import Derived.Test.YtbcagdjfegobnaaGreatFlow2
namespace Go.Proofs.YtbcagdjfegobnaaGreat
open Go.RowKit
set_option linter.unusedVariables false

section
variable (P : Program) (ops : Array Oper) (core ev : Nat → Bool) (C : World → Prop) (W : Nat → Act → Value → World → Prop) (R : World → World → Prop)
abbrev Fact := Nat × (World → Prop)
/-- The worlds in which operation k may come up: of the class, and all that it waits for has been told. -/
def cls (F : List Fact) (k : Nat) (w : World) : Prop := C w ∧ ∀ p ∈ F, depB ops k p.1 = true → p.2 w
/-- THE WALK in the order of the text. -/
def flowL (Fin : List Fact → Act → Prop) : List Nat → List Fact → Act → Prop
  | [], F, a => Fin F a
  | k :: ks, F, a => ∀ o, ops[k]? = some o →
    if Region.wanted o (yielded ops a.tmps) = true then
      (if ev k = true then (∀ w, cls ops C F k w → doesR P (fun v w' => W k a v w' ∧ C w' ∧ R w w') ((execOp a.eval o).run P w)) ∧ ∀ v, (∃ w, C w ∧ W k a v w) → flowL Fin ks ((k, W k a v) :: F) (a.put o.dst v)
       else ∃ v, (∀ w, cls ops C F k w → stillR w v ((execOp a.eval o).run P w)) ∧ (pu ops k = true → ∀ w, (execOp a.eval o).run P w = .ok (.value v) w) ∧ flowL Fin ks F (a.put o.dst v))
    else flowL Fin ks F (a.put o.dst undef)
/-- What is known in the midst of the region. -/
structure FInv (a0 : Act) (l : Array Bool) (vals : Nat → Value) (a : Act) (w : World) : Prop where
  hsz : l.size = ops.size
  sz : a.tmps.size = a0.tmps.size
  df : a.defers = a0.defers
  slot : ∀ t, (∀ j, j < ops.size → core j = true → l.getD j true = false → dstOf ops j ≠ some t) → a.tmps[t]? = (AV ops core a0 vals).tmps[t]?
  c : C w
  fact : ∀ k o, core k = true → l.getD k true = true → ops[k]? = some o → Region.wanted o (yielded ops (AV ops core a0 vals).tmps) = true → ev k = true → W k (AV ops core a0 vals) (vals k) w
  still : ∀ k o, core k = true → l.getD k true = true → ops[k]? = some o → Region.wanted o (yielded ops (AV ops core a0 vals).tmps) = true → ev k = false →
    ∃ wk, C wk ∧ (∀ e oe, core e = true → ops[e]? = some oe → Region.wanted oe (yielded ops (AV ops core a0 vals).tmps) = true → ev e = true → depB ops k e = true → W e (AV ops core a0 vals) (vals e) wk) ∧ stillR wk (vals k) ((execOp (AV ops core a0 vals).eval o).run P wk)
  skip : ∀ k o, core k = true → l.getD k true = true → ops[k]? = some o → Region.wanted o (yielded ops (AV ops core a0 vals).tmps) = false → vals k = undef
  closed : ∀ k, k < ops.size → l.getD k true = true → ∀ e ∈ waits ops k, l.getD e true = true
  tail : ∀ k, k < ops.size → core k = false → l.getD k true = false
/-- The walk has come to the operations suf. -/
structure FAt (a0 : Act) (l : Array Bool) (vals : Nat → Value) (w : World) (suf : List Nat) (vals' : Nat → Value) (w' : World) (F : List Fact) (A : Act) : Prop where
  same : ∀ k, core k = true → k < ops.size → l.getD k true = true → vals' k = vals k
  c : C w'
  sz : A.tmps.size = a0.tmps.size
  df : A.defers = a0.defers
  slot : ∀ t, (∀ j ∈ suf, dstOf ops j ≠ some t) → A.tmps[t]? = (AV ops core a0 vals').tmps[t]?
  now : ∀ p ∈ F, p.2 w'
  form : ∀ p ∈ F, ∃ o Ae, p.1 < ops.size ∧ core p.1 = true ∧ p.1 ∉ suf ∧ ops[p.1]? = some o ∧ ev p.1 = true ∧ Region.wanted o (yielded ops (AV ops core a0 vals').tmps) = true ∧ (∀ t ∈ looks ops p.1, Ae.tmps[t]? = (AV ops core a0 vals').tmps[t]?) ∧ p.2 = W p.1 Ae (vals' p.1)
end
section
variable {P : Program} {ops : Array Oper} {core ev : Nat → Bool} {C : World → Prop} {W : Nat → Act → Value → World → Prop}
theorem listed_cl {l : Array Bool} (hcl : ∀ k, k < ops.size → l.getD k true = true → ∀ e ∈ waits ops k, l.getD e true = true) {sz : Nat} (hok : FlowOk ops core sz) {k i : Nat} (hk : k < ops.size) (hw : ∀ e ∈ waits ops k, l.getD e true = true) (h : depB ops k i = true) : l.getD i true = true := by
  have h1 := waitsAll_in (ops := ops) (l := fun k => k < ops.size ∧ l.getD k true = true) (fun k hk e he => ⟨by have := hok.back k hk.1 e he; omega, hcl k hk.1 hk.2 e he⟩) ops.size k (fun e he => ⟨by have := hok.back k hk e he; omega, hw e he⟩) i (by simpa [depB] using h)
  exact h1.2
/-- The slots that an operation looks at, behind the walk's beginning up to it. -/
theorem at_looks {a0 A : Act} {vals' : Nat → Value} {sz : Nat} (hok : FlowOk ops core sz) {k : Nat} {ks : List Nat} (hk : k < ops.size) (hc : core k = true) (hsuf : ∀ j ∈ k :: ks, k ≤ j ∧ j < ops.size ∧ core j = true)
    (hslot : ∀ t, (∀ j ∈ k :: ks, dstOf ops j ≠ some t) → A.tmps[t]? = (AV ops core a0 vals').tmps[t]?) : ∀ t ∈ looks ops k, A.tmps[t]? = (AV ops core a0 vals').tmps[t]? := fun t ht => hslot t fun j hj e => by
  obtain ⟨h1, h2, h3⟩ := hsuf j hj
  have := dep_lt hok hk ((hok.ssa k j t hk hc h2 h3 e).2.1 ht)
  omega
/-- One value more. -/
def updV (vals : Nat → Value) (k : Nat) (v : Value) : Nat → Value := fun i => if i = k then v else vals i
theorem updV_self (vals : Nat → Value) (k : Nat) (v : Value) : updV vals k v k = v := by simp [updV]
theorem updV_ne (vals : Nat → Value) {k i : Nat} (v : Value) (h : i ≠ k) : updV vals k v i = vals i := by simp [updV, h]
theorem put_slot {a0 A : Act} {vals' : Nat → Value} {sz : Nat} (hok : FlowOk ops core sz) (hsz : sz = a0.tmps.size) (hA : A.tmps.size = a0.tmps.size) {k : Nat} {ks : List Nat} {o : Oper} (ho : ops[k]? = some o) (hc : core k = true) (hks : ∀ j ∈ ks, j ≠ k) (v : Value)
    (hslot : ∀ t, (∀ j ∈ k :: ks, dstOf ops j ≠ some t) → A.tmps[t]? = (AV ops core a0 vals').tmps[t]?) : ∀ t, (∀ j ∈ ks, dstOf ops j ≠ some t) → (A.put o.dst v).tmps[t]? = (AV ops core a0 (updV vals' k v)).tmps[t]? := by
  intro t ht
  have hk : k < ops.size := (Array.getElem?_eq_some_iff.1 ho).1
  have hdst : dstOf ops k = o.dst := by simp [dstOf, ho]
  by_cases hd : o.dst = some t
  · have h1 := hok.ssa k k t hk hc hk hc (hdst.trans hd)
    rw [AV_get, if_pos (by rw [← hsz]; exact h1.1), hd]
    have hw := writer_of hok hk hc (hdst.trans hd)
    simp [Act.put, lookV, hw, updV, hA, ← hsz, h1.1]
  · have e : (A.put o.dst v).tmps[t]? = A.tmps[t]? := by
      cases hx : o.dst with
      | none => rfl
      | some d =>
        have hne : d ≠ t := fun e => hd (by rw [hx, e])
        simp [Act.put, Array.getElem?_setIfInBounds_ne hne]
    rw [e, hslot t (fun j hj => by
      rcases List.mem_cons.1 hj with rfl | hj
      · rw [hdst]; exact hd
      · exact ht j hj), AV_get, AV_get]
    congr 1
    unfold lookV
    cases hw : writer ops core t with
    | none => rfl
    | some j =>
      have hjk : j ≠ k := fun e => by
        have := (writer_spec hw).2.2
        rw [e, hdst] at this
        exact hd this
      simp [updV, hjk]
end
end Go.Proofs.YtbcagdjfegobnaaGreat
