/- Texts of the requests, merged by merge.py: Flow1 Flow2 Flow3 Flow4 Flow5 Flow6 Flow7 Flow FlowK FlowX FlowF. -/
import Derived.Test.YtihngonemdaihaaRqOne
import Derived.Test.YtihngonemdaihaaBig
import Derived.StillTail
import Derived.Test.YtihngonemdaihaaAppL
import Derived.ChangeKeysEq
/- A region that draws its order, walked once in the order of the text: operations that yield one value in every world of a class, and events (calls, new blocks) of which a condition is told that stays. -/
namespace Go.Proofs.Ytihngonemdaihaa
open Go.RowKit
set_option linter.unusedVariables false

/-- An operation leaves the world alone and yields v. -/
def stillR (w : World) (v : Value) : Result Next → Prop
  | .ok (.value u) w' => w' = w ∧ u = v
  | .ok .skip w' => w' = w ∧ v = undef
  | _ => False
/-- An operation yields a value and a world of which R holds. -/
def doesR (P : Program) (R : Value → World → Prop) : Result Next → Prop
  | .ok (.value u) w' => R u w'
  | .ok .skip w' => R undef w'
  | .ok (.enter f args) w' => Calls P f args w' (fun e w'' => ∃ v, e = .returned v ∧ R v w'')
  | _ => False
theorem stillR.one {w : World} {v u : Value} {r : Result Next} (h : stillR w v r) (k : stillR w u r) : v = u := by
  cases r with
  | ok n w' => cases n <;> simp only [stillR] at h k <;> first | exact h.2.symm.trans k.2 | exact h.2.trans k.2.symm
  | halt x w' => exact h.elim
theorem doesR.mono {P : Program} {R R' : Value → World → Prop} {r : Result Next} (h : doesR P R r) (hr : ∀ v w, R v w → R' v w) : doesR P R' r := by
  cases r with
  | ok n w' => cases n <;> simp only [doesR] at h ⊢ <;> first | exact hr _ _ h | exact h.mono fun e w'' ⟨v, he, hv⟩ => ⟨v, he, hr _ _ hv⟩ | exact h
  | halt x w' => exact h
theorem doesR.some {P : Program} {R : Value → World → Prop} {r : Result Next} (h : doesR P R r) : ∃ v w, R v w := by
  cases r with
  | ok n w' =>
    cases n <;> simp only [doesR] at h
    case value u => exact ⟨_, _, h⟩
    case skip => exact ⟨_, _, h⟩
    case enter f args => obtain ⟨e, w'', _, ⟨v, _, hv⟩, _⟩ := h []; exact ⟨_, _, hv⟩
  | halt x w' => exact h.elim
theorem wp_of_still {P : Program} {o : Oper} {a : Act} {w : World} {K : Act → World → Prop} {Q : Exit → Act → World → Prop} {v : Value} (h : stillR w v ((execOp a.eval o).run P w)) (hk : K (a.put o.dst v) w) : o.wp P a w K Q := by
  unfold Oper.wp
  generalize (execOp a.eval o).run P w = r at *
  cases r with
  | ok n w' =>
    cases n <;> simp only [stillR] at h <;> simp only [Oper.upon]
    case value u => obtain ⟨rfl, rfl⟩ := h; exact hk
    case skip => obtain ⟨rfl, rfl⟩ := h; exact hk
  | halt x w' => exact h.elim
theorem wp_of_does {P : Program} {o : Oper} {a : Act} {w : World} {K : Act → World → Prop} {Q : Exit → Act → World → Prop} {R : Value → World → Prop} (h : doesR P R ((execOp a.eval o).run P w)) (hk : ∀ v w', R v w' → K (a.put o.dst v) w') : o.wp P a w K Q := by
  unfold Oper.wp
  generalize (execOp a.eval o).run P w = r at *
  cases r with
  | ok n w' =>
    cases n <;> simp only [doesR] at h <;> simp only [Oper.upon]
    case value u => exact hk _ _ h
    case skip => exact hk _ _ h
    case enter f args => exact h.mono fun e w'' ⟨v, he, hv⟩ => by subst he; exact hk _ _ hv
  | halt x w' => exact h.elim

section
variable (ops : Array Oper)
/-- What an operation waits for, at once. -/
def waits (k : Nat) : List Nat := match ops[k]? with
  | some o => (o.after.toList.filter (Region.binds .any)).map (·.on)
  | none => []
/-- .. and at length. -/
def waitsAll : Nat → Nat → List Nat
  | 0, _ => []
  | f + 1, k => waits ops k ++ (waits ops k).flatMap (waitsAll f)
def depB (k i : Nat) : Bool := (waitsAll ops ops.size k).contains i
def dstOf (k : Nat) : Option Tmp := (ops[k]?).bind (·.dst)
def looks (k : Nat) : List Tmp := match ops[k]? with
  | some o => o.looksAt ops
  | none => []
/-- Operations that yield the same in whatever world: they may be taken ahead of all. -/
def pureOp (o : Oper) : Bool := match o.op with
  | .extract _ _ => true
  | .move _ => true
  | .nilCheck _ => true
  | .fieldAddr _ _ _ => true
  | .binOp _ _ _ _ _ => true
  | .slice _ _ _ _ _ => true
  | .call c => (match c.callee with | .builtin .len => true | .builtin .max => true | _ => false)
  | _ => false
def pu (j : Nat) : Bool := match ops[j]? with
  | some o => pureOp o
  | none => false
def pureB (core ev : Nat → Bool) : Bool := Region.noSelect ops &&
  (List.range ops.size).all fun j => !(core j && pu ops j) || (!ev j && (List.range ops.size).all fun i => i == j || ((waits ops i).contains j || (depB ops j i || (match ops[i]?, ops[j]? with | some oi, some oj => oj.apart ops oi | _, _ => true))))
/-- The order of the text serves: each operation of the core waits for operations of the core ahead of it alone; a slot is written once, and read by those alone that wait for its writer; the others wait for the whole core. -/
def flowB (core : Nat → Bool) (sz : Nat) : Bool :=
  (List.range ops.size).all fun k =>
    (waits ops k).all (fun e => e < k) &&
    (if core k then
      (waits ops k).all core &&
      (List.range ops.size).all (fun j => !core j || ((match dstOf ops j with
        | some d => d < sz && (!(looks ops k).contains d || depB ops k j) && (j == k || dstOf ops k != some d)
        | none => true))) &&
      (match ops[k]? with | some o => (match o.op with | Op.select _ _ => false | _ => true) | none => true)
    else (List.range ops.size).all (fun j => !core j || (depB ops k j || pu ops j)))
end

section
variable {ops : Array Oper}
theorem looks_of {k : Nat} {o : Oper} (ho : ops[k]? = some o) : looks ops k = o.looksAt ops := by simp [looks, ho]
theorem agree_exec {k : Nat} {o : Oper} (ho : ops[k]? = some o) (hs : ∀ cs b, o.op ≠ .select cs b) {a b : Act} (h : ∀ t ∈ looks ops k, a.tmps[t]? = b.tmps[t]?) : execOp a.eval o = execOp b.eval o :=
  execOp_congr o hs fun x hx => by
    cases x with
    | tmp t =>
      have ht : t ∈ looks ops k := by
        rw [looks_of ho]
        exact List.mem_append_left _ (List.mem_filterMap.2 ⟨.tmp t, by simpa using hx, rfl⟩)
      simp only [Act.eval, Array.getD_eq_getD_getElem?, h t ht]
    | _ => rfl
theorem agree_wanted {k : Nat} {o : Oper} (ho : ops[k]? = some o) {a b : Act} (h : ∀ t ∈ looks ops k, a.tmps[t]? = b.tmps[t]?) : Region.wanted o (yielded ops a.tmps) = Region.wanted o (yielded ops b.tmps) := by
  unfold Region.wanted
  cases hg : o.guard with
  | none => rfl
  | some p =>
    obtain ⟨j, want⟩ := p
    have e : yielded ops a.tmps j = yielded ops b.tmps j := by
      unfold yielded
      cases hd : (ops[j]?).bind (·.dst) with
      | none => simp
      | some d =>
        have ht : d ∈ looks ops k := by
          rw [looks_of ho]
          exact List.mem_append_right _ (by simp [hg, hd])
        simp [h d ht]
    simp [e]
end
end Go.Proofs.Ytihngonemdaihaa
/- A region that draws its order, walked once in the order of the text: the theorem. -/
namespace Go.Proofs.Ytihngonemdaihaa
open Go.RowKit
set_option linter.unusedVariables false

section
variable (ops : Array Oper) (core : Nat → Bool)
/-- Who writes a slot. -/
def writer (t : Tmp) : Option Nat := (List.range ops.size).find? fun j => core j && dstOf ops j == some t
def lookV (a0 : Act) (vals : Nat → Value) (t : Tmp) : Value := match writer ops core t with
  | some j => vals j
  | none => a0.tmps.getD t undef
/-- The frame when all of the core have yielded these values. -/
def AV (a0 : Act) (vals : Nat → Value) : Act := { a0 with tmps := Array.ofFn fun t : Fin a0.tmps.size => lookV ops core a0 vals t }
end
section
variable {ops : Array Oper} {core : Nat → Bool}
theorem AV_get (a0 : Act) (vals : Nat → Value) (t : Nat) : (AV ops core a0 vals).tmps[t]? = if t < a0.tmps.size then some (lookV ops core a0 vals t) else none := by
  simp [AV, Array.getElem?_ofFn]
theorem writer_spec {t : Tmp} {j : Nat} (h : writer ops core t = some j) : j < ops.size ∧ core j = true ∧ dstOf ops j = some t := by
  have h1 := List.mem_of_find?_eq_some h
  have h2 := List.find?_some h
  simp at h1 h2
  exact ⟨h1, h2.1, h2.2⟩
theorem writer_none {t : Tmp} (h : writer ops core t = none) (j : Nat) (hj : j < ops.size) (hc : core j = true) : dstOf ops j ≠ some t := by
  have := List.find?_eq_none.1 h j (by simpa using hj)
  simpa [hc] using this
/-- What flowB says. -/
structure FlowOk (ops : Array Oper) (core : Nat → Bool) (sz : Nat) : Prop where
  back : ∀ k, k < ops.size → ∀ e ∈ waits ops k, e < k
  cl : ∀ k, k < ops.size → core k = true → ∀ e ∈ waits ops k, core e = true
  ssa : ∀ k j d, k < ops.size → core k = true → j < ops.size → core j = true → dstOf ops j = some d → d < sz ∧ (d ∈ looks ops k → depB ops k j = true) ∧ (j ≠ k → dstOf ops k ≠ some d)
  sel : ∀ k o cs b, ops[k]? = some o → core k = true → o.op ≠ .select cs b
  last : ∀ k j, k < ops.size → core k = false → j < ops.size → core j = true → depB ops k j = true ∨ pu ops j = true
theorem flow_ok {sz : Nat} (h : flowB ops core sz = true) : FlowOk ops core sz := by
  unfold flowB at h
  have h := fun k (hk : k < ops.size) => List.all_eq_true.1 h k (List.mem_range.2 hk)
  refine ⟨fun k hk e he => ?_, fun k hk hc e he => ?_, fun k j d hk hc hj hcj hd => ?_, fun k o cs b ho hc e => ?_, fun k j hk hc hj hcj => ?_⟩
  · have := h k hk
    rw [Bool.and_eq_true] at this
    simpa using List.all_eq_true.1 this.1 e he
  · have := h k hk
    rw [Bool.and_eq_true, if_pos hc, Bool.and_eq_true, Bool.and_eq_true] at this
    exact List.all_eq_true.1 this.2.1.1 e he
  · have := h k hk
    rw [Bool.and_eq_true, if_pos hc, Bool.and_eq_true, Bool.and_eq_true] at this
    have := List.all_eq_true.1 this.2.1.2 j (List.mem_range.2 hj)
    simp only [hcj, hd, Bool.not_true, Bool.false_or, Bool.and_eq_true, decide_eq_true_eq] at this
    obtain ⟨⟨h1, h2⟩, h3⟩ := this
    refine ⟨h1, fun hl => ?_, fun hne => ?_⟩
    · simpa [hl] using h2
    · simpa [hne] using h3
  · have hk : k < ops.size := (Array.getElem?_eq_some_iff.1 ho).1
    have := h k hk
    rw [Bool.and_eq_true, if_pos hc, Bool.and_eq_true, Bool.and_eq_true] at this
    have := this.2.2
    simp [ho, e] at this
  · have := h k hk
    rw [Bool.and_eq_true, if_neg (by simp [hc])] at this
    have := List.all_eq_true.1 this.2 j (List.mem_range.2 hj)
    simpa [hcj] using this
theorem writer_of {sz : Nat} (hok : FlowOk ops core sz) {t : Tmp} {j : Nat} (hj : j < ops.size) (hc : core j = true) (hd : dstOf ops j = some t) : writer ops core t = some j := by
  cases hw : writer ops core t with
  | none => exact absurd hd (writer_none hw j hj hc)
  | some i =>
    obtain ⟨h1, h2, h3⟩ := writer_spec hw
    by_cases e : i = j
    · rw [e]
    · exact absurd hd ((hok.ssa j i t hj hc h1 h2 h3).2.2 e)
theorem waitsAll_in {l : Nat → Prop} (hcl : ∀ k, l k → ∀ e ∈ waits ops k, l e) : ∀ (f k : Nat), (∀ e ∈ waits ops k, l e) → ∀ i ∈ waitsAll ops f k, l i
  | 0, k, hk, i, hi => by cases hi
  | f + 1, k, hk, i, hi => by
    rcases List.mem_append.1 hi with h | h
    · exact hk i h
    · obtain ⟨e, he, hi⟩ := List.mem_flatMap.1 h
      exact waitsAll_in hcl f e (hcl e (hk e he)) i hi
theorem waitsAll_lt {sz : Nat} (hok : FlowOk ops core sz) : ∀ (f k : Nat), k < ops.size → ∀ i ∈ waitsAll ops f k, i < k
  | 0, k, hk, i, hi => by cases hi
  | f + 1, k, hk, i, hi => by
    rcases List.mem_append.1 hi with h | h
    · exact hok.back k hk i h
    · obtain ⟨e, he, hi⟩ := List.mem_flatMap.1 h
      have h1 := hok.back k hk e he
      have h2 := waitsAll_lt hok f e (by omega) i hi
      omega
theorem dep_lt {sz : Nat} (hok : FlowOk ops core sz) {k i : Nat} (hk : k < ops.size) (h : depB ops k i = true) : i < k := waitsAll_lt hok _ k hk i (by simpa [depB] using h)
/-- A value that an operation k yields, which those do not see that do not wait for it. -/
theorem AV_upd {sz : Nat} (hok : FlowOk ops core sz) (a0 : Act) (vals vals' : Nat → Value) (e : Nat) (he : e < ops.size) (hce : core e = true) (hv : ∀ j, j < ops.size → core j = true → depB ops e j = true → vals' j = vals j) : ∀ t ∈ looks ops e, (AV ops core a0 vals').tmps[t]? = (AV ops core a0 vals).tmps[t]? := by
  intro t ht
  rw [AV_get, AV_get]
  congr 1
  unfold lookV
  cases hw : writer ops core t with
  | none => rfl
  | some j =>
    obtain ⟨h1, h2, h3⟩ := writer_spec hw
    simp only
    rw [hv j h1 h2 ((hok.ssa e j t he hce h1 h2 h3).2.1 ht)]
end
end Go.Proofs.Ytihngonemdaihaa
/- A region that draws its order, walked once in the order of the text: the walk and its soundness. -/
namespace Go.Proofs.Ytihngonemdaihaa
open Go.RowKit
set_option linter.unusedVariables false

section
variable (P : Program) (ops : Array Oper) (core ev : Nat → Bool) (C : World → Prop) (W : Nat → Act → Value → World → Prop) (R : World → World → Prop)
abbrev Fact := Nat × (World → Prop)
/-- The worlds in which operation k may come up: of the class, and all that it waits for has been told. -/
def cls (F : List Fact) (k : Nat) (w : World) : Prop := C w ∧ ∀ p ∈ F, depB ops k p.1 = true → p.2 w
/-- THE WALK in the order of the text. -/
def flowL (Fin : List Fact → Act → Prop) : List Nat → List Fact → Act → Prop
  | [], F, a => Fin F a
  | k :: ks, F, a => ∀ o, ops[k]? = some o →
    if Region.wanted o (yielded ops a.tmps) = true then
      (if ev k = true then (∀ w, cls ops C F k w → doesR P (fun v w' => W k a v w' ∧ C w' ∧ R w w') ((execOp a.eval o).run P w)) ∧ ∀ v, (∃ w, C w ∧ W k a v w) → flowL Fin ks ((k, W k a v) :: F) (a.put o.dst v)
       else ∃ v, (∀ w, cls ops C F k w → stillR w v ((execOp a.eval o).run P w)) ∧ (pu ops k = true → ∀ w, (execOp a.eval o).run P w = .ok (.value v) w) ∧ flowL Fin ks F (a.put o.dst v))
    else flowL Fin ks F (a.put o.dst undef)
/-- What is known in the midst of the region. -/
structure FInv (a0 : Act) (l : Array Bool) (vals : Nat → Value) (a : Act) (w : World) : Prop where
  hsz : l.size = ops.size
  sz : a.tmps.size = a0.tmps.size
  df : a.defers = a0.defers
  slot : ∀ t, (∀ j, j < ops.size → core j = true → l.getD j true = false → dstOf ops j ≠ some t) → a.tmps[t]? = (AV ops core a0 vals).tmps[t]?
  c : C w
  fact : ∀ k o, core k = true → l.getD k true = true → ops[k]? = some o → Region.wanted o (yielded ops (AV ops core a0 vals).tmps) = true → ev k = true → W k (AV ops core a0 vals) (vals k) w
  still : ∀ k o, core k = true → l.getD k true = true → ops[k]? = some o → Region.wanted o (yielded ops (AV ops core a0 vals).tmps) = true → ev k = false →
    ∃ wk, C wk ∧ (∀ e oe, core e = true → ops[e]? = some oe → Region.wanted oe (yielded ops (AV ops core a0 vals).tmps) = true → ev e = true → depB ops k e = true → W e (AV ops core a0 vals) (vals e) wk) ∧ stillR wk (vals k) ((execOp (AV ops core a0 vals).eval o).run P wk)
  skip : ∀ k o, core k = true → l.getD k true = true → ops[k]? = some o → Region.wanted o (yielded ops (AV ops core a0 vals).tmps) = false → vals k = undef
  closed : ∀ k, k < ops.size → l.getD k true = true → ∀ e ∈ waits ops k, l.getD e true = true
  tail : ∀ k, k < ops.size → core k = false → l.getD k true = false
/-- The walk has come to the operations suf. -/
structure FAt (a0 : Act) (l : Array Bool) (vals : Nat → Value) (w : World) (suf : List Nat) (vals' : Nat → Value) (w' : World) (F : List Fact) (A : Act) : Prop where
  same : ∀ k, core k = true → k < ops.size → l.getD k true = true → vals' k = vals k
  c : C w'
  sz : A.tmps.size = a0.tmps.size
  df : A.defers = a0.defers
  slot : ∀ t, (∀ j ∈ suf, dstOf ops j ≠ some t) → A.tmps[t]? = (AV ops core a0 vals').tmps[t]?
  now : ∀ p ∈ F, p.2 w'
  form : ∀ p ∈ F, ∃ o Ae, p.1 < ops.size ∧ core p.1 = true ∧ p.1 ∉ suf ∧ ops[p.1]? = some o ∧ ev p.1 = true ∧ Region.wanted o (yielded ops (AV ops core a0 vals').tmps) = true ∧ (∀ t ∈ looks ops p.1, Ae.tmps[t]? = (AV ops core a0 vals').tmps[t]?) ∧ p.2 = W p.1 Ae (vals' p.1)
end
section
variable {P : Program} {ops : Array Oper} {core ev : Nat → Bool} {C : World → Prop} {W : Nat → Act → Value → World → Prop}
theorem listed_cl {l : Array Bool} (hcl : ∀ k, k < ops.size → l.getD k true = true → ∀ e ∈ waits ops k, l.getD e true = true) {sz : Nat} (hok : FlowOk ops core sz) {k i : Nat} (hk : k < ops.size) (hw : ∀ e ∈ waits ops k, l.getD e true = true) (h : depB ops k i = true) : l.getD i true = true := by
  have h1 := waitsAll_in (ops := ops) (l := fun k => k < ops.size ∧ l.getD k true = true) (fun k hk e he => ⟨by have := hok.back k hk.1 e he; omega, hcl k hk.1 hk.2 e he⟩) ops.size k (fun e he => ⟨by have := hok.back k hk e he; omega, hw e he⟩) i (by simpa [depB] using h)
  exact h1.2
/-- The slots that an operation looks at, behind the walk's beginning up to it. -/
theorem at_looks {a0 A : Act} {vals' : Nat → Value} {sz : Nat} (hok : FlowOk ops core sz) {k : Nat} {ks : List Nat} (hk : k < ops.size) (hc : core k = true) (hsuf : ∀ j ∈ k :: ks, k ≤ j ∧ j < ops.size ∧ core j = true)
    (hslot : ∀ t, (∀ j ∈ k :: ks, dstOf ops j ≠ some t) → A.tmps[t]? = (AV ops core a0 vals').tmps[t]?) : ∀ t ∈ looks ops k, A.tmps[t]? = (AV ops core a0 vals').tmps[t]? := fun t ht => hslot t fun j hj e => by
  obtain ⟨h1, h2, h3⟩ := hsuf j hj
  have := dep_lt hok hk ((hok.ssa k j t hk hc h2 h3 e).2.1 ht)
  omega
/-- One value more. -/
def updV (vals : Nat → Value) (k : Nat) (v : Value) : Nat → Value := fun i => if i = k then v else vals i
theorem updV_self (vals : Nat → Value) (k : Nat) (v : Value) : updV vals k v k = v := by simp [updV]
theorem updV_ne (vals : Nat → Value) {k i : Nat} (v : Value) (h : i ≠ k) : updV vals k v i = vals i := by simp [updV, h]
theorem put_slot {a0 A : Act} {vals' : Nat → Value} {sz : Nat} (hok : FlowOk ops core sz) (hsz : sz = a0.tmps.size) (hA : A.tmps.size = a0.tmps.size) {k : Nat} {ks : List Nat} {o : Oper} (ho : ops[k]? = some o) (hc : core k = true) (hks : ∀ j ∈ ks, j ≠ k) (v : Value)
    (hslot : ∀ t, (∀ j ∈ k :: ks, dstOf ops j ≠ some t) → A.tmps[t]? = (AV ops core a0 vals').tmps[t]?) : ∀ t, (∀ j ∈ ks, dstOf ops j ≠ some t) → (A.put o.dst v).tmps[t]? = (AV ops core a0 (updV vals' k v)).tmps[t]? := by
  intro t ht
  have hk : k < ops.size := (Array.getElem?_eq_some_iff.1 ho).1
  have hdst : dstOf ops k = o.dst := by simp [dstOf, ho]
  by_cases hd : o.dst = some t
  · have h1 := hok.ssa k k t hk hc hk hc (hdst.trans hd)
    rw [AV_get, if_pos (by rw [← hsz]; exact h1.1), hd]
    have hw := writer_of hok hk hc (hdst.trans hd)
    simp [Act.put, lookV, hw, updV, hA, ← hsz, h1.1]
  · have e : (A.put o.dst v).tmps[t]? = A.tmps[t]? := by
      cases hx : o.dst with
      | none => rfl
      | some d =>
        have hne : d ≠ t := fun e => hd (by rw [hx, e])
        simp [Act.put, Array.getElem?_setIfInBounds_ne hne]
    rw [e, hslot t (fun j hj => by
      rcases List.mem_cons.1 hj with rfl | hj
      · rw [hdst]; exact hd
      · exact ht j hj), AV_get, AV_get]
    congr 1
    unfold lookV
    cases hw : writer ops core t with
    | none => rfl
    | some j =>
      have hjk : j ≠ k := fun e => by
        have := (writer_spec hw).2.2
        rw [e, hdst] at this
        exact hd this
      simp [updV, hjk]
end
end Go.Proofs.Ytihngonemdaihaa
/- A region that draws its order, walked once: from what is known in its midst the walk comes to every operation. -/
namespace Go.Proofs.Ytihngonemdaihaa
open Go.RowKit
set_option linter.unusedVariables false

section
variable {P : Program} {ops : Array Oper} {core ev : Nat → Bool} {C : World → Prop} {W : Nat → Act → Value → World → Prop} {R : World → World → Prop}
/-- What the class and what is told are asked. -/
structure FStay (ops : Array Oper) (C : World → Prop) (W : Nat → Act → Value → World → Prop) (R : World → World → Prop) : Prop where
  r0 : ∀ w, R w w
  r2 : ∀ a b c, R a b → R b c → R a c
  c : ∀ w w', C w → R w w' → C w'
  w : ∀ k a v w w', W k a v w → R w w' → W k a v w'
  a : ∀ k a b v w, (∀ t ∈ looks ops k, a.tmps[t]? = b.tmps[t]?) → W k a v w → W k b v w
theorem core_sorted {pre suf : List Nat} {k : Nat} (h : (List.range ops.size).filter core = pre ++ k :: suf) : k < ops.size ∧ core k = true ∧ (∀ j ∈ pre, j < k ∧ j < ops.size ∧ core j = true) ∧ (∀ j ∈ suf, k < j ∧ j < ops.size ∧ core j = true) := by
  have hm : ∀ j, j ∈ pre ++ k :: suf → j < ops.size ∧ core j = true := fun j hj => by
    rw [← h] at hj; simpa using hj
  have hp : (pre ++ k :: suf).Pairwise (· < ·) := by
    rw [← h]; exact List.Pairwise.filter _ List.pairwise_lt_range
  rw [List.pairwise_append] at hp
  obtain ⟨h1, h2, h3⟩ := hp
  refine ⟨(hm k (by simp)).1, (hm k (by simp)).2, fun j hj => ⟨h3 j hj k (by simp), (hm j (by simp [hj])).1, (hm j (by simp [hj])).2⟩, fun j hj => ⟨(List.pairwise_cons.1 h2).1 j hj, (hm j (by simp [hj])).1, (hm j (by simp [hj])).2⟩⟩

theorem flow_next {sz : Nat} (hok : FlowOk ops core sz) (hst : FStay ops C W R) {a0 : Act} (hsz : sz = a0.tmps.size) {l : Array Bool} {vals : Nat → Value} {w : World} {pre suf : List Nat} {k : Nat} {o : Oper} (hl : (List.range ops.size).filter core = pre ++ k :: suf) (ho : ops[k]? = some o)
    {vals' : Nat → Value} {w' w'' : World} {F F' : List Fact} {A : Act} (h : FAt ops core ev C W a0 l vals w (k :: suf) vals' w' F A) (v : Value) (hv : l.getD k true = true → v = vals k) (hb : R w' w'') (hc : C w'')
    (hF : F' = F ∨ F' = (k, W k A v) :: F ∧ ev k = true ∧ Region.wanted o (yielded ops A.tmps) = true ∧ W k A v w'') : FAt ops core ev C W a0 l vals w suf (updV vals' k v) w'' F' (A.put o.dst v) := by
  obtain ⟨hk, hck, hpre, hsuf⟩ := core_sorted hl
  have hlk := at_looks hok hk hck (fun j hj => by
    rcases List.mem_cons.1 hj with rfl | hj
    · exact ⟨Nat.le_refl _, hk, hck⟩
    · exact ⟨Nat.le_of_lt (hsuf j hj).1, (hsuf j hj).2⟩) h.slot
  have hup : ∀ e, e < ops.size → core e = true → e ≤ k → ∀ t ∈ looks ops e, (AV ops core a0 (updV vals' k v)).tmps[t]? = (AV ops core a0 vals').tmps[t]? := fun e he hce hek => AV_upd hok a0 vals' _ e he hce fun j hj hcj hd => updV_ne _ _ (by have := dep_lt hok he hd; omega)
  have hold : ∀ p ∈ F, ∃ o Ae, p.1 < ops.size ∧ core p.1 = true ∧ p.1 ∉ suf ∧ ops[p.1]? = some o ∧ ev p.1 = true ∧ Region.wanted o (yielded ops (AV ops core a0 (updV vals' k v)).tmps) = true ∧ (∀ t ∈ looks ops p.1, Ae.tmps[t]? = (AV ops core a0 (updV vals' k v)).tmps[t]?) ∧ p.2 = W p.1 Ae (updV vals' k v p.1) := fun p hp => by
    obtain ⟨o', Ae, h1, h2, h3, h4, h5, h6, h7, h8⟩ := h.form p hp
    have hin : p.1 ∈ pre ++ k :: suf := by rw [← hl]; simp [h1, h2]
    have hpk : p.1 < k := by
      rcases List.mem_append.1 hin with hin | hin
      · exact (hpre _ hin).1
      · exact absurd hin h3
    have hu := hup p.1 h1 h2 (Nat.le_of_lt hpk)
    refine ⟨o', Ae, h1, h2, fun hm => h3 (by simp [hm]), h4, h5, ?_, fun t ht => (h7 t ht).trans (hu t ht).symm, by rw [updV_ne _ _ (by omega)]; exact h8⟩
    rw [agree_wanted h4 hu]; exact h6
  refine ⟨fun i hci hi hli => ?_, hc, ?_, ?_, put_slot hok hsz h.sz ho hck (fun j hj => by have := (hsuf j hj).1; omega) v h.slot, ?_, ?_⟩
  · by_cases e : i = k
    · subst e; rw [updV_self]; exact hv hli
    · rw [updV_ne _ _ e]; exact h.same i hci hi hli
  · cases hd : o.dst with
    | none => exact h.sz
    | some d => simp [Act.put, h.sz]
  · cases hd : o.dst with
    | none => exact h.df
    | some d => simp [Act.put, h.df]
  · intro p hp
    have hn : ∀ p ∈ F, p.2 w'' := fun p hp => by
      obtain ⟨o', Ae, _, _, _, _, _, _, _, h8⟩ := h.form p hp
      have := h.now p hp
      rw [h8] at this ⊢
      exact hst.w _ _ _ _ _ this hb
    rcases hF with rfl | ⟨rfl, _, _, h4⟩
    · exact hn p hp
    · rcases List.mem_cons.1 hp with rfl | hp
      · exact h4
      · exact hn p hp
  · intro p hp
    rcases hF with rfl | ⟨rfl, h2, h3, h4⟩
    · exact hold p hp
    · rcases List.mem_cons.1 hp with rfl | hp
      · refine ⟨o, A, hk, hck, fun hm => absurd (hsuf k hm).1 (Nat.lt_irrefl _), ho, h2, ?_, fun t ht => (hlk t ht).trans (hup k hk hck (Nat.le_refl _) t ht).symm, by rw [updV_self]⟩
        rw [← agree_wanted ho (fun t ht => (hlk t ht).trans (hup k hk hck (Nat.le_refl _) t ht).symm)]; exact h3
      · exact hold p hp
end
end Go.Proofs.Ytihngonemdaihaa
/- A region that draws its order, walked once in the order of the text: the theorem. -/
namespace Go.Proofs.Ytihngonemdaihaa
open Go.RowKit
set_option linter.unusedVariables false

section
variable {P : Program} {ops : Array Oper} {core ev : Nat → Bool} {C : World → Prop} {W : Nat → Act → Value → World → Prop} {R : World → World → Prop}
/-- The walk comes to every operation, whatever has come up already. -/
theorem flow_walk {sz : Nat} (hok : FlowOk ops core sz) (hst : FStay ops C W R) {a0 : Act} (hsz : sz = a0.tmps.size) {l : Array Bool} {vals : Nat → Value} {a : Act} {w : World} (hI : FInv P ops core ev C W a0 l vals a w) {Fin : List Fact → Act → Prop}
    (hfl : flowL P ops ev C W R Fin ((List.range ops.size).filter core) [] a0) : ∀ (m : Nat) (pre suf : List Nat), pre.length = m → (List.range ops.size).filter core = pre ++ suf → ∃ vals' w' F A, FAt ops core ev C W a0 l vals w suf vals' w' F A ∧ flowL P ops ev C W R Fin suf F A ∧ R w w'
  | 0, pre, suf, hm, hl => by
    obtain rfl := List.eq_nil_of_length_eq_zero hm
    rw [List.nil_append] at hl
    refine ⟨vals, w, [], a0, ⟨fun _ _ _ _ => rfl, hI.c, rfl, rfl, fun t ht => ?_, fun p hp => (by cases hp), fun p hp => (by cases hp)⟩, by rw [← hl]; exact hfl, hst.r0 _⟩
    rw [AV_get]
    have hw : writer ops core t = none := by
      cases hw : writer ops core t with
      | none => rfl
      | some j =>
        obtain ⟨h1, h2, h3⟩ := writer_spec hw
        exact absurd h3 (ht j (by rw [← hl]; simp [h1, h2]))
    by_cases h : t < a0.tmps.size
    · rw [if_pos h]; simp [lookV, hw, h]
    · rw [if_neg h]; exact Array.getElem?_eq_none (Nat.le_of_not_lt h)
  | m + 1, pre, suf, hm, hl => by
    obtain ⟨p, k, rfl⟩ : ∃ p k, pre = p ++ [k] := ⟨pre.dropLast, pre.getLast (by intro e; rw [e] at hm; cases hm), (List.dropLast_concat_getLast _).symm⟩
    have hl' : (List.range ops.size).filter core = p ++ k :: suf := by rw [hl]; simp
    obtain ⟨vals', w', F, A, hat, hf, hb⟩ := flow_walk hok hst hsz hI hfl m p (k :: suf) (by simpa using hm) hl'
    obtain ⟨hk, hck, hpre, hsuf⟩ := core_sorted hl'
    obtain ⟨o, ho⟩ : ∃ o, ops[k]? = some o := ⟨ops[k], by simp [hk]⟩
    have hf := hf o ho
    have hlk := at_looks hok hk hck (fun j hj => by
      rcases List.mem_cons.1 hj with rfl | hj
      · exact ⟨Nat.le_refl _, hk, hck⟩
      · exact ⟨Nat.le_of_lt (hsuf j hj).1, (hsuf j hj).2⟩) hat.slot
    -- what the values at hand and those in the midst have in common
    have hsm : ∀ e, e < ops.size → core e = true → l.getD e true = true → ∀ t ∈ looks ops e, (AV ops core a0 vals').tmps[t]? = (AV ops core a0 vals).tmps[t]? := fun e he hce hle => AV_upd hok a0 vals vals' e he hce fun j hj hcj hd => hat.same j hcj hj (listed_cl hI.closed hok he (hI.closed e he hle) hd)
    by_cases hw : Region.wanted o (yielded ops A.tmps) = true
    · rw [if_pos hw] at hf
      by_cases he : ev k = true
      · rw [if_pos he] at hf
        obtain ⟨h1, h2⟩ := hf
        by_cases hlk2 : l.getD k true = true
        · have hAk : ∀ t ∈ looks ops k, A.tmps[t]? = (AV ops core a0 vals).tmps[t]? := fun t ht => (hlk t ht).trans (hsm k hk hck hlk2 t ht)
          have hwk : W k A (vals k) w' := hst.w _ _ _ _ _ (hst.a k _ _ _ _ (fun t ht => (hAk t ht).symm) (hI.fact k o hck hlk2 ho (by rw [← agree_wanted ho hAk]; exact hw) he)) hb
          exact ⟨_, w', _, _, flow_next hok hst hsz hl' ho hat (vals k) (fun _ => rfl) (hst.r0 _) hat.c (.inr ⟨rfl, he, hw, hwk⟩), h2 _ ⟨w', hat.c, hwk⟩, hb⟩
        · obtain ⟨v, w2, h3, h4, h5⟩ := (h1 w' ⟨hat.c, fun p hp _ => hat.now p hp⟩).some
          exact ⟨_, w2, _, _, flow_next hok hst hsz hl' ho hat v (fun h => absurd h hlk2) h5 h4 (.inr ⟨rfl, he, hw, h3⟩), h2 _ ⟨w2, h4, h3⟩, hst.r2 _ _ _ hb h5⟩
      · rw [if_neg he] at hf
        obtain ⟨v, h1, _, h2⟩ := hf
        refine ⟨_, w', F, _, flow_next hok hst hsz hl' ho hat v (fun hlk2 => ?_) (hst.r0 _) hat.c (.inl rfl), h2, hb⟩
        have hAk : ∀ t ∈ looks ops k, A.tmps[t]? = (AV ops core a0 vals).tmps[t]? := fun t ht => (hlk t ht).trans (hsm k hk hck hlk2 t ht)
        obtain ⟨wk, hc, hfk, hs⟩ := hI.still k o hck hlk2 ho (by rw [← agree_wanted ho hAk]; exact hw) (by simpa using he)
        have h3 := h1 wk ⟨hc, fun q hq hd => by
          obtain ⟨o', Ae, g1, g2, g3, g4, g5, g6, g7, g8⟩ := hat.form q hq
          have hlq := listed_cl hI.closed hok hk (hI.closed k hk hlk2) hd
          have hAq := hsm q.1 g1 g2 hlq
          rw [g8, hat.same q.1 g2 g1 hlq]
          exact hst.a _ _ _ _ _ (fun t ht => ((g7 t ht).trans (hAq t ht)).symm) (hfk q.1 o' g2 g4 (by rw [← agree_wanted g4 hAq]; exact g6) g5 hd)⟩
        rw [agree_exec ho (fun cs b => hok.sel k o cs b ho hck) hAk] at h3
        exact h3.one hs
    · rw [if_neg hw] at hf
      refine ⟨_, w', F, _, flow_next hok hst hsz hl' ho hat undef (fun hlk2 => ?_) (hst.r0 _) hat.c (.inl rfl), hf, hb⟩
      have hAk : ∀ t ∈ looks ops k, A.tmps[t]? = (AV ops core a0 vals).tmps[t]? := fun t ht => (hlk t ht).trans (hsm k hk hck hlk2 t ht)
      exact (hI.skip k o hck hlk2 ho (by rw [← agree_wanted ho hAk]; simpa using hw)).symm
end
end Go.Proofs.Ytihngonemdaihaa
/- A region that draws its order, walked once in the order of the text: one operation more; the theorem. -/
namespace Go.Proofs.Ytihngonemdaihaa
open Go.RowKit
set_option linter.unusedVariables false

section
variable {P : Program} {ops : Array Oper} {core ev : Nat → Bool} {C : World → Prop} {W : Nat → Act → Value → World → Prop} {R : World → World → Prop}
theorem getD_set_self {l : Array Bool} {i n : Nat} (hi : i < n) (hl : l.size = n) : (l.setIfInBounds i true).getD i true = true := by
  simp [hl, hi]
theorem getD_set_other {l : Array Bool} {i k : Nat} (h : k ≠ i) : (l.setIfInBounds i true).getD k true = l.getD k true := by
  simp [Array.getElem?_setIfInBounds_ne (Ne.symm h)]
theorem flow_step {sz : Nat} (hok : FlowOk ops core sz) (hst : FStay ops C W R) {a0 : Act} (hsz : sz = a0.tmps.size) {l : Array Bool} {vals : Nat → Value} {a : Act} {w w' : World} (hI : FInv P ops core ev C W a0 l vals a w) {i : Nat} {o : Oper} (ho : ops[i]? = some o) (hci : core i = true) (hun : l.getD i true = false)
    (hdep : ∀ e ∈ waits ops i, l.getD e true = true) (v : Value) (hb : R w w') (hc : C w')
    (hev : Region.wanted o (yielded ops (AV ops core a0 vals).tmps) = true → ev i = true → W i (AV ops core a0 vals) v w')
    (hsv : Region.wanted o (yielded ops (AV ops core a0 vals).tmps) = true → ev i = false → stillR w v ((execOp (AV ops core a0 vals).eval o).run P w))
    (hnw : Region.wanted o (yielded ops (AV ops core a0 vals).tmps) = false → v = undef) : FInv P ops core ev C W a0 (l.setIfInBounds i true) (updV vals i v) (a.put o.dst v) w' := by
  have hi : i < ops.size := (Array.getElem?_eq_some_iff.1 ho).1
  have hdst : dstOf ops i = o.dst := by simp [dstOf, ho]
  have hdl : ∀ j, depB ops i j = true → l.getD j true = true := fun j hj => listed_cl hI.closed hok hi hdep hj
  -- those that are listed, and i itself, see no difference
  have hup : ∀ e, e < ops.size → core e = true → (l.getD e true = true ∨ e = i) → ∀ t ∈ looks ops e, (AV ops core a0 (updV vals i v)).tmps[t]? = (AV ops core a0 vals).tmps[t]? := fun e he hce hle => AV_upd hok a0 vals _ e he hce fun j hj hcj hd => updV_ne _ _ fun hji => by
    subst hji
    have : l.getD j true = true := by
      rcases hle with h | rfl
      · exact listed_cl hI.closed hok he (hI.closed e he h) hd
      · exact hdl _ hd
    rw [hun] at this; cases this
  have hcase : ∀ k, (l.setIfInBounds i true).getD k true = true → k = i ∨ l.getD k true = true := fun k hk => by
    by_cases e : k = i
    · exact .inl e
    · rw [getD_set_other e] at hk; exact .inr hk
  have hne : ∀ k, l.getD k true = true → k ≠ i := fun k hk e => by rw [e, hun] at hk; cases hk
  have hsize : ∀ {k o'}, ops[k]? = some o' → k < ops.size := fun h => (Array.getElem?_eq_some_iff.1 h).1
  refine ⟨by simp [hI.hsz], ?_, ?_, ?_, hc, ?_, ?_, ?_, ?_, ?_⟩
  · cases hd : o.dst with
    | none => exact hI.sz
    | some d => simp [Act.put, hI.sz]
  · cases hd : o.dst with
    | none => exact hI.df
    | some d => simp [Act.put, hI.df]
  · intro t ht
    by_cases hd : o.dst = some t
    · have h1 := hok.ssa i i t hi hci hi hci (hdst.trans hd)
      rw [AV_get, if_pos (by rw [← hsz]; exact h1.1), hd]
      have hw := writer_of hok hi hci (hdst.trans hd)
      simp [Act.put, lookV, hw, updV, hI.sz, ← hsz, h1.1]
    · have e : (a.put o.dst v).tmps[t]? = a.tmps[t]? := by
        cases hx : o.dst with
        | none => rfl
        | some d =>
          have hne : d ≠ t := fun e => hd (by rw [hx, e])
          simp [Act.put, Array.getElem?_setIfInBounds_ne hne]
      rw [e, hI.slot t (fun j hj hcj hlj => by
        by_cases e : j = i
        · rw [e, hdst]; exact hd
        · exact ht j hj hcj (by rw [getD_set_other e]; exact hlj)), AV_get, AV_get]
      congr 1
      unfold lookV
      cases hw : writer ops core t with
      | none => rfl
      | some j =>
        have hjk : j ≠ i := fun e => by
          have := (writer_spec hw).2.2
          rw [e, hdst] at this
          exact hd this
        simp [updV, hjk]
  · intro k o' hck hlk ho' hw he
    rcases hcase k hlk with rfl | hlk
    · obtain rfl : o = o' := Option.some.inj (ho.symm.trans ho')
      have hu := hup k hi hci (.inr rfl)
      rw [updV_self]
      exact hst.a k _ _ _ _ (fun t ht => (hu t ht).symm) (hev (by rw [← agree_wanted ho hu]; exact hw) he)
    · have hu := hup k (hsize ho') hck (.inl hlk)
      rw [updV_ne _ _ (hne k hlk)]
      exact hst.a k _ _ _ _ (fun t ht => (hu t ht).symm) (hst.w _ _ _ _ _ (hI.fact k o' hck hlk ho' (by rw [← agree_wanted ho' hu]; exact hw) he) hb)
  · intro k o' hck hlk ho' hw he
    have hfe : ∀ e, e < ops.size → core e = true → l.getD e true = true → ∀ wk, W e (AV ops core a0 vals) (vals e) wk → W e (AV ops core a0 (updV vals i v)) (updV vals i v e) wk := fun e hes hce hle wk h => by
      rw [updV_ne _ _ (hne e hle)]
      exact hst.a e _ _ _ _ (fun t ht => (hup e hes hce (.inl hle) t ht).symm) h
    rcases hcase k hlk with rfl | hlk
    · obtain rfl : o = o' := Option.some.inj (ho.symm.trans ho')
      have hu := hup k hi hci (.inr rfl)
      refine ⟨w, hI.c, fun e oe hce hoe hwe hee hd => ?_, ?_⟩
      · have hle := hdl e hd
        have hue := hup e (hsize hoe) hce (.inl hle)
        exact hfe e (hsize hoe) hce hle w (hI.fact e oe hce hle hoe (by rw [← agree_wanted hoe hue]; exact hwe) hee)
      · rw [updV_self, agree_exec ho (fun cs b => hok.sel k o cs b ho hci) hu]
        exact hsv (by rw [← agree_wanted ho hu]; exact hw) he
    · have hks := hsize ho'
      have hu := hup k hks hck (.inl hlk)
      obtain ⟨wk, h1, h2, h3⟩ := hI.still k o' hck hlk ho' (by rw [← agree_wanted ho' hu]; exact hw) he
      refine ⟨wk, h1, fun e oe hce hoe hwe hee hd => ?_, ?_⟩
      · have hle := listed_cl hI.closed hok hks (hI.closed k hks hlk) hd
        have hue := hup e (hsize hoe) hce (.inl hle)
        exact hfe e (hsize hoe) hce hle wk (h2 e oe hce hoe (by rw [← agree_wanted hoe hue]; exact hwe) hee hd)
      · rw [updV_ne _ _ (hne k hlk), agree_exec ho' (fun cs b => hok.sel k o' cs b ho' hck) hu]
        exact h3
  · intro k o' hck hlk ho' hw
    rcases hcase k hlk with rfl | hlk
    · obtain rfl : o = o' := Option.some.inj (ho.symm.trans ho')
      rw [updV_self]
      exact hnw (by rw [← agree_wanted ho (hup k hi hci (.inr rfl))]; exact hw)
    · rw [updV_ne _ _ (hne k hlk)]
      exact hI.skip k o' hck hlk ho' (by rw [← agree_wanted ho' (hup k (hsize ho') hck (.inl hlk))]; exact hw)
  · intro k hk hlk e he
    have h1 : l.getD e true = true := by
      rcases hcase k hlk with rfl | hlk
      · exact hdep e he
      · exact hI.closed k hk hlk e he
    rw [getD_set_other (hne e h1)]; exact h1
  · intro k hk hck
    have hki : k ≠ i := fun e => by rw [e, hci] at hck; cases hck
    rw [getD_set_other hki]; exact hI.tail k hk hck
end
end Go.Proofs.Ytihngonemdaihaa
/- A region that draws its order, walked once in the order of the text: whatever order is drawn. -/
namespace Go.Proofs.Ytihngonemdaihaa
open Go.RowKit
set_option linter.unusedVariables false

section
variable {P : Program} {ops : Array Oper} {core ev : Nat → Bool} {C : World → Prop} {W : Nat → Act → Value → World → Prop} {R : World → World → Prop} {Q : Exit → Act → World → Prop}
def coreL (ops : Array Oper) (core : Nat → Bool) : List Nat := (List.range ops.size).filter core
/-- What stands behind the core. -/
def flowFin (P : Program) (ops : Array Oper) (core : Nat → Bool) (C : World → Prop) (Q : Exit → Act → World → Prop) (F : List Fact) (a : Act) : Prop :=
  ∀ w, C w → (∀ p ∈ F, p.2 w) → wpAny P .any ops Q (ops.size - (coreL ops core).length) ((List.range ops.size).map core).toArray a w
/-- How many of the core have not come up. -/
def left_ (ops : Array Oper) (core : Nat → Bool) (l : Array Bool) : Nat := ((coreL ops core).filter fun k => !l.getD k true).length
theorem left_zero {l : Array Bool} (h : left_ ops core l = 0) : ∀ k, k < ops.size → core k = true → l.getD k true = true := fun k hk hc => by
  unfold left_ at h
  have h1 := List.eq_nil_of_length_eq_zero h
  rw [List.filter_eq_nil_iff] at h1
  have := h1 k (by simp [coreL, hk, hc])
  simpa using this
theorem nodup_coreL : (coreL ops core).Nodup := List.Pairwise.filter _ List.nodup_range
theorem left_succ {l : Array Bool} (hsz : l.size = ops.size) {i : Nat} (hi : i < ops.size) (hc : core i = true) (hun : l.getD i true = false) : left_ ops core (l.setIfInBounds i true) + 1 = left_ ops core l := by
  unfold left_
  have hm : i ∈ coreL ops core := by simp [coreL, hi, hc]
  have key : ∀ (L : List Nat), L.Nodup → i ∈ L → (L.filter fun k => !(l.setIfInBounds i true).getD k true).length + 1 = (L.filter fun k => !l.getD k true).length := by
    intro L
    induction L with
    | nil => intro _ h; cases h
    | cons k L ih =>
      intro hnd hmem
      rw [List.nodup_cons] at hnd
      by_cases e : k = i
      · subst e
        have h1 : (L.filter fun j => !(l.setIfInBounds k true).getD j true) = L.filter fun j => !l.getD j true := List.filter_congr fun j hj => by
          have hjk : j ≠ k := fun e => hnd.1 (by rw [← e]; exact hj)
          rw [getD_set_other hjk]
        rw [List.filter_cons, List.filter_cons, h1]
        simp only [getD_set_self hi hsz, hun, Bool.not_true, Bool.not_false, Bool.false_eq_true, if_false, if_true, List.length_cons]
      · have hmem : i ∈ L := by
          rcases List.mem_cons.1 hmem with h | h
          · exact absurd h.symm e
          · exact h
        have := ih hnd.2 hmem
        rw [List.filter_cons, List.filter_cons, getD_set_other e]
        split
        · simp only [List.length_cons]; omega
        · exact this
  exact key _ nodup_coreL hm
theorem waits_ready {l : Array Bool} {i : Nat} {o : Oper} (ho : ops[i]? = some o) : (∀ e ∈ o.after, Region.binds .any e = true → l.getD e.on false = true) → ∀ e ∈ waits ops i, l.getD e true = true := by
  intro h e he
  unfold waits at he
  rw [ho] at he
  simp only [List.mem_map, List.mem_filter] at he
  obtain ⟨x, ⟨hx, hb⟩, rfl⟩ := he
  have h1 := h x (by simpa using hx) hb
  rcases Nat.lt_or_ge x.on l.size with hlt | hge
  · simp [hlt] at h1 ⊢; exact h1
  · simp [Array.getElem?_eq_none hge] at h1
theorem ready_waits {l : Array Bool} (hsz : l.size = ops.size) {i : Nat} {o : Oper} (ho : ops[i]? = some o) (hb : ∀ e ∈ waits ops i, e < ops.size ∧ l.getD e true = true) (hun : l.getD i true = false) : i ∈ Region.ready .any ops l := by
  rw [mem_ready]
  refine ⟨hun, o, ho, fun e he hbi => ?_⟩
  have hm : e.on ∈ waits ops i := by
    unfold waits
    rw [ho]
    simp only [List.mem_map, List.mem_filter]
    exact ⟨e, ⟨by simpa using he, hbi⟩, rfl⟩
  obtain ⟨h1, h2⟩ := hb _ hm
  simp [hsz, h1] at h2 ⊢
  exact h2

theorem pure_ok (h : pureB ops core ev = true) : (∀ (j : Nat) (o : Oper) cs b, ops[j]? = some o → o.op ≠ .select cs b) ∧ ∀ j, j < ops.size → core j = true → pu ops j = true → ev j = false ∧ ∀ i oi oj, ops[i]? = some oi → ops[j]? = some oj → i ≠ j → j ∉ waits ops i → depB ops j i = false → oj.apart ops oi = true := by
  unfold pureB at h
  rw [Bool.and_eq_true] at h
  refine ⟨Region.noSelect_spec h.1, fun j hj hc hp => ?_⟩
  have := List.all_eq_true.1 h.2 j (List.mem_range.2 hj)
  simp only [hc, hp, Bool.and_self, Bool.not_true, Bool.false_or, Bool.and_eq_true] at this
  refine ⟨by simpa using this.1, fun i oi oj hi hoj hne hw hdp => ?_⟩
  have h2 := List.all_eq_true.1 this.2 i (List.mem_range.2 (Array.getElem?_eq_some_iff.1 hi).1)
  have h3 : (i == j) = false := by simpa using hne
  simpa [h3, hw, hi, hoj, hdp] using h2

theorem flow_all {sz : Nat} (hok : FlowOk ops core sz) (hpu : pureB ops core ev = true) (hQ : ∀ c a d v w, Q (.panic c) (a.put (some d) v) w → Q (.panic c) a w) (hst : FStay ops C W R) {a0 : Act} (hsz : sz = a0.tmps.size) (hfl : flowL P ops ev C W R (flowFin P ops core C Q) (coreL ops core) [] a0) :
    ∀ (n : Nat) (l : Array Bool) (vals : Nat → Value) (a : Act) (w : World), left_ ops core l = n → FInv P ops core ev C W a0 l vals a w → wpAny P .any ops Q (ops.size - (coreL ops core).length + n) l a w
  | 0, l, vals, a, w, hn, hI => by
    have hall := left_zero hn
    obtain ⟨vals', w', F, A, hat, hf, hb⟩ := flow_walk hok hst hsz hI hfl _ (coreL ops core) [] rfl (by rw [List.append_nil]; rfl)
    have hv : ∀ t, (AV ops core a0 vals').tmps[t]? = (AV ops core a0 vals).tmps[t]? := fun t => by
      rw [AV_get, AV_get]
      congr 1
      unfold lookV
      cases hw : writer ops core t with
      | none => rfl
      | some j =>
        obtain ⟨h1, h2, _⟩ := writer_spec hw
        simp only
        rw [hat.same j h2 h1 (hall j h1 h2)]
    have hA : A = a := by
      have h1 : A.tmps = a.tmps := Array.ext_getElem? fun t => by
        rw [hat.slot t (fun j hj => by cases hj), hv t, hI.slot t (fun j hj hc hl => by rw [hall j hj hc] at hl; cases hl)]
      have h2 : A.defers = a.defers := hat.df.trans hI.df.symm
      cases A; cases a; simp only at h1 h2; rw [h1, h2]
    have hl : l = ((List.range ops.size).map core).toArray := by
      apply Array.ext_getElem?
      intro k
      by_cases hk : k < ops.size
      · have h1 : l.getD k true = core k := by
          cases hc : core k with
          | true => exact hall k hk hc
          | false => exact hI.tail k hk hc
        have h2 : k < l.size := by rw [hI.hsz]; exact hk
        simp [h2] at h1
        simp [h2, hk, h1]
      · rw [Array.getElem?_eq_none (by rw [hI.hsz]; omega), Array.getElem?_eq_none (by simp; omega)]
    rw [hA] at hf
    rw [hl]
    refine hf w hI.c fun p hp => ?_
    obtain ⟨o', Ae, g1, g2, g3, g4, g5, g6, g7, g8⟩ := hat.form p hp
    rw [g8, hat.same p.1 g2 g1 (hall _ g1 g2)]
    have hAe : ∀ t ∈ looks ops p.1, Ae.tmps[t]? = (AV ops core a0 vals).tmps[t]? := fun t ht => (g7 t ht).trans (hv t)
    exact hst.a _ _ _ _ _ (fun t ht => (hAe t ht).symm) (hI.fact p.1 o' g2 (hall _ g1 g2) g4 (by rw [← agree_wanted g4 (fun t _ => hv t)]; exact g6) g5)
  | n + 1, l, vals, a, w, hn, hI => by
    rw [← Nat.add_assoc]
    obtain ⟨hsel, hpu'⟩ := pure_ok hpu
    have hnil : Region.ready .any ops l ≠ [] := by
      intro hr
      have hall : ∀ k, k < ops.size → core k = true → l.getD k true = true := by
        intro k
        induction k using Nat.strongRecOn with
        | _ k ih =>
          intro hk hc
          cases hl : l.getD k true with
          | true => rfl
          | false =>
            exfalso
            have hm := ready_waits hI.hsz (o := ops[k]) (by simp [hk]) (fun e he => ⟨by have := hok.back k hk e he; omega, ih e (hok.back k hk e he) (by have := hok.back k hk e he; omega) (hok.cl k hk hc e he)⟩) hl
            rw [hr] at hm
            cases hm
      have h0 : left_ ops core l = 0 := by
        unfold left_
        rw [List.length_eq_zero_iff, List.filter_eq_nil_iff]
        intro k hk
        simp only [coreL, List.mem_filter, List.mem_range] at hk
        simp [hall k hk.1 hk.2]
      omega
    -- what an operation of the core that may come up does
    have hdo : ∀ i o, ops[i]? = some o → core i = true → l.getD i true = false → (∀ e ∈ waits ops i, l.getD e true = true) →
        (Region.wanted o (yielded ops a.tmps) = true → ev i = true → doesR P (fun v w' => wpAny P .any ops Q (ops.size - (coreL ops core).length + n) (l.setIfInBounds i true) (a.put o.dst v) w') ((execOp a.eval o).run P w)) ∧
        (Region.wanted o (yielded ops a.tmps) = true → ev i = false → ∃ v, stillR w v ((execOp a.eval o).run P w) ∧ (pu ops i = true → ∀ w', (execOp a.eval o).run P w' = .ok (.value v) w') ∧ wpAny P .any ops Q (ops.size - (coreL ops core).length + n) (l.setIfInBounds i true) (a.put o.dst v) w) ∧
        (Region.wanted o (yielded ops a.tmps) = false → wpAny P .any ops Q (ops.size - (coreL ops core).length + n) (l.setIfInBounds i true) (a.put o.dst undef) w) := by
      intro i o ho hci hun hdep
      have his : i < ops.size := (Array.getElem?_eq_some_iff.1 ho).1
      obtain ⟨pre, suf, hl⟩ := List.append_of_mem (show i ∈ coreL ops core by simp [coreL, his, hci])
      obtain ⟨vals', w', F, A, hat, hf, hb⟩ := flow_walk hok hst hsz hI hfl _ pre (i :: suf) rfl hl
      obtain ⟨_, _, hpre, hsuf⟩ := core_sorted hl
      have hf := hf o ho
      have hdl : ∀ j, depB ops i j = true → l.getD j true = true := fun j hj => listed_cl hI.closed hok his hdep hj
      have hAk : ∀ t ∈ looks ops i, A.tmps[t]? = (AV ops core a0 vals).tmps[t]? := fun t ht =>
        (at_looks hok his hci (fun j hj => by
          rcases List.mem_cons.1 hj with rfl | hj
          · exact ⟨Nat.le_refl _, his, hci⟩
          · exact ⟨Nat.le_of_lt (hsuf j hj).1, (hsuf j hj).2⟩) hat.slot t ht).trans (AV_upd hok a0 vals vals' i his hci (fun j hj hcj hd => hat.same j hcj hj (hdl j hd)) t ht)
      have ha : ∀ t ∈ looks ops i, a.tmps[t]? = (AV ops core a0 vals).tmps[t]? := fun t ht => hI.slot t fun j hj hcj hlj e => by
        have := hdl j ((hok.ssa i j t his hci hj hcj e).2.1 ht)
        rw [this] at hlj; cases hlj
      have hex : execOp a.eval o = execOp (AV ops core a0 vals).eval o := agree_exec ho (fun cs b => hok.sel i o cs b ho hci) ha
      have hexA : execOp A.eval o = execOp (AV ops core a0 vals).eval o := agree_exec ho (fun cs b => hok.sel i o cs b ho hci) hAk
      have hwa := agree_wanted ho ha
      have hwA := agree_wanted ho hAk
      have hcls : cls ops C F i w := ⟨hI.c, fun p hp hd => by
        obtain ⟨o', Ae, g1, g2, g3, g4, g5, g6, g7, g8⟩ := hat.form p hp
        have hlp := hdl p.1 hd
        have hu := AV_upd hok a0 vals vals' p.1 g1 g2 (fun j hj hcj hd => hat.same j hcj hj (listed_cl hI.closed hok g1 (hI.closed p.1 g1 hlp) hd))
        rw [g8, hat.same p.1 g2 g1 hlp]
        exact hst.a _ _ _ _ _ (fun t ht => ((g7 t ht).trans (hu t ht)).symm) (hI.fact p.1 o' g2 hlp g4 (by rw [← agree_wanted g4 hu]; exact g6) g5)⟩
      have hgo : ∀ v w', R w w' → C w' → (Region.wanted o (yielded ops (AV ops core a0 vals).tmps) = true → ev i = true → W i (AV ops core a0 vals) v w') → (Region.wanted o (yielded ops (AV ops core a0 vals).tmps) = true → ev i = false → stillR w v ((execOp (AV ops core a0 vals).eval o).run P w)) →
          (Region.wanted o (yielded ops (AV ops core a0 vals).tmps) = false → v = undef) → wpAny P .any ops Q (ops.size - (coreL ops core).length + n) (l.setIfInBounds i true) (a.put o.dst v) w' := fun v w' h1 h2 h3 h4 h5 =>
        flow_all hok hpu hQ hst hsz hfl n _ _ _ _ (by have := left_succ hI.hsz his hci hun; omega) (flow_step hok hst hsz hI ho hci hun hdep v h1 h2 h3 h4 h5)
      refine ⟨fun hw he => ?_, fun hw he => ?_, fun hw => ?_⟩
      · have hwv : Region.wanted o (yielded ops (AV ops core a0 vals).tmps) = true := by rw [← hwa]; exact hw
        rw [if_pos (by rw [hwA]; exact hwv), if_pos he] at hf
        have h1 := hf.1 w hcls
        rw [hexA, ← hex] at h1
        exact h1.mono fun v w2 ⟨g1, g2, g3⟩ => hgo v w2 g3 g2 (fun _ _ => hst.a _ _ _ _ _ hAk g1) (fun _ h => by rw [he] at h; cases h) (fun h => by rw [hwv] at h; cases h)
      · have hwv : Region.wanted o (yielded ops (AV ops core a0 vals).tmps) = true := by rw [← hwa]; exact hw
        rw [if_pos (by rw [hwA]; exact hwv), if_neg (by simp [he])] at hf
        obtain ⟨v, h1, hpv, _⟩ := hf
        have h1 := h1 w hcls
        have h2 := h1
        rw [hexA, ← hex] at h1
        rw [hexA] at h2
        exact ⟨v, h1, fun hp w' => by have h3 := hpv hp w'; rw [hexA, ← hex] at h3; exact h3, hgo v w (hst.r0 _) hI.c (fun _ h => by rw [he] at h; cases h) (fun _ _ => h2) (fun h => by rw [hwv] at h; cases h)⟩
      · have hwv : Region.wanted o (yielded ops (AV ops core a0 vals).tmps) = false := by rw [← hwa]; exact hw
        exact hgo undef w (hst.r0 _) hI.c (fun h _ => by rw [hwv] at h; cases h) (fun h _ => by rw [hwv] at h; cases h) (fun _ => rfl)
    by_cases hex : ∃ i, i ∈ Region.ready .any ops l ∧ core i = true ∧ pu ops i = true
    · -- one that yields in whatever world is taken first
      obtain ⟨i, hi, hci, hpi⟩ := hex
      obtain ⟨hun, o, ho, hdp⟩ := mem_ready.1 hi
      have his : i < ops.size := (Array.getElem?_eq_some_iff.1 ho).1
      have hdep := waits_ready ho hdp
      obtain ⟨hei, hap⟩ := hpu' i his hci hpi
      have hpo : pureOp o = true := by simpa [pu, ho] using hpi
      have hQp : ∀ c (a : Act) v w, Q (.panic c) (a.put o.dst v) w → Q (.panic c) a w := fun c a v w h => by
        cases hd : o.dst with
        | none => rw [hd] at h; exact h
        | some d => rw [hd] at h; exact hQ c a d v w h
      obtain ⟨_, d2, d3⟩ := hdo i o ho hci hun hdep
      have hfree : ∀ j oj, ops[j]? = some oj → j ≠ i → l.getD j true = false → (∀ e ∈ oj.after, Region.binds .any e = true → e.on ≠ i) → o.apart ops oj = true := fun j oj hj hne hlj hno => hap j oj o hj ho hne (fun hm => by
        unfold waits at hm
        rw [hj] at hm
        simp only [List.mem_map, List.mem_filter] at hm
        obtain ⟨x, ⟨hx, hb⟩, hxi⟩ := hm
        exact hno x (by simpa using hx) hb hxi) (by
          cases hd : depB ops i j with
          | false => rfl
          | true =>
            have := listed_cl hI.closed hok his hdep hd
            rw [hlj] at this; cases this)
      cases hw : Region.wanted o (yielded ops a.tmps) with
      | true =>
        obtain ⟨v, h1, hpv, h2⟩ := d2 hw hei
        exact wpAny_first ho hsel (fun c a w h => hQp c a _ w h) _ l a w hfree hi (.inl ⟨hw, hpv hpi⟩) h2
      | false => exact wpAny_first ho hsel (fun c a w h => hQp c a _ w h) _ l a w hfree hi (.inr ⟨hw, rfl⟩) (d3 hw)
    · refine ⟨fun hr => absurd hr hnil, fun i hi => ?_⟩
      obtain ⟨hun, o, ho, hdp⟩ := mem_ready.1 hi
      have his : i < ops.size := (Array.getElem?_eq_some_iff.1 ho).1
      have hdep := waits_ready ho hdp
      have hci : core i = true := by
        cases hc : core i with
        | true => rfl
        | false =>
          exfalso
          have hall : ∀ k, k < ops.size → core k = true → l.getD k true = true := by
            intro k
            induction k using Nat.strongRecOn with
            | _ k ih =>
              intro hk hck
              cases hl : l.getD k true with
              | true => rfl
              | false =>
                exfalso
                rcases hok.last i k his hc hk hck with hd | hp
                · have := listed_cl hI.closed hok his hdep hd
                  rw [hl] at this; cases this
                · exact hex ⟨k, ready_waits hI.hsz (o := ops[k]) (by simp [hk]) (fun e he => ⟨by have := hok.back k hk e he; omega, ih e (hok.back k hk e he) (by have := hok.back k hk e he; omega) (hok.cl k hk hck e he)⟩) hl, hck, hp⟩
          have h0 : left_ ops core l = 0 := by
            unfold left_
            rw [List.length_eq_zero_iff, List.filter_eq_nil_iff]
            intro k hk
            simp only [coreL, List.mem_filter, List.mem_range] at hk
            simp [hall k hk.1 hk.2]
          omega
      obtain ⟨d1, d2, d3⟩ := hdo i o ho hci hun hdep
      refine wpOp_if ho ?_
      by_cases hw : Region.wanted o (yielded ops a.tmps) = true
      · rw [if_pos hw]
        cases he : ev i with
        | true => exact wp_of_does (d1 hw he) fun v w2 h => h
        | false => obtain ⟨v, h1, _, h2⟩ := d2 hw he; exact wp_of_still h1 h2
      · rw [if_neg hw]
        exact d3 (by simpa using hw)

/-- **A REGION THAT DRAWS ITS ORDER, WALKED ONCE**, in the order of the text; behind it what is left of it, its core having come up. -/
theorem wp_region_flow {id : Nat} {a : Act} {w : World} (hm : P.follows .mixedOrders = true) (core ev : Nat → Bool) (sz : Nat) (hB : flowB ops core sz = true) (hpu : pureB ops core ev = true) (hQ : ∀ c a d v w, Q (.panic c) (a.put (some d) v) w → Q (.panic c) a w) (hsz : a.tmps.size = sz) (C : World → Prop) (W : Nat → Act → Value → World → Prop)
    (hst : FStay ops C W R) (hC : C w.drew) (hfl : flowL P ops ev C W R (flowFin P ops core C Q) (coreL ops core) [] a) : (Code.region id ops true).wp P Q a w := by
  refine wp_region_any hm ?_
  have hc0 : ∀ k, (Array.replicate ops.size false).getD k true = true → ¬ k < ops.size := fun k hk h => by simp [h] at hk
  have hle : (coreL ops core).length ≤ ops.size := by
    have := List.length_filter_le core (List.range ops.size)
    simpa [coreL] using this
  have h := flow_all (flow_ok hB) hpu hQ hst hsz.symm hfl (coreL ops core).length (Array.replicate ops.size false) (fun _ => undef) a w.drew (by
    unfold left_
    congr 1
    rw [List.filter_eq_self]
    intro k hk
    simp only [coreL, List.mem_filter, List.mem_range] at hk
    simp [hk.1]) ⟨by simp, rfl, rfl, fun t ht => ?_, hC, fun k o hk hl ho => absurd (Array.getElem?_eq_some_iff.1 ho).1 (hc0 k hl), fun k o hk hl ho => absurd (Array.getElem?_eq_some_iff.1 ho).1 (hc0 k hl), fun k o hk hl ho => absurd (Array.getElem?_eq_some_iff.1 ho).1 (hc0 k hl), fun k hk hl => absurd hk (hc0 k hl), fun k hk _ => by simp [hk]⟩
  · rw [Nat.sub_add_cancel hle] at h
    exact h
  · rw [AV_get]
    have hw : writer ops core t = none := by
      cases hw : writer ops core t with
      | none => rfl
      | some j =>
        obtain ⟨h1, h2, h3⟩ := writer_spec hw
        exact absurd h3 (ht j h1 h2 (by simp [h1]))
    by_cases h : t < a.tmps.size
    · rw [if_pos h]; simp [lookV, hw, h]
    · rw [if_neg h]; exact Array.getElem?_eq_none (Nat.le_of_not_lt h)
end
end Go.Proofs.Ytihngonemdaihaa
/- A region that draws its order, walked once: the steps. -/
namespace Go.Proofs.Ytihngonemdaihaa
open Go.RowKit
set_option linter.unusedVariables false

section
variable {P : Program} {ops : Array Oper} {core ev : Nat → Bool} {C : World → Prop} {W : Nat → Act → Value → World → Prop} {R : World → World → Prop} {Q : Exit → Act → World → Prop} {Fin : List Fact → Act → Prop} {k : Nat} {ks : List Nat} {F : List Fact} {a : Act}
theorem wp_flowR {id : Nat} {a : Act} {w : World} (core ev : Nat → Bool) (sz : Nat) (ks : List Nat) (C : World → Prop) (W : Nat → Act → Value → World → Prop) (R : World → World → Prop) (hm : P.follows .mixedOrders = true) (hB : flowB ops core sz = true) (hpu : pureB ops core ev = true) (hks : coreL ops core = ks) (hQ : ∀ c a d v w, Q (.panic c) (a.put (some d) v) w → Q (.panic c) a w) (hsz : a.tmps.size = sz)
    (hst : FStay ops C W R) (hC : C w.drew) (hfl : flowL P ops ev C W R (flowFin P ops core C Q) ks [] a) : (Code.region id ops true).wp P Q a w :=
  wp_region_flow hm core ev sz hB hpu hQ hsz C W hst hC (by rw [hks]; exact hfl)
/-- What is asked where every step leaves the blocks that there are. -/
structure FStayB (ops : Array Oper) (C : World → Prop) (W : Nat → Act → Value → World → Prop) : Prop where
  c : ∀ w w', C w → Below w.heap.size w w' → C w'
  w : ∀ k a v w w', W k a v w → Below w.heap.size w w' → W k a v w'
  a : ∀ k a b v w, (∀ t ∈ looks ops k, a.tmps[t]? = b.tmps[t]?) → W k a v w → W k b v w
theorem FStayB.st (h : FStayB ops C W) : FStay ops C W (fun w w' => Below w.heap.size w w') := ⟨fun _ => Below.refl _ _, fun _ _ _ h k => h.trans (k.mono h.size), h.c, h.w, h.a⟩
theorem wp_flow {id : Nat} {a : Act} {w : World} (core ev : Nat → Bool) (sz : Nat) (ks : List Nat) (C : World → Prop) (W : Nat → Act → Value → World → Prop) (hm : P.follows .mixedOrders = true) (hB : flowB ops core sz = true) (hpu : pureB ops core ev = true) (hks : coreL ops core = ks) (hQ : ∀ c a d v w, Q (.panic c) (a.put (some d) v) w → Q (.panic c) a w) (hsz : a.tmps.size = sz)
    (hst : FStayB ops C W) (hC : C w.drew) (hfl : flowL P ops ev C W (fun w w' => Below w.heap.size w w') (flowFin P ops core C Q) ks [] a) : (Code.region id ops true).wp P Q a w :=
  wp_flowR core ev sz ks C W _ hm hB hpu hks hQ hsz hst.st hC hfl
theorem flow_quiet {o : Oper} {v : Value} (ho : ops[k]? = some o) (hw : Region.wanted o (yielded ops a.tmps) = true) (he : ev k = false) (hs : ∀ w, cls ops C F k w → stillR w v ((execOp a.eval o).run P w)) (hp : pu ops k = true → ∀ w, (execOp a.eval o).run P w = .ok (.value v) w) (h : flowL P ops ev C W R Fin ks F (a.put o.dst v)) : flowL P ops ev C W R Fin (k :: ks) F a := by
  intro o' ho'
  obtain rfl := Option.some.inj (ho.symm.trans ho')
  rw [if_pos hw, if_neg (by simp [he])]
  exact ⟨v, hs, hp, h⟩
theorem flow_skip {o : Oper} (ho : ops[k]? = some o) (hw : Region.wanted o (yielded ops a.tmps) = false) (h : flowL P ops ev C W R Fin ks F (a.put o.dst undef)) : flowL P ops ev C W R Fin (k :: ks) F a := by
  intro o' ho'
  obtain rfl := Option.some.inj (ho.symm.trans ho')
  rw [if_neg (by simp [hw])]
  exact h
theorem flow_event {o : Oper} (ho : ops[k]? = some o) (hw : Region.wanted o (yielded ops a.tmps) = true) (he : ev k = true) (hd : ∀ w, cls ops C F k w → doesR P (fun v w' => W k a v w' ∧ C w' ∧ R w w') ((execOp a.eval o).run P w))
    (h : ∀ v, (∃ w, C w ∧ W k a v w) → flowL P ops ev C W R Fin ks ((k, W k a v) :: F) (a.put o.dst v)) : flowL P ops ev C W R Fin (k :: ks) F a := by
  intro o' ho'
  obtain rfl := Option.some.inj (ho.symm.trans ho')
  rw [if_pos hw, if_pos he]
  exact ⟨hd, h⟩
theorem flow_end (h : Fin F a) : flowL P ops ev C W R Fin [] F a := h
/-- A load of a struct whose cells are not looked into. -/
theorem still_loadR {o : Oper} {w : World} (ty : TypeId) (x : Operand) (ho : o.op = .load ty x) (b off : Nat) (hx : a.eval x = .pointer (some ⟨b, off, none⟩)) (p : Array Value) (d : TypeDesc)
    (hu : P.underlying ty = some d) (hd : (match d with | .struct _ | .array _ _ => true | _ => false) = true) (hi : (P.info? ty).map (·.size) = some p.size) (hc : ∀ j v, p[j]? = some v → w.cell? ⟨b, off + j, none⟩ = some v) : stillR w (.agg p) ((execOp a.eval o).run P w) := by
  unfold execOp
  simp only [ho, hx, Instr.loadAt, Instr.sureAddr, Sem.run_bind, Sem.run_pure, Result.andThen_ok, run_loadVar_cells ty b off p d hu hd hi hc]
  exact ⟨rfl, rfl⟩
/-- An operation that yields a value and leaves the world. -/
theorem still_run {o : Oper} {w : World} {v : Value} (h : (execOp a.eval o).run P w = .ok (.value v) w) : stillR w v ((execOp a.eval o).run P w) := by rw [h]; exact ⟨rfl, rfl⟩
/-- A load of one cell. -/
theorem still_load1 {o : Oper} {w : World} (ty : TypeId) (x : Operand) (ho : o.op = .load ty x) (b off : Nat) (hx : a.eval x = .pointer (some ⟨b, off, none⟩)) (v : Value) (d : TypeDesc)
    (hu : P.underlying ty = some d) (hd : (match d with | .struct _ | .array _ _ => true | _ => false) = false) (hc : w.cell? ⟨b, off, none⟩ = some v) : stillR w v ((execOp a.eval o).run P w) := by
  have hagg : (isAgg ty).run P w = .ok false w := by
    unfold isAgg
    rw [Sem.run_bind, run_underlying hu w]
    cases d <;> simp_all
  have hl : (loadVar ty ⟨b, off, none⟩).run P w = .ok v w := by simp [loadVar, Sem.run_bind, hagg, hc]
  unfold execOp
  simp only [ho, hx, Instr.loadAt, Instr.sureAddr, Sem.run_bind, Sem.run_pure, Result.andThen_ok, hl]
  exact ⟨rfl, rfl⟩
/-- A call of a Go function. -/
theorem does_call {o : Oper} {w w2 : World} {f : FuncId} {args : Array Value} {R : Value → World → Prop} (h : (execOp a.eval o).run P w = .ok (.enter f args) w2) (hc : Calls P f args w2 (fun e w'' => ∃ v, e = .returned v ∧ R v w'')) : doesR P R ((execOp a.eval o).run P w) := by rw [h]; exact hc
/-- What yields a value. -/
theorem does_value {o : Oper} {w w2 : World} {v : Value} {R : Value → World → Prop} (h : (execOp a.eval o).run P w = .ok (.value v) w2) (hc : R v w2) : doesR P R ((execOp a.eval o).run P w) := by rw [h]; exact hc
end
end Go.Proofs.Ytihngonemdaihaa
/- A region that draws its order, walked once: the steps, by the operation's number. -/
namespace Go.Proofs.Ytihngonemdaihaa
open Go.RowKit
set_option linter.unusedVariables false

theorem cell_on {B : Nat} {w w' : World} (h : Below B w w') {b off : Nat} (hb : b < B) {v : Value} (hc : w.cell? ⟨b, off, none⟩ = some v) : w'.cell? ⟨b, off, none⟩ = some v := by
  rw [h.cell (show (⟨b, off, none⟩ : Addr).block < B from hb)]; exact hc
def opK (ops : Array Oper) (k : Nat) : Oper := (ops[k]?).getD default
theorem opK_some {ops : Array Oper} {k : Nat} (hk : decide (k < ops.size) = true) : ops[k]? = some (opK ops k) := by
  have h : k < ops.size := of_decide_eq_true hk
  simp [opK, h]
section
variable {P : Program} {ops : Array Oper} {core ev : Nat → Bool} {C : World → Prop} {W : Nat → Act → Value → World → Prop} {R : World → World → Prop} {Q : Exit → Act → World → Prop} {Fin : List Fact → Act → Prop} {k : Nat} {ks : List Nat} {F : List Fact} {a : Act}
/-- A step whose operation yields v in whatever world. -/
theorem fq (d : Tmp) (v : Value) (hk : decide (k < ops.size) = true) (hd : (opK ops k).dst = some d) (hw : Region.wanted (opK ops k) (yielded ops a.tmps) = true) (he : ev k = false) (hs : ∀ w, (execOp a.eval (opK ops k)).run P w = .ok (.value v) w) (h : flowL P ops ev C W R Fin ks F (a.put (some d) v)) : flowL P ops ev C W R Fin (k :: ks) F a :=
  flow_quiet (opK_some hk) hw he (fun w _ => still_run (hs w)) (fun _ => hs) (by rw [hd]; exact h)
/-- A load of one cell. -/
theorem fq1 (d : Tmp) (v : Value) (ty : TypeId) (x : Operand) (b off : Nat) (desc : TypeDesc) (hk : decide (k < ops.size) = true) (hd : (opK ops k).dst = some d) (hw : Region.wanted (opK ops k) (yielded ops a.tmps) = true) (he : ev k = false)
    (ho : (opK ops k).op = .load ty x) (hx : a.eval x = .pointer (some ⟨b, off, none⟩)) (hu : P.underlying ty = some desc) (hds : (match desc with | .struct _ | .array _ _ => true | _ => false) = false) (hc : ∀ w, cls ops C F k w → w.cell? ⟨b, off, none⟩ = some v)
    (h : flowL P ops ev C W R Fin ks F (a.put (some d) v)) : flowL P ops ev C W R Fin (k :: ks) F a :=
  flow_quiet (opK_some hk) hw he (fun w hw => still_load1 ty x ho b off hx v desc hu hds (hc w hw)) (fun hp => absurd hp (by simp [pu, opK_some hk, pureOp, ho])) (by rw [hd]; exact h)
/-- A load of a struct whose cells are not looked into. -/
theorem fqR (d : Tmp) (p : Array Value) (ty : TypeId) (x : Operand) (b off : Nat) (desc : TypeDesc) (hk : decide (k < ops.size) = true) (hd : (opK ops k).dst = some d) (hw : Region.wanted (opK ops k) (yielded ops a.tmps) = true) (he : ev k = false)
    (ho : (opK ops k).op = .load ty x) (hx : a.eval x = .pointer (some ⟨b, off, none⟩)) (hu : P.underlying ty = some desc) (hds : (match desc with | .struct _ | .array _ _ => true | _ => false) = true) (hi : (P.info? ty).map (·.size) = some p.size) (hc : ∀ w, cls ops C F k w → ∀ j v, p[j]? = some v → w.cell? ⟨b, off + j, none⟩ = some v)
    (h : flowL P ops ev C W R Fin ks F (a.put (some d) (.agg p))) : flowL P ops ev C W R Fin (k :: ks) F a :=
  flow_quiet (opK_some hk) hw he (fun w hw => still_loadR ty x ho b off hx p desc hu hds hi (hc w hw)) (fun hp => absurd hp (by simp [pu, opK_some hk, pureOp, ho])) (by rw [hd]; exact h)
/-- A call of a Go function. -/
theorem fcall (d : Tmp) (f : FuncId) (args : Array Value) (hk : decide (k < ops.size) = true) (hd : (opK ops k).dst = some d) (hw : Region.wanted (opK ops k) (yielded ops a.tmps) = true) (he : ev k = true) (hr : ∀ w, (execOp a.eval (opK ops k)).run P w = .ok (.enter f args) w)
    (hc : ∀ w, cls ops C F k w → Calls P f args w (fun e w'' => ∃ v, e = .returned v ∧ (W k a v w'' ∧ C w'' ∧ R w w'')))
    (h : ∀ v, (∃ w, C w ∧ W k a v w) → flowL P ops ev C W R Fin ks ((k, W k a v) :: F) (a.put (some d) v)) : flowL P ops ev C W R Fin (k :: ks) F a :=
  flow_event (opK_some hk) hw he (fun w hcl => does_call (hr w) (hc w hcl)) (fun v hv => by rw [hd]; exact h v hv)
/-- A call whose value is not kept. -/
theorem fcall0 (f : FuncId) (args : Array Value) (hk : decide (k < ops.size) = true) (hd : (opK ops k).dst = none) (hw : Region.wanted (opK ops k) (yielded ops a.tmps) = true) (he : ev k = true) (hr : ∀ w, (execOp a.eval (opK ops k)).run P w = .ok (.enter f args) w)
    (hc : ∀ w, cls ops C F k w → Calls P f args w (fun e w'' => ∃ v, e = .returned v ∧ (W k a v w'' ∧ C w'' ∧ R w w'')))
    (h : ∀ v, (∃ w, C w ∧ W k a v w) → flowL P ops ev C W R Fin ks ((k, W k a v) :: F) (a.put none v)) : flowL P ops ev C W R Fin (k :: ks) F a :=
  flow_event (opK_some hk) hw he (fun w hcl => does_call (hr w) (hc w hcl)) (fun v hv => by rw [hd]; exact h v hv)
/-- What yields a value and a new world: an alloc and its like. -/
theorem fnew (d : Tmp) (vf : World → Value) (wf : World → World) (hk : decide (k < ops.size) = true) (hd : (opK ops k).dst = some d) (hw : Region.wanted (opK ops k) (yielded ops a.tmps) = true) (he : ev k = true) (hr : ∀ w, (execOp a.eval (opK ops k)).run P w = .ok (.value (vf w)) (wf w))
    (hc : ∀ w, cls ops C F k w → W k a (vf w) (wf w) ∧ C (wf w) ∧ R w (wf w))
    (h : ∀ v, (∃ w, C w ∧ W k a v w) → flowL P ops ev C W R Fin ks ((k, W k a v) :: F) (a.put (some d) v)) : flowL P ops ev C W R Fin (k :: ks) F a :=
  flow_event (opK_some hk) hw he (fun w hcl => does_value (hr w) (hc w hcl)) (fun v hv => by rw [hd]; exact h v hv)
/-- Behind the core: the others, one behind the other. -/
def seqL (ops : Array Oper) : List Nat → Array Bool → Bool
  | [], l => (Region.ready .any ops l).isEmpty
  | t :: ts, l => decide (Region.ready .any ops l = [t]) && (decide (t < ops.size) && seqL ops ts (l.setIfInBounds t true))
theorem wpAny_of_seqL : ∀ (ts : List Nat) (l : Array Bool) (a : Act) (w : World), seqL ops ts l = true → wpList P ops Q (ts.map (opK ops)) a w → wpAny P .any ops Q ts.length l a w
  | [], _, _, _, hB, h => ⟨by simpa [seqL] using hB, h⟩
  | t :: ts, l, a, w, hB, h => by
    simp only [seqL, Bool.and_eq_true, decide_eq_true_eq] at hB
    obtain ⟨h1, h2, h3⟩ := hB
    refine ⟨fun h0 => (by rw [h1] at h0; cases h0), fun i hi => ?_⟩
    rw [h1] at hi
    have hik : i = t := by simpa using hi
    subst hik
    have hw : wpOp P ops Q i (wpList P ops Q (ts.map (opK ops))) a w := by unfold wpOp; simp only [opK_some (decide_eq_true h2)]; exact h
    exact wpOp_mono (fun a' w' h' => wpAny_of_seqL ts _ a' w' h3 h') hw
theorem fend (ts : List Nat) (hf : ops.size - (coreL ops core).length = ts.length) (hs : seqL ops ts ((List.range ops.size).map core).toArray = true)
    (h : ∀ w, C w → (∀ p ∈ F, p.2 w) → wpList P ops Q (ts.map (opK ops)) a w) : flowL P ops ev C W R (flowFin P ops core C Q) [] F a := by
  show flowFin P ops core C Q F a
  intro w hw hF
  rw [hf]
  exact wpAny_of_seqL ts _ a w hs (h w hw hF)
variable {w : World} {ts : List Nat}
/-- Steps of the tail. -/
theorem tval (d : Option Tmp) (v : Value) (w' : World) (hd : (opK ops k).dst = d) (hw : Region.wanted (opK ops k) (yielded ops a.tmps) = true) (hr : (execOp a.eval (opK ops k)).run P w = .ok (.value v) w')
    (h : wpList P ops Q (ts.map (opK ops)) (a.put d v) w') : wpList P ops Q ((k :: ts).map (opK ops)) a w := by
  rw [List.map_cons]
  unfold wpList
  rw [if_pos hw]
  refine .inl ?_
  unfold Oper.wp
  rw [hr]
  simp only [Oper.upon]
  rw [hd]; exact h
/-- What yields nothing: a store. -/
theorem tnone (d : Option Tmp) (w' : World) (hd : (opK ops k).dst = d) (hw : Region.wanted (opK ops k) (yielded ops a.tmps) = true) (hr : (execOp a.eval (opK ops k)).run P w = .ok .skip w')
    (h : wpList P ops Q (ts.map (opK ops)) (a.put d undef) w') : wpList P ops Q ((k :: ts).map (opK ops)) a w := by
  rw [List.map_cons]
  unfold wpList
  rw [if_pos hw]
  refine .inl ?_
  unfold Oper.wp
  rw [hr]
  simp only [Oper.upon]
  rw [hd]; exact h
theorem tskip (d : Option Tmp) (hd : (opK ops k).dst = d) (hw : Region.wanted (opK ops k) (yielded ops a.tmps) = false)
    (h : wpList P ops Q (ts.map (opK ops)) (a.put d undef) w) : wpList P ops Q ((k :: ts).map (opK ops)) a w := by
  rw [List.map_cons]
  unfold wpList
  rw [if_neg (by simp [hw]), hd]; exact h
/-- A struct is stored as a whole. -/
theorem tstoreP (hd : (opK ops k).dst = none) (hgd : (opK ops k).guard = none) (ty : TypeId) (x y : Operand) (ho : (opK ops k).op = .store ty x y) (g off : Nat) (hx : a.eval x = .pointer (some ⟨g, off, none⟩)) (p : Array Value) (hy : a.eval y = .agg p)
    (t : TypeId) (cs : Array Value) (hg : Blk w g t cs) (hi : (P.info? ty).map (·.size) = some p.size) (hs : off + p.size ≤ cs.size) (h1 : ∀ v ∈ p.toList, v.oneCell' = true) (cs' : Array Value) (hcs : (cs.toList.take off ++ p.toList ++ cs.toList.drop (off + p.size)).toArray = cs')
    (h : ∀ w', Blk w' g t cs' → Wr g w w' → wpList P ops Q (ts.map (opK ops)) (a.put none undef) w') : wpList P ops Q ((k :: ts).map (opK ops)) a w := by
  rw [List.map_cons]
  exact wpList_storeP hgd ty x y ho g off hx p hy t cs hg hi hs h1 cs' hcs (fun w' hB hw => by rw [hd]; exact h w' hB hw)
theorem tend (h : Q .normal a w) : wpList P ops Q (([] : List Nat).map (opK ops)) a w := h
end
end Go.Proofs.Ytihngonemdaihaa
/- A region that draws its order, walked once: more steps. -/
namespace Go.Proofs.Ytihngonemdaihaa
open Go.RowKit
set_option linter.unusedVariables false

section
variable {P : Program} {ops : Array Oper} {core ev : Nat → Bool} {C : World → Prop} {W : Nat → Act → Value → World → Prop} {R : World → World → Prop} {Q : Exit → Act → World → Prop} {Fin : List Fact → Act → Prop} {k : Nat} {ks : List Nat} {F : List Fact} {a : Act} {w : World} {ts : List Nat}
/-- .. whose value is written otherwise. -/
theorem fqe (d : Tmp) (v0 v : Value) (e : v0 = v) (hk : decide (k < ops.size) = true) (hd : (opK ops k).dst = some d) (hw : Region.wanted (opK ops k) (yielded ops a.tmps) = true) (he : ev k = false) (hs : ∀ w, (execOp a.eval (opK ops k)).run P w = .ok (.value v0) w) (h : flowL P ops ev C W R Fin ks F (a.put (some d) v)) : flowL P ops ev C W R Fin (k :: ks) F a :=
  fq d v hk hd hw he (fun w => by rw [hs w, e]) h
/-- An operation that is not wanted. -/
theorem fskip (d : Option Tmp) (hk : decide (k < ops.size) = true) (hd : (opK ops k).dst = d) (hw : Region.wanted (opK ops k) (yielded ops a.tmps) = false) (h : flowL P ops ev C W R Fin ks F (a.put d undef)) : flowL P ops ev C W R Fin (k :: ks) F a :=
  flow_skip (opK_some hk) hw (by rw [hd]; exact h)
/-- The address of a thing of a slice. -/
theorem fidx (d : Tmp) (t : TypeId) (x y : Operand) (b off n c : Nat) (K : IntKind) (i : Int) (sz : Nat) (to_ : Nat) (hk : decide (k < ops.size) = true) (hd : (opK ops k).dst = some d) (hw : Region.wanted (opK ops k) (yielded ops a.tmps) = true) (he : ev k = false)
    (ho : (opK ops k).op = .indexAddr t x y) (hx : a.eval x = .slice (some ⟨b, off, none⟩) n c) (hy : a.eval y = .int K i) (ht : P.underlying t = some (.slice (P.elem t))) (hz : ∀ w, (sizeOf (P.elem t)).run P w = .ok sz w) (h0 : 0 ≤ i) (h1 : i < n) (hto : off + i.toNat * sz = to_)
    (h : flowL P ops ev C W R Fin ks F (a.put (some d) (.pointer (some ⟨b, to_, none⟩)))) : flowL P ops ev C W R Fin (k :: ks) F a :=
  fq d _ hk hd hw he (fun w => by
    subst hto
    unfold execOp
    simp only [ho, hx, hy, Sem.run_bind, run_indexAt_slice (h := ht), h0, h1, and_self, if_true, hz, Result.andThen_ok, Sem.run_pure, add_none]) h
/-- .. of an array. -/
theorem fidxA (d : Tmp) (t : TypeId) (x y : Operand) (b off n : Nat) (K : IntKind) (i : Int) (sz : Nat) (to_ : Nat) (hk : decide (k < ops.size) = true) (hd : (opK ops k).dst = some d) (hw : Region.wanted (opK ops k) (yielded ops a.tmps) = true) (he : ev k = false)
    (ho : (opK ops k).op = .indexAddr t x y) (hx : a.eval x = .pointer (some ⟨b, off, none⟩)) (hy : a.eval y = .int K i) (ht : P.underlying t = some (.array (P.arrayLen t) (P.elem t))) (hz : ∀ w, (sizeOf (P.elem t)).run P w = .ok sz w) (hn : P.arrayLen t = n) (h0 : 0 ≤ i) (h1 : i < n) (hto : off + i.toNat * sz = to_)
    (h : flowL P ops ev C W R Fin ks F (a.put (some d) (.pointer (some ⟨b, to_, none⟩)))) : flowL P ops ev C W R Fin (k :: ks) F a :=
  fq d _ hk hd hw he (fun w => by
    subst hto
    subst hn
    unfold execOp
    simp only [ho, hx, hy, Sem.run_bind, run_indexAt_array (h := ht), h0, h1, and_self, if_true, hz, Result.andThen_ok, Sem.run_pure, add_none]) h
/-- append of things onto things of the call's own. -/
theorem fapp {α : Type} (d : Tmp) (f : α → List Value) (size : Nat) (hone : ∀ (xs : List α), ∀ u ∈ xs.flatMap f, u.oneCell' = true) (s x : Operand) (t : TypeId) (hk : decide (k < ops.size) = true) (hd : (opK ops k).dst = some d) (hw : Region.wanted (opK ops k) (yielded ops a.tmps) = true) (he : ev k = true)
    (ho : (opK ops k).op = .call { callee := .builtin .append, args := #[s, x], argTypes := #[t, t] })
    (base : Nat) (E : TypeId) (z : Value) (bytes : Nat) (ht : P.underlying t = some (.slice E)) (hinfo : (P.info? E).map (fun i => (i.zero, i.size, i.bytes)) = some (some z, size, bytes)) (hzs : z.cells.size = size) (hsz : 0 < size) (hb1 : 1 ≤ bytes)
    (A0 : Option Addr) (n0 c0 : Nat) (us : List α) (hs : a.eval s = .slice A0 n0 c0) (hn0 : us.length = n0)
    (A : Option Addr) (m0 c : Nat) (bs : List α) (hx : a.eval x = .slice A m0 c) (hm0 : bs.length = m0)
    (zs : List α) (hz : us ++ bs = zs) (kk : Nat) (hkk : n0 + m0 = kk) (hbytes : (n0 + m0) * bytes ≤ 140737488355328)
    (hc : ∀ w, cls ops C F k w → OwnX f size w base E A0 c0 us ∧ RdX f size w A bs ∧ base ≤ w.heap.size ∧ (∀ A' c' w', OwnX f size w' base E A' c' zs → kk ≤ c' → c' ≤ 9223372036854775807 → Below base w w' → w.grownBy w' (A0.map (·.block)) → (A'.map (·.block) = A0.map (·.block) ∨ A'.map (·.block) = some w.heap.size) → W k a (.slice A' kk c') w' ∧ C w' ∧ R w w'))
    (h : ∀ v, (∃ w, C w ∧ W k a v w) → flowL P ops ev C W R Fin ks ((k, W k a v) :: F) (a.put (some d) v)) : flowL P ops ev C W R Fin (k :: ks) F a := by
  refine flow_event (opK_some hk) hw he (fun w hcl => ?_) (fun v hv => by rw [hd]; exact h v hv)
  obtain ⟨hown, hr, hbase, hK⟩ := hc w hcl
  subst hz; subst hn0; subst hm0; subst hkk
  obtain ⟨i, hi, hz, hsize, hby⟩ := info_parts hinfo
  have h63 : us.length + bs.length ≤ maxLen := by
    have : (us.length + bs.length) * 1 ≤ (us.length + bs.length) * bytes := Nat.mul_le_mul_left _ hb1
    unfold maxLen; omega
  obtain ⟨v', w', hrun, h2, h3, h4⟩ := run_append_any (P := P) w base t (opK ops k).type E i z size bytes ht hi hz hsize hby hzs hsz _ us.length (us.flatMap f) hown A bs.length c (bs.flatMap f) hr (hone bs) h63 hbytes hbase
  obtain ⟨A', c', rfl, hc1, hc2⟩ := own_shape _ h2
  have ob : ∀ (X : Option Addr) (n c : Nat), (Value.slice X n c).ownBlock = X.map (·.block) := fun X n c => by cases X <;> rfl
  have h2' : OwnX f size w' base E A' c' (us ++ bs) := by unfold OwnX; rw [List.flatMap_append, List.length_append]; exact h2
  have hfin := hK A' c' w' h2' hc1 (by unfold maxLen at hc2; omega) ((Below.refl _ _).grown h3 hbase (fun k hk => (hown.lt k hk).1)) (by rw [← ob A0 us.length c0]; exact h3) (by rw [ob, ob] at h4; exact h4)
  unfold execOp
  simp only [ho, resolve, invoke, builtin, Sem.run_bind, Sem.run_pure, Result.andThen_ok, List.map_toArray, List.map_cons, List.map_nil, hs, hx, hrun]
  exact hfin
theorem grown_of_below {w w' : World} (h : Below w.heap.size w w') (row : Option Nat) : w.grownBy w' row := ⟨h.os, h.tape, h.output, h.size, fun k hk _ => h.block k hk⟩
theorem grown_refl (w : World) (row : Option Nat) : w.grownBy w row := ⟨rfl, rfl, rfl, Nat.le_refl _, fun _ _ _ => rfl⟩
theorem grown_trans {a b c : World} {row : Option Nat} (h : a.grownBy b row) (k : b.grownBy c row) : a.grownBy c row := ⟨k.os.trans h.os, k.tape.trans h.tape, k.output.trans h.output, Nat.le_trans h.size k.size, fun i hi hne => (k.block i (Nat.lt_of_lt_of_le hi h.size) hne).trans (h.block i hi hne)⟩

theorem run_storeVar_cell (ty : TypeId) (g off : Nat) (t : TypeId) (cs : Array Value) (v : Value) (hv : v.cells = #[v]) (hg : w.heap[g]? = some (.cells cs t (0, 0))) (hi : (P.info? ty).map (·.size) = some 1) (hs : off < cs.size) (h1 : v.oneCell' = true) (hcs : (cs.toList.take off ++ [v] ++ cs.toList.drop (off + 1)).toArray = cs.setIfInBounds off v) :
    (storeVar ty ⟨g, off, none⟩ v).run P w = .ok () (w.setRow g (cs.setIfInBounds off v)) := by
  have := run_storeCells_at (P := P) g off t [v] 0 cs w hg (by simp; omega) (by intro u hu; rw [List.mem_singleton.1 hu]; exact h1)
  cases hq : P.info? ty with
  | none => simp [hq] at hi
  | some i =>
    have hs' : i.size = 1 := by simp [hq] at hi; omega
    simp [storeVar, sizeOf, typeInfo, hq, hv, hs'] at this ⊢
    rw [this]
    simp at hcs
    rw [hcs]
/-- One cell is stored. -/
theorem tstore1 (hd : (opK ops k).dst = none) (hgd : (opK ops k).guard = none) (ty : TypeId) (x y : Operand) (ho : (opK ops k).op = .store ty x y) (g off : Nat) (hx : a.eval x = .pointer (some ⟨g, off, none⟩)) (v : Value) (hy : a.eval y = v) (hv : v.cells = #[v]) (h1 : v.oneCell' = true)
    (t : TypeId) (cs : Array Value) (hg : Blk w g t cs) (hi : (P.info? ty).map (·.size) = some 1) (hs : off < cs.size)
    (h : ∀ w', Blk w' g t (cs.setIfInBounds off v) → Wr g w w' → wpList P ops Q (ts.map (opK ops)) (a.put none undef) w') : wpList P ops Q ((k :: ts).map (opK ops)) a w := by
  have hcs : (cs.toList.take off ++ [v] ++ cs.toList.drop (off + 1)).toArray = cs.setIfInBounds off v := by
    apply Array.toList_inj.1
    have ho : off < cs.toList.length := by simpa using hs
    simp only [Array.toList_setIfInBounds, List.append_assoc, List.cons_append, List.nil_append]
    rw [List.set_eq_take_append_cons_drop, if_pos ho]
  refine tnone none (w.setRow g (cs.setIfInBounds off v)) hd (by simp [Region.wanted, hgd]) ?_ (h _ ?_ (Wr.row _ _ _))
  · unfold execOp
    simp only [ho, hx, hy, Instr.storeAt, Instr.sureAddr, Sem.run_bind, Sem.run_pure, Result.andThen_ok, run_storeVar_cell (P := P) ty g off t cs v hv hg hi hs h1 hcs]
  · exact setRow_heap w g cs _ t (0, 0) hg
/-- append of things onto things of the call's own, behind the core. -/
theorem tapp {α : Type} (d : Tmp) (f : α → List Value) (size : Nat) (hone : ∀ (xs : List α), ∀ u ∈ xs.flatMap f, u.oneCell' = true) (s x : Operand) (t : TypeId) (hd : (opK ops k).dst = some d) (hgd : (opK ops k).guard = none)
    (ho : (opK ops k).op = .call { callee := .builtin .append, args := #[s, x], argTypes := #[t, t] })
    (base : Nat) (E : TypeId) (z : Value) (bytes : Nat) (ht : P.underlying t = some (.slice E)) (hinfo : (P.info? E).map (fun i => (i.zero, i.size, i.bytes)) = some (some z, size, bytes)) (hzs : z.cells.size = size) (hsz : 0 < size) (hb1 : 1 ≤ bytes)
    (A0 : Option Addr) (n0 c0 : Nat) (us : List α) (hs : a.eval s = .slice A0 n0 c0) (hn0 : us.length = n0) (hown : OwnX f size w base E A0 c0 us)
    (A : Option Addr) (m0 c : Nat) (bs : List α) (hx : a.eval x = .slice A m0 c) (hm0 : bs.length = m0) (hr : RdX f size w A bs)
    (zs : List α) (hz : us ++ bs = zs) (kk : Nat) (hkk : n0 + m0 = kk) (hbytes : (n0 + m0) * bytes ≤ 140737488355328) (hbase : base ≤ w.heap.size)
    (h : ∀ A' c' w', OwnX f size w' base E A' c' zs → kk ≤ c' → c' ≤ 9223372036854775807 → Below base w w' → w.grownBy w' (A0.map (·.block)) → (A'.map (·.block) = A0.map (·.block) ∨ A'.map (·.block) = some w.heap.size) → wpList P ops Q (ts.map (opK ops)) (a.put (some d) (.slice A' kk c')) w') : wpList P ops Q ((k :: ts).map (opK ops)) a w := by
  rw [List.map_cons]
  exact wpList_appL f size hone w hgd s x t ho base E z bytes ht hinfo hzs hsz hb1 A0 n0 c0 us hs hn0 hown A m0 c bs hx hm0 hr zs hz kk hkk hbytes hbase (fun A' c' w' h1 h2 h3 h4 h5 h6 => by rw [hd]; exact h A' c' w' h1 h2 h3 h4 h5 h6)
end
end Go.Proofs.Ytihngonemdaihaa
/- A region that draws its order, walked once: what waits for what, reckoned in one go (for regions of many operations). -/
namespace Go.Proofs.Ytihngonemdaihaa
open Go.RowKit
set_option linter.unusedVariables false

section
variable (ops : Array Oper)
/-- What each operation waits for, at length, as bits: that of the last one first. -/
def tabN : Nat → List Nat
  | 0 => []
  | n + 1 => ((waits ops n).foldl (fun acc e => acc ||| ((1 <<< e) ||| (tabN n).getD (n - 1 - e) 0)) 0) :: tabN n
def depF (k i : Nat) : Bool := ((tabN ops ops.size).getD (ops.size - 1 - k) 0).testBit i
def flowG (dep : Nat → Nat → Bool) (core : Nat → Bool) (sz : Nat) : Bool :=
  (List.range ops.size).all fun k =>
    (waits ops k).all (fun e => e < k) &&
    (if core k then
      (waits ops k).all core &&
      (List.range ops.size).all (fun j => !core j || ((match dstOf ops j with
        | some d => d < sz && (!(looks ops k).contains d || dep k j) && (j == k || dstOf ops k != some d)
        | none => true))) &&
      (match ops[k]? with | some o => (match o.op with | Op.select _ _ => false | _ => true) | none => true)
    else (List.range ops.size).all (fun j => !core j || (dep k j || pu ops j)))
def pureG (dep : Nat → Nat → Bool) (core ev : Nat → Bool) : Bool := Region.noSelect ops &&
  (List.range ops.size).all fun j => !(core j && pu ops j) || (!ev j && (List.range ops.size).all fun i => i == j || ((waits ops i).contains j || (dep j i || (match ops[i]?, ops[j]? with | some oi, some oj => oj.apart ops oi | _, _ => true))))
end
section
variable {ops : Array Oper} {core ev : Nat → Bool} {dep dep' : Nat → Nat → Bool} {sz : Nat}
theorem flowG_mono (hd : ∀ k j, k < ops.size → dep k j = true → dep' k j = true) (h : flowG ops dep core sz = true) : flowG ops dep' core sz = true := by
  unfold flowG at h ⊢
  rw [List.all_eq_true] at h ⊢
  intro k hk
  have h1 := h k hk
  have hk' := List.mem_range.1 hk
  rw [Bool.and_eq_true] at h1 ⊢
  refine ⟨h1.1, ?_⟩
  have h2 := h1.2
  by_cases hc : core k = true
  · rw [if_pos hc] at h2 ⊢
    rw [Bool.and_eq_true, Bool.and_eq_true] at h2 ⊢
    refine ⟨⟨h2.1.1, ?_⟩, h2.2⟩
    rw [List.all_eq_true]
    intro j hj
    have h3 := List.all_eq_true.1 h2.1.2 j hj
    rw [Bool.or_eq_true] at h3 ⊢
    rcases h3 with h3 | h3
    · exact .inl h3
    · right
      cases hdj : dstOf ops j with
      | none => rfl
      | some d =>
        rw [hdj] at h3
        simp only [Bool.and_eq_true, Bool.or_eq_true] at h3 ⊢
        exact ⟨⟨h3.1.1, h3.1.2.imp id (hd k j hk')⟩, h3.2⟩
  · rw [if_neg hc] at h2 ⊢
    rw [List.all_eq_true] at h2 ⊢
    intro j hj
    have h3 := h2 j hj
    simp only [Bool.or_eq_true] at h3 ⊢
    exact h3.imp id (fun h => h.imp (hd k j hk') id)
theorem pureG_mono (hd : ∀ k j, k < ops.size → dep k j = true → dep' k j = true) (h : pureG ops dep core ev = true) : pureG ops dep' core ev = true := by
  unfold pureG at h ⊢
  rw [Bool.and_eq_true] at h ⊢
  refine ⟨h.1, ?_⟩
  rw [List.all_eq_true]
  intro j hj
  have h1 := List.all_eq_true.1 h.2 j hj
  rw [Bool.or_eq_true] at h1 ⊢
  rcases h1 with h1 | h1
  · exact .inl h1
  · right
    rw [Bool.and_eq_true] at h1 ⊢
    refine ⟨h1.1, ?_⟩
    rw [List.all_eq_true]
    intro i hi
    have h2 := List.all_eq_true.1 h1.2 i hi
    simp only [Bool.or_eq_true] at h2 ⊢
    exact h2.imp id (fun h => h.imp id (fun h => h.imp (hd j i (List.mem_range.1 hj)) id))
theorem fold_bit (g : Nat → Nat) (i : Nat) : ∀ (l : List Nat) (acc : Nat), (l.foldl (fun a e => a ||| g e) acc).testBit i = true → acc.testBit i = true ∨ ∃ e ∈ l, (g e).testBit i = true
  | [], acc, h => .inl h
  | e :: l, acc, h => by
    rcases fold_bit g i l _ h with h1 | ⟨e', he, h1⟩
    · rw [Nat.testBit_or, Bool.or_eq_true] at h1
      rcases h1 with h1 | h1
      · exact .inl h1
      · exact .inr ⟨e, List.mem_cons_self, h1⟩
    · exact .inr ⟨e', List.mem_cons_of_mem _ he, h1⟩
def entN (ops : Array Oper) (k : Nat) : Nat := (waits ops k).foldl (fun acc e => acc ||| ((1 <<< e) ||| (tabN ops k).getD (k - 1 - e) 0)) 0
theorem tabN_get (k : Nat) : ∀ n, k < n → (tabN ops n).getD (n - 1 - k) 0 = entN ops k
  | 0, h => by omega
  | n + 1, h => by
    by_cases e : k = n
    · subst e
      have : k + 1 - 1 - k = 0 := by omega
      rw [this]; rfl
    · have h1 := tabN_get k n (by omega)
      have : n + 1 - 1 - k = (n - 1 - k) + 1 := by omega
      rw [this, ← h1]
      simp [tabN]
theorem waitsAll_mono : ∀ (f k i : Nat), i ∈ waitsAll ops f k → i ∈ waitsAll ops (f + 1) k
  | 0, k, i, h => by simp [waitsAll] at h
  | f + 1, k, i, h => by
    simp only [waitsAll, List.mem_append, List.mem_flatMap] at h ⊢
    rcases h with h | ⟨e, he, h⟩
    · exact .inl h
    · refine .inr ⟨e, he, ?_⟩
      have := waitsAll_mono f e i h
      simpa only [waitsAll, List.mem_append, List.mem_flatMap] using this
theorem waitsAll_le {f g k i : Nat} (hfg : f ≤ g) (h : i ∈ waitsAll ops f k) : i ∈ waitsAll ops g k := by
  induction hfg with
  | refl => exact h
  | step _ ih => exact waitsAll_mono _ _ _ ih
theorem entN_sound (hback : ∀ k e, e ∈ waits ops k → e < k) : ∀ (k i : Nat), (entN ops k).testBit i = true → i ∈ waitsAll ops (k + 1) k := by
  intro k
  induction k using Nat.strongRecOn with
  | _ k ih =>
    intro i h
    rcases fold_bit (fun e => (1 <<< e) ||| (tabN ops k).getD (k - 1 - e) 0) i _ _ h with h1 | ⟨e, he, h1⟩
    · simp at h1
    · have hek := hback k e he
      rw [Nat.testBit_or, Bool.or_eq_true] at h1
      simp only [waitsAll, List.mem_append, List.mem_flatMap]
      rcases h1 with h1 | h1
      · rw [Nat.one_shiftLeft, Nat.testBit_two_pow] at h1
        have : e = i := of_decide_eq_true h1
        subst this
        exact .inl he
      · rw [tabN_get e k hek] at h1
        have := ih e hek i h1
        exact .inr ⟨e, he, waitsAll_le hek this⟩
theorem depF_sound (hback : ∀ k e, e ∈ waits ops k → e < k) (k j : Nat) (hk : k < ops.size) (h : depF ops k j = true) : depB ops k j = true := by
  unfold depF at h
  rw [tabN_get k _ hk] at h
  have := waitsAll_le hk (entN_sound hback k j h)
  unfold depB
  simpa using this
theorem back_of (h : flowG ops dep core sz = true) : ∀ k e, e ∈ waits ops k → e < k := by
  intro k e he
  by_cases hk : k < ops.size
  · unfold flowG at h
    have h1 := List.all_eq_true.1 h k (List.mem_range.2 hk)
    rw [Bool.and_eq_true] at h1
    simpa using List.all_eq_true.1 h1.1 e he
  · unfold waits at he
    rw [Array.getElem?_eq_none (Nat.le_of_not_lt hk)] at he
    cases he
theorem flowF_ok (h : flowG ops (depF ops) core sz = true) : flowB ops core sz = true := flowG_mono (dep' := depB ops) (depF_sound (back_of h)) h
theorem pureF_ok (hb : flowG ops (depF ops) core sz = true) (h : pureG ops (depF ops) core ev = true) : pureB ops core ev = true := pureG_mono (dep' := depB ops) (depF_sound (back_of hb)) h
end
section
variable {P : Program} {ops : Array Oper} {C : World → Prop} {W : Nat → Act → Value → World → Prop} {Q : Exit → Act → World → Prop}
theorem wp_flowF {id : Nat} {a : Act} {w : World} (core ev : Nat → Bool) (sz : Nat) (ks : List Nat) (C : World → Prop) (W : Nat → Act → Value → World → Prop) (hm : P.follows .mixedOrders = true) (hB : flowG ops (depF ops) core sz = true) (hpu : pureG ops (depF ops) core ev = true) (hks : coreL ops core = ks) (hQ : ∀ c a d v w, Q (.panic c) (a.put (some d) v) w → Q (.panic c) a w) (hsz : a.tmps.size = sz)
    (hst : FStayB ops C W) (hC : C w.drew) (hfl : flowL P ops ev C W (fun w w' => Below w.heap.size w w') (flowFin P ops core C Q) ks [] a) : (Code.region id ops true).wp P Q a w :=
  wp_flow core ev sz ks C W hm (flowF_ok hB) (pureF_ok hB hpu) hks hQ hsz hst hC hfl
end
section
variable {P : Program} {ops : Array Oper} {core ev : Nat → Bool} {C : World → Prop} {W : Nat → Act → Value → World → Prop} {R : World → World → Prop} {Q : Exit → Act → World → Prop} {Fin : List Fact → Act → Prop} {k : Nat} {ks : List Nat} {F : List Fact} {a : Act} {w : World} {ts : List Nat}
/-- append onto things that have no room for more: what is made is new. -/
theorem run_app_full {α : Type} (f : α → List Value) (size : Nat) (hone : ∀ (xs : List α), ∀ u ∈ xs.flatMap f, u.oneCell' = true) (t ty : TypeId) (base : Nat) (E : TypeId) (z : Value) (bytes : Nat) (ht : P.underlying t = some (.slice E)) (hinfo : (P.info? E).map (fun i => (i.zero, i.size, i.bytes)) = some (some z, size, bytes)) (hzs : z.cells.size = size) (hsz : 0 < size) (hb1 : 1 ≤ bytes)
    (b n : Nat) (us : List α) (hn : us.length = n) (w : World) (hown : OwnX f size w base E (some ⟨b, 0, none⟩) n us) (A : Option Addr) (m c : Nat) (bs : List α) (hm : bs.length = m) (hm0 : 0 < m) (hr : RdX f size w A bs) (hbytes : (2 * (n + m)) * bytes ≤ 140737488355328) (hbase : base ≤ w.heap.size) (hus : ∀ j v, (us.flatMap f)[j]? = some v → w.cell? ⟨b, j, none⟩ = some v) (hul : (us.flatMap f).length = n * size) :
    ∃ A' c' w', (Builtin.append_ #[t, t] ty #[.slice (some ⟨b, 0, none⟩) n n, .slice A m c]).run P w = .ok (.slice A' (n + m) c') w' ∧ OwnX f size w' base E A' c' (us ++ bs) ∧ n + m ≤ c' ∧ c' ≤ 9223372036854775807 ∧ Below w.heap.size w w' := by
  subst hm
  obtain ⟨i, hi, hz, hsize, hby⟩ := info_parts hinfo
  have h63 : n + bs.length ≤ maxLen := by
    have : (2 * (n + bs.length)) * 1 ≤ (2 * (n + bs.length)) * bytes := Nat.mul_le_mul_left _ hb1
    unfold maxLen; omega
  have hbytes1 : (n + bs.length) * bytes ≤ 140737488355328 := by
    have : (n + bs.length) * bytes ≤ (2 * (n + bs.length)) * bytes := Nat.mul_le_mul_right _ (by omega)
    omega
  obtain ⟨v', w', hrun, h2, h3, h4⟩ := run_append_any (P := P) w base t ty E i z size bytes ht hi hz hsize hby hzs hsz (.slice (some ⟨b, 0, none⟩) n n) n (us.flatMap f) (by unfold OwnX at hown; rw [hn] at hown; exact hown) A bs.length c (bs.flatMap f) hr (hone bs) h63 hbytes1 hbase
  obtain ⟨A', c', rfl, hc1, hc2⟩ := own_shape _ h2
  have h2' : OwnX f size w' base E A' c' (us ++ bs) := by unfold OwnX; rw [List.flatMap_append, List.length_append, hn]; exact h2
  refine ⟨A', c', w', hrun, h2', hc1, by unfold maxLen at hc2; omega, ?_⟩
  obtain ⟨b1, off, rfl, hcell⟩ := hr.2 hm0
  have hg := run_append_grow (P := P) (w := w) t ty E i z ht hi hz ⟨b, 0, none⟩ n n (us.flatMap f) (by rw [hsize]; exact hul) (fun j v h => by rw [add_none, Nat.zero_add]; exact hus j v h) ⟨b1, off, none⟩ bs.length c (bs.flatMap f) (by rw [hsize]; exact hr.1) (fun j v h => by rw [add_none]; exact hcell j v h) (by omega) (by unfold maxLen at h63; omega) (by
    have h5 := nextslicecap_le (need := n + bs.length) (old := n) (by omega)
    have h6 : Builtin.nextslicecap (n + bs.length) n * i.bytes ≤ (2 * (n + bs.length)) * bytes := by rw [hby]; exact Nat.mul_le_mul_right _ h5
    omega)
  rw [hg] at hrun
  injection hrun with _ e
  rw [← e]
  exact (Below.refl _ _).drew.alloc (Nat.le_refl _) _
/-- .. as an event. -/
theorem fappF {α : Type} (d : Tmp) (f : α → List Value) (size : Nat) (hone : ∀ (xs : List α), ∀ u ∈ xs.flatMap f, u.oneCell' = true) (s x : Operand) (t : TypeId) (hk : decide (k < ops.size) = true) (hd : (opK ops k).dst = some d) (hw : Region.wanted (opK ops k) (yielded ops a.tmps) = true) (he : ev k = true)
    (ho : (opK ops k).op = .call { callee := .builtin .append, args := #[s, x], argTypes := #[t, t] })
    (base : Nat) (E : TypeId) (z : Value) (bytes : Nat) (ht : P.underlying t = some (.slice E)) (hinfo : (P.info? E).map (fun i => (i.zero, i.size, i.bytes)) = some (some z, size, bytes)) (hzs : z.cells.size = size) (hsz : 0 < size) (hb1 : 1 ≤ bytes)
    (b n : Nat) (us : List α) (hn : us.length = n) (hul : (us.flatMap f).length = n * size) (hs : a.eval s = .slice (some ⟨b, 0, none⟩) n n) (A : Option Addr) (m c : Nat) (bs : List α) (hx : a.eval x = .slice A m c) (hm : bs.length = m) (hm0 : 0 < m) (hbytes : (2 * (n + m)) * bytes ≤ 140737488355328)
    (hc : ∀ w, cls ops C F k w → OwnX f size w base E (some ⟨b, 0, none⟩) n us ∧ (∀ j v, (us.flatMap f)[j]? = some v → w.cell? ⟨b, j, none⟩ = some v) ∧ RdX f size w A bs ∧ base ≤ w.heap.size ∧ (∀ A' c' w', OwnX f size w' base E A' c' (us ++ bs) → n + m ≤ c' → c' ≤ 9223372036854775807 → Below w.heap.size w w' → W k a (.slice A' (n + m) c') w' ∧ C w' ∧ R w w'))
    (h : ∀ v, (∃ w, C w ∧ W k a v w) → flowL P ops ev C W R Fin ks ((k, W k a v) :: F) (a.put (some d) v)) : flowL P ops ev C W R Fin (k :: ks) F a := by
  refine flow_event (opK_some hk) hw he (fun w hcl => ?_) (fun v hv => by rw [hd]; exact h v hv)
  obtain ⟨hown, hus, hr, hbase, hK⟩ := hc w hcl
  obtain ⟨A', c', w', hrun, h1, h2, h3, h4⟩ := run_app_full (P := P) f size hone t (opK ops k).type base E z bytes ht hinfo hzs hsz hb1 b n us hn w hown A m c bs hm hm0 hr hbytes hbase hus hul
  have hfin := hK A' c' w' h1 h2 h3 h4
  unfold execOp
  simp only [ho, resolve, invoke, builtin, Sem.run_bind, Sem.run_pure, Result.andThen_ok, List.map_toArray, List.map_cons, List.map_nil, hs, hx, hrun]
  exact hfin
/-- The front of a slice. -/
theorem fslh (d : Tmp) (t : TypeId) (x y : Operand) (A : Option Addr) (n c p : Nat) (K : IntKind) (sz : Nat) (hk : decide (k < ops.size) = true) (hd : (opK ops k).dst = some d) (hw : Region.wanted (opK ops k) (yielded ops a.tmps) = true) (he : ev k = false)
    (ho : (opK ops k).op = .slice t x none (some y) none) (hx : a.eval x = .slice A n c) (hy : a.eval y = .int K (p : Int)) (ht : P.underlying t = some (.slice (P.elem t))) (hz : ∀ w, (sizeOf (P.elem t)).run P w = .ok sz w) (hpc : p ≤ c)
    (h : flowL P ops ev C W R Fin ks F (a.put (some d) (.slice A p c))) : flowL P ops ev C W R Fin (k :: ks) F a :=
  fq d _ hk hd hw he (fun w => by
    have h0 : (0 : Int) ≤ (p : Int) := by omega
    have h2 : (p : Int) ≤ (c : Int) := by omega
    have hA : Option.map (fun z : Addr => z.add 0) A = A := by cases A <;> rfl
    unfold execOp
    simp [ho, hx, hy, run_sliceAt_slice (h := ht), run_slice_h (ht := ht) (h0 := h0) (h2 := h2), hz, Result.andThen, sliced, hA]) h
/-- A load of one cell in the tail. -/
theorem tloadQ (d : Option Tmp) (v : Value) (ty : TypeId) (x : Operand) (b off : Nat) (desc : TypeDesc) (hd : (opK ops k).dst = d) (hw : Region.wanted (opK ops k) (yielded ops a.tmps) = true) (ho : (opK ops k).op = .load ty x) (hx : a.eval x = .pointer (some ⟨b, off, none⟩)) (hu : P.underlying ty = some desc) (hds : (match desc with | .struct _ | .array _ _ => true | _ => false) = false) (hc : w.cell? ⟨b, off, none⟩ = some v)
    (h : wpList P ops Q (ts.map (opK ops)) (a.put d v) w) : wpList P ops Q ((k :: ts).map (opK ops)) a w := by
  refine tval d v w hd hw ?_ h
  have hagg : (isAgg ty).run P w = .ok false w := by
    unfold isAgg
    rw [Sem.run_bind, run_underlying hu w]
    cases desc <;> simp_all
  have hl : (loadVar ty ⟨b, off, none⟩).run P w = .ok v w := by simp [loadVar, Sem.run_bind, hagg, hc]
  unfold execOp
  simp only [ho, hx, Instr.loadAt, Instr.sureAddr, Sem.run_bind, Sem.run_pure, Result.andThen_ok, hl]
end
end Go.Proofs.Ytihngonemdaihaa
