/- A region that draws its order, walked once in the order of the text: operations that yield one value in every world of a class, and events (calls, new blocks) of which a condition is told that stays. -/
import Derived.Test.YtbcagdjfegobnaaGreatOrderInv
namespace Go.Proofs.YtbcagdjfegobnaaGreat
open Go.RowKit
set_option linter.unusedVariables false

/-- An operation leaves the world alone and yields v. -/
def stillR (w : World) (v : Value) : Result Next → Prop
  | .ok (.value u) w' => w' = w ∧ u = v
  | .ok .skip w' => w' = w ∧ v = undef
  | _ => False
/-- An operation yields a value and a world of which R holds. -/
def doesR (P : Program) (R : Value → World → Prop) : Result Next → Prop
  | .ok (.value u) w' => R u w'
  | .ok .skip w' => R undef w'
  | .ok (.enter f args) w' => Calls P f args w' (fun e w'' => ∃ v, e = .returned v ∧ R v w'')
  | _ => False
theorem stillR.one {w : World} {v u : Value} {r : Result Next} (h : stillR w v r) (k : stillR w u r) : v = u := by
  cases r with
  | ok n w' => cases n <;> simp only [stillR] at h k <;> first | exact h.2.symm.trans k.2 | exact h.2.trans k.2.symm
  | halt x w' => exact h.elim
theorem doesR.mono {P : Program} {R R' : Value → World → Prop} {r : Result Next} (h : doesR P R r) (hr : ∀ v w, R v w → R' v w) : doesR P R' r := by
  cases r with
  | ok n w' => cases n <;> simp only [doesR] at h ⊢ <;> first | exact hr _ _ h | exact h.mono fun e w'' ⟨v, he, hv⟩ => ⟨v, he, hr _ _ hv⟩ | exact h
  | halt x w' => exact h
theorem doesR.some {P : Program} {R : Value → World → Prop} {r : Result Next} (h : doesR P R r) : ∃ v w, R v w := by
  cases r with
  | ok n w' =>
    cases n <;> simp only [doesR] at h
    case value u => exact ⟨_, _, h⟩
    case skip => exact ⟨_, _, h⟩
    case enter f args => obtain ⟨e, w'', _, ⟨v, _, hv⟩, _⟩ := h []; exact ⟨_, _, hv⟩
  | halt x w' => exact h.elim
theorem wp_of_still {P : Program} {o : Oper} {a : Act} {w : World} {K : Act → World → Prop} {Q : Exit → Act → World → Prop} {v : Value} (h : stillR w v ((execOp a.eval o).run P w)) (hk : K (a.put o.dst v) w) : o.wp P a w K Q := by
  unfold Oper.wp
  generalize (execOp a.eval o).run P w = r at *
  cases r with
  | ok n w' =>
    cases n <;> simp only [stillR] at h <;> simp only [Oper.upon]
    case value u => obtain ⟨rfl, rfl⟩ := h; exact hk
    case skip => obtain ⟨rfl, rfl⟩ := h; exact hk
  | halt x w' => exact h.elim
theorem wp_of_does {P : Program} {o : Oper} {a : Act} {w : World} {K : Act → World → Prop} {Q : Exit → Act → World → Prop} {R : Value → World → Prop} (h : doesR P R ((execOp a.eval o).run P w)) (hk : ∀ v w', R v w' → K (a.put o.dst v) w') : o.wp P a w K Q := by
  unfold Oper.wp
  generalize (execOp a.eval o).run P w = r at *
  cases r with
  | ok n w' =>
    cases n <;> simp only [doesR] at h <;> simp only [Oper.upon]
    case value u => exact hk _ _ h
    case skip => exact hk _ _ h
    case enter f args => exact h.mono fun e w'' ⟨v, he, hv⟩ => by subst he; exact hk _ _ hv
  | halt x w' => exact h.elim

section
variable (ops : Array Oper)
/-- What an operation waits for, at once. -/
def waits (k : Nat) : List Nat := match ops[k]? with
  | some o => (o.after.toList.filter (Region.binds .any)).map (·.on)
  | none => []
/-- .. and at length. -/
def waitsAll : Nat → Nat → List Nat
  | 0, _ => []
  | f + 1, k => waits ops k ++ (waits ops k).flatMap (waitsAll f)
def depB (k i : Nat) : Bool := (waitsAll ops ops.size k).contains i
def dstOf (k : Nat) : Option Tmp := (ops[k]?).bind (·.dst)
def looks (k : Nat) : List Tmp := match ops[k]? with
  | some o => o.looksAt ops
  | none => []
/-- Operations that yield the same in whatever world: they may be taken ahead of all. -/
def pureOp (o : Oper) : Bool := match o.op with
  | .extract _ _ => true
  | .move _ => true
  | .nilCheck _ => true
  | .fieldAddr _ _ _ => true
  | _ => false
def pu (j : Nat) : Bool := match ops[j]? with
  | some o => pureOp o
  | none => false
def pureB (core ev : Nat → Bool) : Bool := Region.noSelect ops &&
  (List.range ops.size).all fun j => !(core j && pu ops j) || (!ev j && (List.range ops.size).all fun i => i == j || ((waits ops i).contains j || (depB ops j i || (match ops[i]?, ops[j]? with | some oi, some oj => oj.apart ops oi | _, _ => true))))
/-- The order of the text serves: each operation of the core waits for operations of the core ahead of it alone; a slot is written once, and read by those alone that wait for its writer; the others wait for the whole core. -/
def flowB (core : Nat → Bool) (sz : Nat) : Bool :=
  (List.range ops.size).all fun k =>
    (waits ops k).all (fun e => e < k) &&
    (if core k then
      (waits ops k).all core &&
      (List.range ops.size).all (fun j => !core j || ((match dstOf ops j with
        | some d => d < sz && (!(looks ops k).contains d || depB ops k j) && (j == k || dstOf ops k != some d)
        | none => true))) &&
      (match ops[k]? with | some o => (match o.op with | Op.select _ _ => false | _ => true) | none => true)
    else (List.range ops.size).all (fun j => !core j || (depB ops k j || pu ops j)))
end

section
variable {ops : Array Oper}
theorem looks_of {k : Nat} {o : Oper} (ho : ops[k]? = some o) : looks ops k = o.looksAt ops := by simp [looks, ho]
theorem agree_exec {k : Nat} {o : Oper} (ho : ops[k]? = some o) (hs : ∀ cs b, o.op ≠ .select cs b) {a b : Act} (h : ∀ t ∈ looks ops k, a.tmps[t]? = b.tmps[t]?) : execOp a.eval o = execOp b.eval o :=
  execOp_congr o hs fun x hx => by
    cases x with
    | tmp t =>
      have ht : t ∈ looks ops k := by
        rw [looks_of ho]
        exact List.mem_append_left _ (List.mem_filterMap.2 ⟨.tmp t, by simpa using hx, rfl⟩)
      simp only [Act.eval, Array.getD_eq_getD_getElem?, h t ht]
    | _ => rfl
theorem agree_wanted {k : Nat} {o : Oper} (ho : ops[k]? = some o) {a b : Act} (h : ∀ t ∈ looks ops k, a.tmps[t]? = b.tmps[t]?) : Region.wanted o (yielded ops a.tmps) = Region.wanted o (yielded ops b.tmps) := by
  unfold Region.wanted
  cases hg : o.guard with
  | none => rfl
  | some p =>
    obtain ⟨j, want⟩ := p
    have e : yielded ops a.tmps j = yielded ops b.tmps j := by
      unfold yielded
      cases hd : (ops[j]?).bind (·.dst) with
      | none => simp
      | some d =>
        have ht : d ∈ looks ops k := by
          rw [looks_of ho]
          exact List.mem_append_right _ (by simp [hg, hd])
        simp [h d ht]
    simp [e]
end
end Go.Proofs.YtbcagdjfegobnaaGreat
