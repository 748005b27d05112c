/- A region that draws its order, walked once in the order of the text: the theorem. -/
import Derived.Test.YtbcagdjfegobnaaGreatFlow1
namespace Go.Proofs.YtbcagdjfegobnaaGreat
open Go.RowKit
set_option linter.unusedVariables false

section
variable (ops : Array Oper) (core : Nat → Bool)
/-- Who writes a slot. -/
def writer (t : Tmp) : Option Nat := (List.range ops.size).find? fun j => core j && dstOf ops j == some t
def lookV (a0 : Act) (vals : Nat → Value) (t : Tmp) : Value := match writer ops core t with
  | some j => vals j
  | none => a0.tmps.getD t undef
/-- The frame when all of the core have yielded these values. -/
def AV (a0 : Act) (vals : Nat → Value) : Act := { a0 with tmps := Array.ofFn fun t : Fin a0.tmps.size => lookV ops core a0 vals t }
end
section
variable {ops : Array Oper} {core : Nat → Bool}
theorem AV_get (a0 : Act) (vals : Nat → Value) (t : Nat) : (AV ops core a0 vals).tmps[t]? = if t < a0.tmps.size then some (lookV ops core a0 vals t) else none := by
  simp [AV, Array.getElem?_ofFn]
theorem writer_spec {t : Tmp} {j : Nat} (h : writer ops core t = some j) : j < ops.size ∧ core j = true ∧ dstOf ops j = some t := by
  have h1 := List.mem_of_find?_eq_some h
  have h2 := List.find?_some h
  simp at h1 h2
  exact ⟨h1, h2.1, h2.2⟩
theorem writer_none {t : Tmp} (h : writer ops core t = none) (j : Nat) (hj : j < ops.size) (hc : core j = true) : dstOf ops j ≠ some t := by
  have := List.find?_eq_none.1 h j (by simpa using hj)
  simpa [hc] using this
/-- What flowB says. -/
structure FlowOk (ops : Array Oper) (core : Nat → Bool) (sz : Nat) : Prop where
  back : ∀ k, k < ops.size → ∀ e ∈ waits ops k, e < k
  cl : ∀ k, k < ops.size → core k = true → ∀ e ∈ waits ops k, core e = true
  ssa : ∀ k j d, k < ops.size → core k = true → j < ops.size → core j = true → dstOf ops j = some d → d < sz ∧ (d ∈ looks ops k → depB ops k j = true) ∧ (j ≠ k → dstOf ops k ≠ some d)
  sel : ∀ k o cs b, ops[k]? = some o → core k = true → o.op ≠ .select cs b
  last : ∀ k j, k < ops.size → core k = false → j < ops.size → core j = true → depB ops k j = true ∨ pu ops j = true
theorem flow_ok {sz : Nat} (h : flowB ops core sz = true) : FlowOk ops core sz := by
  unfold flowB at h
  have h := fun k (hk : k < ops.size) => List.all_eq_true.1 h k (List.mem_range.2 hk)
  refine ⟨fun k hk e he => ?_, fun k hk hc e he => ?_, fun k j d hk hc hj hcj hd => ?_, fun k o cs b ho hc e => ?_, fun k j hk hc hj hcj => ?_⟩
  · have := h k hk
    rw [Bool.and_eq_true] at this
    simpa using List.all_eq_true.1 this.1 e he
  · have := h k hk
    rw [Bool.and_eq_true, if_pos hc, Bool.and_eq_true, Bool.and_eq_true] at this
    exact List.all_eq_true.1 this.2.1.1 e he
  · have := h k hk
    rw [Bool.and_eq_true, if_pos hc, Bool.and_eq_true, Bool.and_eq_true] at this
    have := List.all_eq_true.1 this.2.1.2 j (List.mem_range.2 hj)
    simp only [hcj, hd, Bool.not_true, Bool.false_or, Bool.and_eq_true, decide_eq_true_eq] at this
    obtain ⟨⟨h1, h2⟩, h3⟩ := this
    refine ⟨h1, fun hl => ?_, fun hne => ?_⟩
    · simpa [hl] using h2
    · simpa [hne] using h3
  · have hk : k < ops.size := (Array.getElem?_eq_some_iff.1 ho).1
    have := h k hk
    rw [Bool.and_eq_true, if_pos hc, Bool.and_eq_true, Bool.and_eq_true] at this
    have := this.2.2
    simp [ho, e] at this
  · have := h k hk
    rw [Bool.and_eq_true, if_neg (by simp [hc])] at this
    have := List.all_eq_true.1 this.2 j (List.mem_range.2 hj)
    simpa [hcj] using this
theorem writer_of {sz : Nat} (hok : FlowOk ops core sz) {t : Tmp} {j : Nat} (hj : j < ops.size) (hc : core j = true) (hd : dstOf ops j = some t) : writer ops core t = some j := by
  cases hw : writer ops core t with
  | none => exact absurd hd (writer_none hw j hj hc)
  | some i =>
    obtain ⟨h1, h2, h3⟩ := writer_spec hw
    by_cases e : i = j
    · rw [e]
    · exact absurd hd ((hok.ssa j i t hj hc h1 h2 h3).2.2 e)
theorem waitsAll_in {l : Nat → Prop} (hcl : ∀ k, l k → ∀ e ∈ waits ops k, l e) : ∀ (f k : Nat), (∀ e ∈ waits ops k, l e) → ∀ i ∈ waitsAll ops f k, l i
  | 0, k, hk, i, hi => by cases hi
  | f + 1, k, hk, i, hi => by
    rcases List.mem_append.1 hi with h | h
    · exact hk i h
    · obtain ⟨e, he, hi⟩ := List.mem_flatMap.1 h
      exact waitsAll_in hcl f e (hcl e (hk e he)) i hi
theorem waitsAll_lt {sz : Nat} (hok : FlowOk ops core sz) : ∀ (f k : Nat), k < ops.size → ∀ i ∈ waitsAll ops f k, i < k
  | 0, k, hk, i, hi => by cases hi
  | f + 1, k, hk, i, hi => by
    rcases List.mem_append.1 hi with h | h
    · exact hok.back k hk i h
    · obtain ⟨e, he, hi⟩ := List.mem_flatMap.1 h
      have h1 := hok.back k hk e he
      have h2 := waitsAll_lt hok f e (by omega) i hi
      omega
theorem dep_lt {sz : Nat} (hok : FlowOk ops core sz) {k i : Nat} (hk : k < ops.size) (h : depB ops k i = true) : i < k := waitsAll_lt hok _ k hk i (by simpa [depB] using h)
/-- A value that an operation k yields, which those do not see that do not wait for it. -/
theorem AV_upd {sz : Nat} (hok : FlowOk ops core sz) (a0 : Act) (vals vals' : Nat → Value) (e : Nat) (he : e < ops.size) (hce : core e = true) (hv : ∀ j, j < ops.size → core j = true → depB ops e j = true → vals' j = vals j) : ∀ t ∈ looks ops e, (AV ops core a0 vals').tmps[t]? = (AV ops core a0 vals).tmps[t]? := by
  intro t ht
  rw [AV_get, AV_get]
  congr 1
  unfold lookV
  cases hw : writer ops core t with
  | none => rfl
  | some j =>
    obtain ⟨h1, h2, h3⟩ := writer_spec hw
    simp only
    rw [hv j h1 h2 ((hok.ssa e j t he hce h1 h2 h3).2.1 ht)]
end
end Go.Proofs.YtbcagdjfegobnaaGreat
