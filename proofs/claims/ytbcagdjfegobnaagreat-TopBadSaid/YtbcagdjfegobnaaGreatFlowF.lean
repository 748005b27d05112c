/- A region that draws its order, walked once: what waits for what, reckoned in one go (for regions of many operations). -/
import Derived.Test.YtbcagdjfegobnaaGreatFlowX
namespace Go.Proofs.YtbcagdjfegobnaaGreat
open Go.RowKit
set_option linter.unusedVariables false

section
variable (ops : Array Oper)
/-- What each operation waits for, at length, as bits: that of the last one first. -/
def tabN : Nat → List Nat
  | 0 => []
  | n + 1 => ((waits ops n).foldl (fun acc e => acc ||| ((1 <<< e) ||| (tabN n).getD (n - 1 - e) 0)) 0) :: tabN n
def depF (k i : Nat) : Bool := ((tabN ops ops.size).getD (ops.size - 1 - k) 0).testBit i
def flowG (dep : Nat → Nat → Bool) (core : Nat → Bool) (sz : Nat) : Bool :=
  (List.range ops.size).all fun k =>
    (waits ops k).all (fun e => e < k) &&
    (if core k then
      (waits ops k).all core &&
      (List.range ops.size).all (fun j => !core j || ((match dstOf ops j with
        | some d => d < sz && (!(looks ops k).contains d || dep k j) && (j == k || dstOf ops k != some d)
        | none => true))) &&
      (match ops[k]? with | some o => (match o.op with | Op.select _ _ => false | _ => true) | none => true)
    else (List.range ops.size).all (fun j => !core j || (dep k j || pu ops j)))
def pureG (dep : Nat → Nat → Bool) (core ev : Nat → Bool) : Bool := Region.noSelect ops &&
  (List.range ops.size).all fun j => !(core j && pu ops j) || (!ev j && (List.range ops.size).all fun i => i == j || ((waits ops i).contains j || (dep j i || (match ops[i]?, ops[j]? with | some oi, some oj => oj.apart ops oi | _, _ => true))))
end
section
variable {ops : Array Oper} {core ev : Nat → Bool} {dep dep' : Nat → Nat → Bool} {sz : Nat}
theorem flowG_mono (hd : ∀ k j, k < ops.size → dep k j = true → dep' k j = true) (h : flowG ops dep core sz = true) : flowG ops dep' core sz = true := by
  unfold flowG at h ⊢
  rw [List.all_eq_true] at h ⊢
  intro k hk
  have h1 := h k hk
  have hk' := List.mem_range.1 hk
  rw [Bool.and_eq_true] at h1 ⊢
  refine ⟨h1.1, ?_⟩
  have h2 := h1.2
  by_cases hc : core k = true
  · rw [if_pos hc] at h2 ⊢
    rw [Bool.and_eq_true, Bool.and_eq_true] at h2 ⊢
    refine ⟨⟨h2.1.1, ?_⟩, h2.2⟩
    rw [List.all_eq_true]
    intro j hj
    have h3 := List.all_eq_true.1 h2.1.2 j hj
    rw [Bool.or_eq_true] at h3 ⊢
    rcases h3 with h3 | h3
    · exact .inl h3
    · right
      cases hdj : dstOf ops j with
      | none => rfl
      | some d =>
        rw [hdj] at h3
        simp only [Bool.and_eq_true, Bool.or_eq_true] at h3 ⊢
        exact ⟨⟨h3.1.1, h3.1.2.imp id (hd k j hk')⟩, h3.2⟩
  · rw [if_neg hc] at h2 ⊢
    rw [List.all_eq_true] at h2 ⊢
    intro j hj
    have h3 := h2 j hj
    simp only [Bool.or_eq_true] at h3 ⊢
    exact h3.imp id (fun h => h.imp (hd k j hk') id)
theorem pureG_mono (hd : ∀ k j, k < ops.size → dep k j = true → dep' k j = true) (h : pureG ops dep core ev = true) : pureG ops dep' core ev = true := by
  unfold pureG at h ⊢
  rw [Bool.and_eq_true] at h ⊢
  refine ⟨h.1, ?_⟩
  rw [List.all_eq_true]
  intro j hj
  have h1 := List.all_eq_true.1 h.2 j hj
  rw [Bool.or_eq_true] at h1 ⊢
  rcases h1 with h1 | h1
  · exact .inl h1
  · right
    rw [Bool.and_eq_true] at h1 ⊢
    refine ⟨h1.1, ?_⟩
    rw [List.all_eq_true]
    intro i hi
    have h2 := List.all_eq_true.1 h1.2 i hi
    simp only [Bool.or_eq_true] at h2 ⊢
    exact h2.imp id (fun h => h.imp id (fun h => h.imp (hd j i (List.mem_range.1 hj)) id))
theorem fold_bit (g : Nat → Nat) (i : Nat) : ∀ (l : List Nat) (acc : Nat), (l.foldl (fun a e => a ||| g e) acc).testBit i = true → acc.testBit i = true ∨ ∃ e ∈ l, (g e).testBit i = true
  | [], acc, h => .inl h
  | e :: l, acc, h => by
    rcases fold_bit g i l _ h with h1 | ⟨e', he, h1⟩
    · rw [Nat.testBit_or, Bool.or_eq_true] at h1
      rcases h1 with h1 | h1
      · exact .inl h1
      · exact .inr ⟨e, List.mem_cons_self, h1⟩
    · exact .inr ⟨e', List.mem_cons_of_mem _ he, h1⟩
def entN (ops : Array Oper) (k : Nat) : Nat := (waits ops k).foldl (fun acc e => acc ||| ((1 <<< e) ||| (tabN ops k).getD (k - 1 - e) 0)) 0
theorem tabN_get (k : Nat) : ∀ n, k < n → (tabN ops n).getD (n - 1 - k) 0 = entN ops k
  | 0, h => by omega
  | n + 1, h => by
    by_cases e : k = n
    · subst e
      have : k + 1 - 1 - k = 0 := by omega
      rw [this]; rfl
    · have h1 := tabN_get k n (by omega)
      have : n + 1 - 1 - k = (n - 1 - k) + 1 := by omega
      rw [this, ← h1]
      simp [tabN]
theorem waitsAll_mono : ∀ (f k i : Nat), i ∈ waitsAll ops f k → i ∈ waitsAll ops (f + 1) k
  | 0, k, i, h => by simp [waitsAll] at h
  | f + 1, k, i, h => by
    simp only [waitsAll, List.mem_append, List.mem_flatMap] at h ⊢
    rcases h with h | ⟨e, he, h⟩
    · exact .inl h
    · refine .inr ⟨e, he, ?_⟩
      have := waitsAll_mono f e i h
      simpa only [waitsAll, List.mem_append, List.mem_flatMap] using this
theorem waitsAll_le {f g k i : Nat} (hfg : f ≤ g) (h : i ∈ waitsAll ops f k) : i ∈ waitsAll ops g k := by
  induction hfg with
  | refl => exact h
  | step _ ih => exact waitsAll_mono _ _ _ ih
theorem entN_sound (hback : ∀ k e, e ∈ waits ops k → e < k) : ∀ (k i : Nat), (entN ops k).testBit i = true → i ∈ waitsAll ops (k + 1) k := by
  intro k
  induction k using Nat.strongRecOn with
  | _ k ih =>
    intro i h
    rcases fold_bit (fun e => (1 <<< e) ||| (tabN ops k).getD (k - 1 - e) 0) i _ _ h with h1 | ⟨e, he, h1⟩
    · simp at h1
    · have hek := hback k e he
      rw [Nat.testBit_or, Bool.or_eq_true] at h1
      simp only [waitsAll, List.mem_append, List.mem_flatMap]
      rcases h1 with h1 | h1
      · rw [Nat.one_shiftLeft, Nat.testBit_two_pow] at h1
        have : e = i := of_decide_eq_true h1
        subst this
        exact .inl he
      · rw [tabN_get e k hek] at h1
        have := ih e hek i h1
        exact .inr ⟨e, he, waitsAll_le hek this⟩
theorem depF_sound (hback : ∀ k e, e ∈ waits ops k → e < k) (k j : Nat) (hk : k < ops.size) (h : depF ops k j = true) : depB ops k j = true := by
  unfold depF at h
  rw [tabN_get k _ hk] at h
  have := waitsAll_le hk (entN_sound hback k j h)
  unfold depB
  simpa using this
theorem back_of (h : flowG ops dep core sz = true) : ∀ k e, e ∈ waits ops k → e < k := by
  intro k e he
  by_cases hk : k < ops.size
  · unfold flowG at h
    have h1 := List.all_eq_true.1 h k (List.mem_range.2 hk)
    rw [Bool.and_eq_true] at h1
    simpa using List.all_eq_true.1 h1.1 e he
  · unfold waits at he
    rw [Array.getElem?_eq_none (Nat.le_of_not_lt hk)] at he
    cases he
theorem flowF_ok (h : flowG ops (depF ops) core sz = true) : flowB ops core sz = true := flowG_mono (dep' := depB ops) (depF_sound (back_of h)) h
theorem pureF_ok (hb : flowG ops (depF ops) core sz = true) (h : pureG ops (depF ops) core ev = true) : pureB ops core ev = true := pureG_mono (dep' := depB ops) (depF_sound (back_of hb)) h
end
section
variable {P : Program} {ops : Array Oper} {C : World → Prop} {W : Nat → Act → Value → World → Prop} {Q : Exit → Act → World → Prop}
theorem wp_flowF {id : Nat} {a : Act} {w : World} (core ev : Nat → Bool) (sz : Nat) (ks : List Nat) (C : World → Prop) (W : Nat → Act → Value → World → Prop) (hm : P.follows .mixedOrders = true) (hB : flowG ops (depF ops) core sz = true) (hpu : pureG ops (depF ops) core ev = true) (hks : coreL ops core = ks) (hQ : ∀ c a d v w, Q (.panic c) (a.put (some d) v) w → Q (.panic c) a w) (hsz : a.tmps.size = sz)
    (hst : FStayB ops C W) (hC : C w.drew) (hfl : flowL P ops ev C W (fun w w' => Below w.heap.size w w') (flowFin P ops core C Q) ks [] a) : (Code.region id ops true).wp P Q a w :=
  wp_flow core ev sz ks C W hm (flowF_ok hB) (pureF_ok hB hpu) hks hQ hsz hst hC hfl
end
end Go.Proofs.YtbcagdjfegobnaaGreat
