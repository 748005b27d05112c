/- Rows of things whose parts lie elsewhere: append of one thing, and where the new row lies. -/
import Derived.Test.YtihngonemdaihaaOwn
namespace Go.Proofs.Ytihngonemdaihaa
open Go.RowKit
set_option linter.unusedVariables false

theorem blk_of (A : Option Addr) (n c : Nat) : (Value.slice A n c).ownBlock = A.map (·.block) := by cases A <;> rfl
/-- What is read lies in no block that is to come, nor in the block bo. -/
def InOff (w : World) (bo : Option Nat) (A : Option Addr) : Prop := ∀ a, A = some a → a.block < w.heap.size ∧ bo ≠ some a.block
theorem InOff.nil (w : World) (bo : Option Nat) : InOff w bo none := fun a h => by cases h
theorem InOff.grow {w w' : World} {bo bo' : Option Nat} {A : Option Addr} (h : InOff w bo A) (hs : w.heap.size ≤ w'.heap.size) (hb : ∀ k, bo' = some k → bo = some k ∨ w.heap.size ≤ k) : InOff w' bo' A := fun a ha => by
  obtain ⟨h1, h2⟩ := h a ha
  refine ⟨Nat.lt_of_lt_of_le h1 hs, fun e => ?_⟩
  rcases hb _ e with h3 | h3
  · exact h2 h3
  · omega
theorem InOff.keep {w w' : World} {bo : Option Nat} {A : Option Addr} (h : InOff w bo A) (hs : w.heap.size ≤ w'.heap.size) : InOff w' bo A := h.grow hs fun k hk => .inl hk
theorem InOff.fresh {w w' : World} {bo : Option Nat} {A : Option Addr} (h : ∀ a, A = some a → w.heap.size ≤ a.block ∧ a.block < w'.heap.size) (hb : ∀ k, bo = some k → k < w.heap.size) : InOff w' bo A := fun a ha => by
  obtain ⟨h1, h2⟩ := h a ha
  exact ⟨h2, fun e => by have := hb _ e; omega⟩
theorem Rd.grown {w w' : World} {size n : Nat} {A : Option Addr} {xs : List Value} {bo : Option Nat} (h : Rd w size A n xs) (hi : InOff w bo A) (hg : w.grownBy w' bo) : Rd w' size A n xs :=
  ⟨h.1, fun hn => by
    obtain ⟨b, off, rfl, hc⟩ := h.2 hn
    obtain ⟨h1, h2⟩ := hi _ rfl
    exact ⟨b, off, rfl, fun j v hv => (World.cell?_of_block (hg.block b h1 (fun e => h2 e.symm))).trans (hc j v hv)⟩⟩

section
variable {P : Program} {α : Type} (f : α → List Value) (size bytes : Nat) (hf : ∀ x, (f x).length = size) (hone : ∀ x, ∀ u ∈ f x, u.oneCell' = true)
include hf hone
/-- append of one thing, at an operation. -/
theorem wp_addN {w : World} {o : Oper} {a : Act} {K : Act → World → Prop} {Q : Exit → Act → World → Prop} (s x : Operand) (t : TypeId)
    (ho : o.op = .call { callee := .builtin .append, args := #[s, x], argTypes := #[t, t] })
    (E : TypeId) (z : Value) (ht : P.underlying t = some (.slice E)) (hinfo : (P.info? E).map (fun i => (i.zero, i.size, i.bytes)) = some (some z, size, bytes)) (hzs : z.cells.size = size) (hsz : 0 < size) (hb1 : 1 ≤ bytes)
    (base : Nat) (A : Option Addr) (m c : Nat) (l : List α) (hl : l.length = m) (hs : a.eval s = .slice A m c) (hown : OwnX f size w base E A c l)
    (p : α) (G d : Nat) (hx : a.eval x = .slice (some ⟨G, 0, none⟩) 1 d) (hr : Rd w size (some ⟨G, 0, none⟩) 1 (f p)) (k : Nat) (hk : m + 1 = k) (hm : (m + 1) * bytes ≤ 140737488355328) (hbase : base ≤ w.heap.size)
    (h : ∀ g cap w', OwnX f size w' base E (some ⟨g, 0, none⟩) cap (l ++ [p]) → k ≤ cap → cap ≤ 9223372036854775807 → Below base w w' → w.grownBy w' (A.map (·.block)) → (A.map (·.block) = some g ∨ g = w.heap.size) → g < w'.heap.size → K (a.put o.dst (.slice (some ⟨g, 0, none⟩) k cap)) w') :
    o.wp P a w K Q := by
  subst hk
  subst hl
  obtain ⟨i, hi, hz, hsize, hby⟩ := info_parts hinfo
  have hown' : w.ownsRow base E size (.slice A l.length c) l.length (l.flatMap f) := hown
  have hml : l.length + 1 ≤ maxLen := by
    have : (l.length + 1) * 1 ≤ (l.length + 1) * bytes := Nat.mul_le_mul_left _ hb1
    unfold maxLen; omega
  refine wp_append_lies w s x t ho base E i z size bytes ht hi hz hsize hby hzs hsz _ l.length (l.flatMap f) hs hown' ⟨G, 0, none⟩ 1 d (f p) hx (by rw [hf]; omega) ?_ (hone p) (by decide) hml hm hbase _ rfl fun g cap w' h2 h3 h4 h5 => ?_
  · intro j u hu
    obtain ⟨b, off, e, hc⟩ := hr.2 (by decide)
    injection e with e; injection e with e1 e2; subst e1; subst e2
    rw [add_none]; exact hc j u hu
  · rw [blk_of] at h3 h4
    have h2' : OwnX f size w' base E (some ⟨g, 0, none⟩) cap (l ++ [p]) := by unfold OwnX; simpa using h2
    have hcap := h2'.cap
    rw [List.length_append] at hcap
    exact h g cap w' h2' hcap.1 hcap.2 ((Below.refl _ _).grown (by rw [← blk_of A l.length c] at h3; exact h3) hbase (fun k hk => (hown'.lt k hk).1)) h3 h4 h5
theorem wpList_addN {w : World} {ops : Array Oper} {rest : List Oper} {o : Oper} {a : Act} {Q : Exit → Act → World → Prop} (hg : o.guard = none) (s x : Operand) (t : TypeId)
    (ho : o.op = .call { callee := .builtin .append, args := #[s, x], argTypes := #[t, t] })
    (E : TypeId) (z : Value) (ht : P.underlying t = some (.slice E)) (hinfo : (P.info? E).map (fun i => (i.zero, i.size, i.bytes)) = some (some z, size, bytes)) (hzs : z.cells.size = size) (hsz : 0 < size) (hb1 : 1 ≤ bytes)
    (base : Nat) (A : Option Addr) (m c : Nat) (l : List α) (hl : l.length = m) (hs : a.eval s = .slice A m c) (hown : OwnX f size w base E A c l)
    (p : α) (G d : Nat) (hx : a.eval x = .slice (some ⟨G, 0, none⟩) 1 d) (hr : Rd w size (some ⟨G, 0, none⟩) 1 (f p)) (k : Nat) (hk : m + 1 = k) (hm : (m + 1) * bytes ≤ 140737488355328) (hbase : base ≤ w.heap.size)
    (h : ∀ g cap w', OwnX f size w' base E (some ⟨g, 0, none⟩) cap (l ++ [p]) → k ≤ cap → cap ≤ 9223372036854775807 → Below base w w' → w.grownBy w' (A.map (·.block)) → (A.map (·.block) = some g ∨ g = w.heap.size) → g < w'.heap.size → wpList P ops Q rest (a.put o.dst (.slice (some ⟨g, 0, none⟩) k cap)) w') :
    wpList P ops Q (o :: rest) a w :=
  wpList_plain hg fun _ hK => wp_addN f size bytes hf hone s x t ho E z ht hinfo hzs hsz hb1 base A m c l hl hs hown p G d hx hr k hk hm hbase fun g cap w' h1 h2 h3 h4 h5 h6 h7 => hK _ _ (h g cap w' h1 h2 h3 h4 h5 h6 h7)
theorem step_addN {w : World} {ops : Array Oper} {o : Oper} {a : Act} {K : Act → World → Prop} {Q : Exit → Act → World → Prop} {E' : Prop} (hg : o.guard = none) (s x : Operand) (t : TypeId)
    (ho : o.op = .call { callee := .builtin .append, args := #[s, x], argTypes := #[t, t] })
    (E : TypeId) (z : Value) (ht : P.underlying t = some (.slice E)) (hinfo : (P.info? E).map (fun i => (i.zero, i.size, i.bytes)) = some (some z, size, bytes)) (hzs : z.cells.size = size) (hsz : 0 < size) (hb1 : 1 ≤ bytes)
    (base : Nat) (A : Option Addr) (m c : Nat) (l : List α) (hl : l.length = m) (hs : a.eval s = .slice A m c) (hown : OwnX f size w base E A c l)
    (p : α) (G d : Nat) (hx : a.eval x = .slice (some ⟨G, 0, none⟩) 1 d) (hr : Rd w size (some ⟨G, 0, none⟩) 1 (f p)) (k : Nat) (hk : m + 1 = k) (hm : (m + 1) * bytes ≤ 140737488355328) (hbase : base ≤ w.heap.size)
    (h : ∀ g cap w', OwnX f size w' base E (some ⟨g, 0, none⟩) cap (l ++ [p]) → k ≤ cap → cap ≤ 9223372036854775807 → Below base w w' → w.grownBy w' (A.map (·.block)) → (A.map (·.block) = some g ∨ g = w.heap.size) → g < w'.heap.size → K (a.put o.dst (.slice (some ⟨g, 0, none⟩) k cap)) w') :
    if Region.wanted o (yielded ops a.tmps) = true then Oper.wp P o a w K Q else E' := by
  rw [if_pos (by simp [Region.wanted, hg])]
  exact wp_addN f size bytes hf hone s x t ho E z ht hinfo hzs hsz hb1 base A m c l hl hs hown p G d hx hr k hk hm hbase h
end
end Go.Proofs.Ytihngonemdaihaa
