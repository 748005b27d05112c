/- A region that draws its order, by a condition that every step keeps. -/
import Derived.Test.YtbcagdjfegobnaaGreatAppL
import Derived.Orders
namespace Go.Proofs.YtbcagdjfegobnaaGreat
open Go.RowKit
set_option linter.unusedVariables false

section
variable {P : Program} {ops : Array Oper} {Q : Exit → Act → World → Prop} {md : Region.Mode}
theorem getD_lt {l : Array Bool} {i : Nat} (h : l.getD i true = false) : ∃ hi : i < l.size, l[i] = false := by
  unfold Array.getD at h
  split at h
  · rename_i hi; exact ⟨hi, h⟩
  · cases h
theorem count_listed {l : Array Bool} {i : Nat} (h : l.getD i true = false) : (l.setIfInBounds i true).toList.count false + 1 = l.toList.count false := by
  obtain ⟨hi, hv⟩ := getD_lt h
  have h1 : l.toList[i]'(by simpa using hi) = false := by simpa using hv
  rw [Array.toList_setIfInBounds, List.count_set (by simpa using hi), h1]
  have : 0 < l.toList.count false := List.count_pos_iff.2 (by rw [← h1]; exact List.getElem_mem _)
  rw [if_pos (by decide), if_neg (by decide)]
  omega
/-- An operation, as it stands in the region. -/
theorem wpOp_if {i : Nat} {o : Oper} {K : Act → World → Prop} {a : Act} {w : World} (ho : ops[i]? = some o) (h : if Region.wanted o (yielded ops a.tmps) = true then Oper.wp P o a w K Q else K (a.put o.dst undef) w) : wpOp P ops Q i K a w := by
  unfold wpOp
  rw [ho]
  dsimp only
  split
  · rename_i hw; rw [if_pos hw] at h; exact .inl h
  · rename_i hw; rw [if_neg hw] at h; exact h
/-- Whatever order is drawn: a condition that holds at the start, that every operation keeps that may come up, and that at the end says what is wanted. -/
theorem wpAny_inv {I : Array Bool → Act → World → Prop} (hstep : ∀ l a w i, I l a w → i ∈ Region.ready md ops l → wpOp P ops Q i (I (l.setIfInBounds i true)) a w)
    (hend : ∀ l a w, I l a w → Region.ready md ops l = [] → Q .normal a w) : ∀ (fuel : Nat) (l : Array Bool) (a : Act) (w : World), l.toList.count false ≤ fuel → I l a w → wpAny P md ops Q fuel l a w
  | 0, l, a, w, hc, hI => by
    have hr : Region.ready md ops l = [] := List.eq_nil_iff_forall_not_mem.2 fun i hi => by
      have := count_listed (mem_ready.1 hi).1
      omega
    exact ⟨hr, hend _ _ _ hI hr⟩
  | fuel + 1, l, a, w, hc, hI => ⟨fun h => hend _ _ _ hI h, fun i hi => wpOp_mono (fun a' w' h => wpAny_inv hstep hend fuel _ a' w' (by have := count_listed (mem_ready.1 hi).1; omega) h) (hstep l a w i hI hi)⟩
/-- Where none may come up, all have come up. -/
def backEdges (ops : Array Oper) : Bool := (List.range ops.size).all fun i => ((ops[i]?).map fun o => o.after.toList.all fun e => e.on < i).getD true
theorem ready_all {l : Array Bool} (h : Region.ready md ops l = []) (hsz : l.size = ops.size) (hb : backEdges ops = true) : ∀ n i, i < n → l.getD i true = true
  | 0, i, hi => absurd hi (Nat.not_lt_zero _)
  | n + 1, i, hi => by
    rcases Nat.lt_or_ge i n with h1 | h1
    · exact ready_all h hsz hb n i h1
    · obtain rfl : i = n := by omega
      cases hv : l.getD i true with
      | true => rfl
      | false =>
        exfalso
        obtain ⟨hi2, _⟩ := getD_lt hv
        have hi3 : i < ops.size := by omega
        have hm : i ∈ Region.ready md ops l := mem_ready.2 ⟨hv, ops[i], by simp [hi3], fun e he _ => by
          have h2 := List.all_eq_true.1 hb i (List.mem_range.2 hi3)
          simp only [Array.getElem?_eq_getElem hi3, Option.map_some, Option.getD_some] at h2
          have h3 := List.all_eq_true.1 h2 e (by simpa using he)
          have h4 : e.on < i := by simpa using h3
          have h5 := ready_all h hsz hb i e.on h4
          unfold Array.getD at h5 ⊢
          have h6 : e.on < l.size := by omega
          rw [dif_pos h6] at h5 ⊢
          exact h5⟩
        rw [h] at hm
        cases hm
end

/-- A chain 'append([]T{}, x...)' of a region: what has come up of it. A: where its row lies. -/
structure Chn {α : Type} (f : α → List Value) (m : Nat) (E : TypeId) (M : Nat) (w : World) (pt src : Value) (n : Nat) (xs : List α) (b0 b1 b2 b3 : Bool) (x0 x1 x2 x3 : Value) (A : Option Addr) : Prop where
  n0 : b0 = false → A = none
  e0 : b0 = true → b3 = false → x0 = .slice A 0 0 ∧ OwnX f m w M E A 0 []
  e1 : b1 = true → x1 = pt
  e2 : b2 = true → x2 = src
  e3 : b3 = true → ∃ c, x3 = .slice A n c ∧ n ≤ c ∧ c ≤ 9223372036854775807 ∧ OwnX f m w M E A c xs
  d3 : b3 = true → b0 = true
section
variable {α : Type} {f : α → List Value} {m : Nat} {E : TypeId} {M : Nat} {w w' : World} {pt src : Value} {n : Nat} {xs : List α} {b0 b1 b2 b3 : Bool} {x0 x1 x2 x3 : Value} {A : Option Addr}
theorem Chn.keep (h : Chn f m E M w pt src n xs b0 b1 b2 b3 x0 x1 x2 x3 A) (hk : ∀ c (ys : List α), OwnX f m w M E A c ys → OwnX f m w' M E A c ys) : Chn f m E M w' pt src n xs b0 b1 b2 b3 x0 x1 x2 x3 A where
  n0 := h.n0
  e0 := fun a b => ⟨(h.e0 a b).1, hk _ _ (h.e0 a b).2⟩
  e1 := h.e1
  e2 := h.e2
  e3 := fun a => by obtain ⟨c, h1, h2, h3, h4⟩ := h.e3 a; exact ⟨c, h1, h2, h3, hk _ _ h4⟩
  d3 := h.d3
theorem Chn.lt (h : Chn f m E M w pt src n xs b0 b1 b2 b3 x0 x1 x2 x3 A) : ∀ q, A.map (fun y : Addr => y.block) = some q → M ≤ q ∧ q < w.heap.size := fun q hq => by
  cases hb : b0 with
  | false => rw [h.n0 hb] at hq; cases hq
  | true =>
    cases hb3 : b3 with
    | false => exact (h.e0 hb hb3).2.lt (n := 0) q (by rw [slice_own]; exact hq)
    | true => obtain ⟨c, _, _, _, h4⟩ := h.e3 hb3; exact h4.lt (n := 0) q (by rw [slice_own]; exact hq)
theorem Chn.alloc (h : Chn f m E M w pt src n xs b0 b1 b2 b3 x0 x1 x2 x3 A) (o : Obj) : Chn f m E M (w.alloc o) pt src n xs b0 b1 b2 b3 x0 x1 x2 x3 A := h.keep fun _ _ ho => ho.alloc o
theorem Chn.set (h : Chn f m E M w pt src n xs b0 b1 b2 b3 x0 x1 x2 x3 A) {p : Addr} (hp : p.block < M) (u : Value) : Chn f m E M (w.setCell p u) pt src n xs b0 b1 b2 b3 x0 x1 x2 x3 A := h.keep fun _ _ ho => ho.set_below hp u
theorem Chn.grown (h : Chn f m E M w pt src n xs b0 b1 b2 b3 x0 x1 x2 x3 A) {row : Option Nat} (hg : w.grownBy w' row) (hne : ∀ q, A.map (fun y : Addr => y.block) = some q → row ≠ some q) : Chn f m E M w' pt src n xs b0 b1 b2 b3 x0 x1 x2 x3 A :=
  h.keep fun _ _ ho => ho.grown hg (by
    cases hA : A.map (fun y : Addr => y.block) with
    | none => exact .inl rfl
    | some q => exact .inr fun e => hne q hA e.symm)
theorem Chn.build (h : Chn f m E M w pt src n xs false b1 b2 b3 x0 x1 x2 x3 A) (hM : M ≤ w.heap.size) : Chn f m E M (w.alloc (.cells #[] E)) pt src n xs true b1 b2 b3 (.slice (some ⟨w.heap.size, 0, none⟩) 0 0) x1 x2 x3 (some ⟨w.heap.size, 0, none⟩) where
  n0 := fun a => by cases a
  e0 := fun _ _ => ⟨rfl, OwnX.made f m w M E hM⟩
  e1 := h.e1
  e2 := h.e2
  e3 := fun a => by have := h.d3 a; cases this
  d3 := fun _ => rfl
theorem Chn.addr (h : Chn f m E M w pt src n xs b0 b1 b2 b3 x0 x1 x2 x3 A) : Chn f m E M w pt src n xs b0 true b2 b3 x0 pt x2 x3 A := ⟨h.n0, h.e0, fun _ => rfl, h.e2, h.e3, h.d3⟩
theorem Chn.load (h : Chn f m E M w pt src n xs b0 b1 b2 b3 x0 x1 x2 x3 A) : Chn f m E M w pt src n xs b0 b1 true b3 x0 x1 src x3 A := ⟨h.n0, h.e0, h.e1, fun _ => rfl, h.e3, h.d3⟩
theorem Chn.app (h : Chn f m E M w pt src n xs true b1 b2 false x0 x1 x2 x3 A) {A' : Option Addr} {c : Nat} (ho : OwnX f m w' M E A' c xs) (h1 : n ≤ c) (h2 : c ≤ 9223372036854775807) : Chn f m E M w' pt src n xs true b1 b2 true x0 x1 x2 (.slice A' n c) A' :=
  ⟨fun a => Bool.noConfusion a, fun _ a => Bool.noConfusion a, h.e1, h.e2, fun _ => ⟨c, rfl, h1, h2, ho⟩, fun _ => rfl⟩
theorem Chn.zero (hA : A = none) : Chn f m E M w pt src n xs false false false false x0 x1 x2 x3 A :=
  ⟨fun _ => hA, fun a => Bool.noConfusion a, fun a => Bool.noConfusion a, fun a => Bool.noConfusion a, fun a => Bool.noConfusion a, fun a => Bool.noConfusion a⟩
end
end Go.Proofs.YtbcagdjfegobnaaGreat
