/- Frames in rows; all frames of bytes (plain). -/
import Derived.Test.YtenlgfeldkfmiaaNest
import Derived.Test.YtenlgfeldkfmiaaFrameDecWalk
namespace Go.Proofs.Ytenlgfeldkfmiaa
open Go.RowKit
set_option linter.unusedVariables false

/-- A frame as it lies in memory. -/
structure FrM where
  f : FrD
  A : Option Addr
  c : Nat
  B : Option Addr
  d : Nat
def fmc (x : FrM) : List Value := [.int .i64 x.f.kind, .int .i64 x.f.id, .int .i64 x.f.off, .bool x.f.fin, .int .i64 x.f.code, .slice x.A x.f.rngs.length x.c, .slice x.B x.f.data.length x.d]
def fmn : FrM := ⟨fnil, none, 0, none, 0⟩
theorem fmc_len (x : FrM) : (fmc x).length = 7 := rfl
theorem fmc_one (x : FrM) : ∀ u ∈ fmc x, u.oneCell' = true := by
  intro u hu
  simp only [fmc, List.mem_cons, List.not_mem_nil, or_false] at hu
  rcases hu with rfl | rfl | rfl | rfl | rfl | rfl | rfl <;> rfl
/-- Its ranges and data. -/
def FrX (w : World) (x : FrM) : Prop := RdX rcells 2 w x.A x.f.rngs ∧ RdB w x.B x.f.data ∧ x.f.rngs.length ≤ x.c ∧ x.c ≤ 9223372036854775807 ∧ x.f.data.length ≤ x.d ∧ x.d ≤ 9223372036854775807
theorem FrX.below {w w' : World} {x : FrM} (h : FrX w x) (hb : Below w.heap.size w w') : FrX w' x := ⟨RdX.below h.1 hb, h.2.1.below hb, h.2.2⟩
/-- A row of frames of the call's own. -/
def FrRow (w : World) (base : Nat) (A : Option Addr) (c : Nat) (xs : List FrM) : Prop := OwnX fmc 7 w base 40 A c xs ∧ ∀ x ∈ xs, FrX w x ∧ InOff w (A.map (·.block)) x.A ∧ InOff w (A.map (·.block)) x.B
theorem FrRow.nil (w : World) (base : Nat) : FrRow w base none 0 [] := ⟨OwnX.nil _ _ _, fun x hx => absurd hx List.not_mem_nil⟩
theorem FrRow.below {w w' : World} {base : Nat} {A : Option Addr} {c : Nat} {xs : List FrM} (h : FrRow w base A c xs) (hb : Below w.heap.size w w') : FrRow w' base A c xs :=
  ⟨h.1.carry hb, fun x hx => ⟨(h.2 x hx).1.below hb, (h.2 x hx).2.1.keep hb.size, (h.2 x hx).2.2.keep hb.size⟩⟩
theorem FrRow.snoc {w w' : World} {base : Nat} {A : Option Addr} {c g cap : Nat} {xs : List FrM} {x : FrM} (h : FrRow w base A c xs) (hx : FrX w x) (hA : InOff w (A.map (·.block)) x.A) (hB : InOff w (A.map (·.block)) x.B)
    (ho : OwnX fmc 7 w' base 40 (some ⟨g, 0, none⟩) cap (xs ++ [x])) (hg : w.grownBy w' (A.map (·.block))) (hl : A.map (·.block) = some g ∨ g = w.heap.size) (hs : w.heap.size ≤ w'.heap.size) : FrRow w' base (some ⟨g, 0, none⟩) cap (xs ++ [x]) := by
  refine ⟨ho, fun y hy => ?_⟩
  have hb : ∀ k, (some (⟨g, 0, none⟩ : Addr)).map (·.block) = some k → A.map (·.block) = some k ∨ w.heap.size ≤ k := fun k hk => by
    have hk : g = k := Option.some.inj hk
    subst hk
    rcases hl with h1 | h1
    · exact .inl h1
    · exact .inr (by omega)
  have hy' : FrX w y ∧ InOff w (A.map (·.block)) y.A ∧ InOff w (A.map (·.block)) y.B := by
    rcases List.mem_append.1 hy with h1 | h1
    · exact h.2 y h1
    · rw [List.mem_singleton.1 h1]; exact ⟨hx, hA, hB⟩
  obtain ⟨⟨a1, a2, a3⟩, b1, b2⟩ := hy'
  exact ⟨⟨Rd.grown a1 b1 hg, Rd.grown a2 b2 hg, a3⟩, b1.grow hs hb, b2.grow hs hb⟩
/-- A row of frames that is read. -/
def FrRd (w : World) (A : Option Addr) (xs : List FrM) : Prop := RdX fmc 7 w A xs ∧ ∀ x ∈ xs, FrX w x
theorem FrRow.rd {w : World} {base : Nat} {A : Option Addr} {c : Nat} {xs : List FrM} (h : FrRow w base A c xs) : FrRd w A xs := ⟨h.1.rd, fun x hx => (h.2 x hx).1⟩
theorem FrRd.below {w w' : World} {A : Option Addr} {xs : List FrM} (h : FrRd w A xs) (hb : Below w.heap.size w w') : FrRd w' A xs := ⟨RdX.below h.1 hb, fun x hx => (h.2 x hx).below hb⟩
theorem FrRd.at_ {w : World} {A : Option Addr} {xs : List FrM} (h : FrRd w A xs) (hn : 0 < xs.length) : ∃ b off, A = some ⟨b, off, none⟩ ∧ ∀ k, k < xs.length → ∀ j v, j < 7 → (fmc (xs.getD k fmn))[j]? = some v → w.cell? ⟨b, off + k * 7 + j, none⟩ = some v := RdX.at_ fmc_len h.1 fmn hn

/-! ### all frames of bytes -/
def fallN : Nat → List FrD → List UInt8 → List FrD × Int
  | 0, acc, _ => (acc, 0)
  | k + 1, acc, bs =>
    if bs = [] then (acc, 0) else if acc.length = 12 then ([], 8) else if (fdec bs).2.2 ≠ 0 then ([], (fdec bs).2.2) else fallN k (acc ++ [(fdec bs).1]) (bs.drop (fdec bs).2.1)
/-- All frames of bytes, and what is wrong. -/
def fall (bs : List UInt8) : List FrD × Int := fallN 13 [] bs
theorem fenc_ne (f : FrD) (ok : FrOk f) : fenc f ≠ [] := by
  have h := (encB_le8 (fkind f) (by have := (fkind_cases f ok).1; omega)).2
  intro e
  have h2 : (fenc f).length = 0 := by rw [e]; rfl
  unfold fenc at h2
  simp only [List.length_append] at h2; omega
theorem fallN_back (k : Nat) (acc fs : List FrD) (hk : acc.length + k = 13) (ok : ∀ f ∈ fs, FrOk f) : fallN k acc (fs.flatMap fenc) = if acc.length + fs.length ≤ 12 then (acc ++ fs, 0) else if k = 0 then (acc, 0) else ([], 8) := by
  induction k generalizing acc fs with
  | zero => rw [if_neg (by omega)]; rfl
  | succ k ih =>
    cases fs with
    | nil => rw [if_pos (by simp; omega)]; simp [fallN]
    | cons f fs =>
      have h1 := fenc_ne f (ok f List.mem_cons_self)
      have h2 : (f :: fs).flatMap fenc ≠ [] := by
        rw [List.flatMap_cons]; intro e; exact h1 (List.append_eq_nil_iff.1 e).1
      rw [fallN, if_neg h2]
      by_cases h12 : acc.length = 12
      · rw [if_pos h12, if_neg (by simp; omega), if_neg (by omega)]
      · rw [if_neg h12]
        have hd := fdec_back f (ok f List.mem_cons_self) (fs.flatMap fenc)
        rw [List.flatMap_cons, hd]
        simp only [ne_eq, not_true_eq_false, if_false, List.drop_left]
        rw [ih (acc ++ [f]) fs (by simp; omega) (fun g hg => ok g (List.mem_cons_of_mem _ hg))]
        simp only [List.length_append, List.length_cons, List.length_nil, List.append_assoc, List.cons_append, List.nil_append]
        by_cases h : acc.length + (0 + 1) + fs.length ≤ 12
        · rw [if_pos h, if_pos (by omega)]
        · rw [if_neg h, if_neg (by omega), if_neg (show ¬ k + 1 = 0 by omega), if_neg (by omega)]
/-- Frames one behind the other are read so, up to twelve. -/
theorem fall_back (fs : List FrD) (ok : ∀ f ∈ fs, FrOk f) : fall (fs.flatMap fenc) = if fs.length ≤ 12 then (fs, 0) else ([], 8) := by
  have h := fallN_back 13 [] fs rfl ok
  simpa [fall] using h
end Go.Proofs.Ytenlgfeldkfmiaa
