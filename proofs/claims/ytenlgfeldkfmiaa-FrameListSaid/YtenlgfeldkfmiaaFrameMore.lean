/- Plain: what is read of frames does not depend on what stands behind; what is read may be, and is written in no more bytes. -/
import Derived.Test.YtenlgfeldkfmiaaFrame
namespace Go.Proofs.Ytenlgfeldkfmiaa
open Go.RowKit
set_option linter.unusedVariables false

theorem dropF_app {α : Type} (p q : List α) (k : Nat) (h : k ≤ p.length) : (p ++ q).drop k = p.drop k ++ q := List.drop_append_of_le_length h
theorem midF_app {α : Type} (p q : List α) (u n : Nat) (h : u + n ≤ p.length) : ((p ++ q).drop u).take n = (p.drop u).take n := by
  rw [List.drop_append_of_le_length (by omega), List.take_append_of_le_length (by simp; omega)]
theorem getDF_app {α : Type} (p q : List α) (i : Nat) (d : α) (h : i < p.length) : (p ++ q).getD i d = p.getD i d := by
  simp [List.getD, List.getElem?_append_left h]
theorem decRF_app (p q : List UInt8) (h : (decR p).2.2 = 0) : decR (p ++ q) = decR p := by
  rcases decR_cases p with ⟨e, _⟩ | ⟨n, K, e, e1, e2, e3, e4, e5⟩
  · rw [e] at h; simp at h
  · have hl : decLen (p ++ q) = decLen p := by unfold decLen; rw [getDF_app _ _ _ _ (by omega)]
    rw [e]
    unfold decR
    rw [hl, ← e1, if_neg (by simp; omega), e2]
    have : decN (p ++ q) (K - 1) = decN p (K - 1) := by
      unfold decN; rw [getDF_app _ _ _ _ (by omega), midF_app _ _ _ _ (by omega)]
    rw [this]

def ext (q : List UInt8) (y : EyeD) : EyeD := ⟨y.b ++ q, y.u, y.e⟩
/-- Errors stay; what is read, if it does not end too early, is read so whatever stands behind. -/
def Good {α : Type} (F : EyeD → α × EyeD) : Prop := (∀ y, y.e ≠ 0 → (F y).2.e = y.e) ∧ ∀ y q, (F y).2.e ≠ 4 → F (ext q y) = ((F y).1, ext q (F y).2)
theorem Good.bind {α β : Type} {F : EyeD → α × EyeD} {G : α → EyeD → β × EyeD} (hF : Good F) (hG : ∀ a, Good (G a)) : Good (fun y => G (F y).1 (F y).2) := by
  refine ⟨fun y h => ?_, fun y q h => ?_⟩
  · have h1 := hF.1 y h
    exact ((hG _).1 _ (by rw [h1]; exact h)).trans h1
  · have h4 : (F y).2.e ≠ 4 := fun h4 => h (by rw [(hG _).1 _ (by rw [h4]; decide)]; exact h4)
    show G (F (ext q y)).1 (F (ext q y)).2 = _
    rw [hF.2 y q h4]
    exact (hG _).2 _ q h
theorem Good.map {α β : Type} {F : EyeD → α × EyeD} (hF : Good F) (f : α → β) : Good (fun y => (f (F y).1, (F y).2)) :=
  ⟨fun y h => hF.1 y h, fun y q h => by show (f (F (ext q y)).1, (F (ext q y)).2) = _; rw [hF.2 y q h]⟩
theorem Good.pure {α : Type} (a : α) : Good (fun y => (a, y)) := ⟨fun _ _ => rfl, fun _ _ _ => rfl⟩
theorem yFail_ext (e : Int) (q : List UInt8) (y : EyeD) : yFail e (ext q y) = ext q (yFail e y) := by
  unfold yFail ext; split <;> rfl
theorem yFail_e {e : Int} {y : EyeD} (h : y.e ≠ 0) : yFail e y = y := if_neg h
theorem Good.fail {α : Type} (a : α) (e : Int) : Good (fun y => (a, yFail e y)) :=
  ⟨fun y h => by show (yFail e y).e = y.e; rw [yFail_e h], fun y q _ => by show (a, yFail e (ext q y)) = _; rw [yFail_ext]⟩
theorem Good.ite {α : Type} {F G : EyeD → α × EyeD} (c : Prop) [Decidable c] (hF : Good F) (hG : Good G) : Good (fun y => if c then F y else G y) := by
  by_cases h : c
  · simp only [if_pos h]; exact hF
  · simp only [if_neg h]; exact hG
theorem Good.guard {α : Type} {F : EyeD → α × EyeD} (d : α) (hF : Good F) : Good (fun y => if y.e ≠ 0 then (d, y) else F y) := by
  refine ⟨fun y h => by show (if y.e ≠ 0 then (d, y) else F y).2.e = _; rw [if_pos h], fun y q h => ?_⟩
  show (if y.e ≠ 0 then (d, ext q y) else F (ext q y)) = _
  by_cases h0 : y.e ≠ 0
  · simp only [if_pos h0]
  · simp only [if_neg h0] at h ⊢; exact hF.2 y q h

theorem yNum_good : Good yNum := by
  refine ⟨fun y h => by unfold yNum; rw [if_pos h], fun y q h => ?_⟩
  unfold yNum at *
  show (if y.e ≠ 0 then (0, ext q y) else if (decR (y.b ++ q)).2.2 ≠ 0 then (0, ⟨y.b ++ q, y.u, (decR (y.b ++ q)).2.2⟩) else ((decR (y.b ++ q)).1.toNat, ⟨(y.b ++ q).drop (decR (y.b ++ q)).2.1.toNat, y.u + (decR (y.b ++ q)).2.1.toNat, 0⟩)) = _
  by_cases h0 : y.e ≠ 0
  · simp only [if_pos h0]
  · simp only [if_neg h0] at h ⊢
    rcases decR_cases y.b with ⟨e, _⟩ | ⟨n, K, e, e1, e2, e3, e4, e5⟩
    · exfalso; apply h; rw [e]; rfl
    · have hz : (decR y.b).2.2 = 0 := by rw [e]
      rw [decRF_app _ q hz, e]
      simp only [ne_eq, not_true_eq_false, if_false, Int.toNat_natCast, ext, dropF_app _ q _ e3]
theorem yTake_good (n : Nat) : Good (yTake n) := by
  refine ⟨fun y h => by unfold yTake; rw [if_pos h], fun y q h => ?_⟩
  unfold yTake at *
  show (if y.e ≠ 0 then ([], ext q y) else if (y.b ++ q).length < n then ([], ⟨y.b ++ q, y.u, 4⟩) else ((y.b ++ q).take n, ⟨(y.b ++ q).drop n, y.u + n, 0⟩)) = _
  by_cases h0 : y.e ≠ 0
  · simp only [if_pos h0]
  · simp only [if_neg h0] at h ⊢
    by_cases h1 : y.b.length < n
    · rw [if_pos h1] at h; exact absurd rfl h
    · rw [if_neg h1, if_neg (by simp; omega), List.take_append_of_le_length (by omega), dropF_app _ q _ (by omega)]
      rfl
theorem yStep_good (hi : Int) : Good (yStep hi) := by
  have := yNum_good.bind (G := fun (n : Nat) y => (((hi - n, hi) : Rng), if hi - n < 0 then yFail 6 y else y)) fun n => by
    by_cases h : hi - (n : Int) < 0
    · simp only [if_pos h]; exact Good.fail _ 6
    · simp only [if_neg h]; exact Good.pure _
  exact this
theorem yMore_good (k : Nat) : ∀ lo, Good (yMore k lo) := by
  induction k with
  | zero => exact fun lo => Good.pure _
  | succ k ih =>
    intro lo
    have h2 : ∀ n : Nat, Good (fun y => ((yStep (lo - n - 2) y).1 :: (yMore k (yStep (lo - n - 2) y).1.1 (yStep (lo - n - 2) y).2).1, (yMore k (yStep (lo - n - 2) y).1.1 (yStep (lo - n - 2) y).2).2)) := fun n => by
      have := (yStep_good (lo - n - 2)).bind (G := fun x y => (x :: (yMore k x.1 y).1, (yMore k x.1 y).2)) fun x => (ih x.1).map (fun l => x :: l)
      exact this
    have h3 := yNum_good.bind (G := fun (n : Nat) y => ((yStep (lo - n - 2) y).1 :: (yMore k (yStep (lo - n - 2) y).1.1 (yStep (lo - n - 2) y).2).1, (yMore k (yStep (lo - n - 2) y).1.1 (yStep (lo - n - 2) y).2).2)) h2
    have h4 := h3.guard []
    exact h4
theorem yMany_good : Good yMany := by
  have := yNum_good.bind (G := fun n y => (n, if 6 ≤ n then yFail 1 y else y)) fun n => by
    by_cases h : 6 ≤ n
    · simp only [if_pos h]; exact Good.fail _ 1
    · simp only [if_neg h]; exact Good.pure _
  exact this
theorem yList_good (hi : Int) (n : Nat) : Good (yList hi n) := by
  have := ((yStep_good hi).bind (G := fun x y => (x :: (yMore n x.1 y).1, (yMore n x.1 y).2)) fun x => (yMore_good n x.1).map (fun l => x :: l)).guard []
  exact this
theorem yRngs_good : Good yRngs := by
  have h1 : ∀ hi : Nat, Good (fun y => yList hi (yMany y).1 (yMany y).2) := fun hi => by
    have := yMany_good.bind (G := fun n y => yList hi n y) fun n => yList_good hi n
    exact this
  have := yNum_good.bind (G := fun (hi : Nat) y => yList hi (yMany y).1 (yMany y).2) h1
  exact this
theorem ifR_good (b : Bool) : Good (ifR b) := by cases b; exact Good.pure _; exact yRngs_good
theorem ifN_good (b : Bool) : Good (ifN b) := by cases b; exact Good.pure _; exact yNum_good
theorem ifC_good (w c : Bool) : Good (ifC w c) := by
  cases w with
  | false => exact ifN_good c
  | true => have := (yTake_good 8).map (fun l => valB l 0); exact this
theorem yData_good : Good yData := by
  have := yNum_good.bind (G := fun n y => yTake n (if 120 < n then yFail 1 y else y)) fun n => by
    by_cases h : 120 < n
    · simp only [if_pos h]
      have := (Good.fail () 1).bind (G := fun _ y => yTake n y) fun _ => yTake_good n
      exact this
    · simp only [if_neg h]; exact yTake_good n
  exact this
theorem ifD_good (b : Bool) : Good (ifD b) := by cases b; exact Good.pure _; exact yData_good
theorem fbody_good (k : Nat) (fin : Bool) : Good (fbody k fin) := by
  have h5 : ∀ r i o c, Good (fun y => ((⟨k, i, o, fin, c, r, (ifD (pData k) y).1⟩ : FrD), (ifD (pData k) y).2)) := fun r i o c => (ifD_good (pData k)).map (fun d => (⟨k, i, o, fin, c, r, d⟩ : FrD))
  have h4 : ∀ r i o, Good (fun y => ((⟨k, i, o, fin, (ifC (pWord k) (pCode k) y).1, r, (ifD (pData k) (ifC (pWord k) (pCode k) y).2).1⟩ : FrD), (ifD (pData k) (ifC (pWord k) (pCode k) y).2).2)) := fun r i o => by
    have := (ifC_good (pWord k) (pCode k)).bind (G := fun c y => ((⟨k, i, o, fin, c, r, (ifD (pData k) y).1⟩ : FrD), (ifD (pData k) y).2)) (h5 r i o)
    exact this
  have h3 : ∀ r i, Good (fun y => ((⟨k, i, (ifN (pOff k) y).1, fin, (ifC (pWord k) (pCode k) (ifN (pOff k) y).2).1, r, (ifD (pData k) (ifC (pWord k) (pCode k) (ifN (pOff k) y).2).2).1⟩ : FrD), (ifD (pData k) (ifC (pWord k) (pCode k) (ifN (pOff k) y).2).2).2)) := fun r i => by
    have := (ifN_good (pOff k)).bind (G := fun o y => ((⟨k, i, o, fin, (ifC (pWord k) (pCode k) y).1, r, (ifD (pData k) (ifC (pWord k) (pCode k) y).2).1⟩ : FrD), (ifD (pData k) (ifC (pWord k) (pCode k) y).2).2)) (h4 r i)
    exact this
  have h2 : ∀ r, Good (fun y => ((⟨k, (ifN (pId k) y).1, (ifN (pOff k) (ifN (pId k) y).2).1, fin, (ifC (pWord k) (pCode k) (ifN (pOff k) (ifN (pId k) y).2).2).1, r, (ifD (pData k) (ifC (pWord k) (pCode k) (ifN (pOff k) (ifN (pId k) y).2).2).2).1⟩ : FrD), (ifD (pData k) (ifC (pWord k) (pCode k) (ifN (pOff k) (ifN (pId k) y).2).2).2).2)) := fun r => by
    have := (ifN_good (pId k)).bind (G := fun i y => ((⟨k, i, (ifN (pOff k) y).1, fin, (ifC (pWord k) (pCode k) (ifN (pOff k) y).2).1, r, (ifD (pData k) (ifC (pWord k) (pCode k) (ifN (pOff k) y).2).2).1⟩ : FrD), (ifD (pData k) (ifC (pWord k) (pCode k) (ifN (pOff k) y).2).2).2)) (h3 r)
    exact this
  have := (ifR_good (k == 2)).bind (G := fun r y => ((⟨k, (ifN (pId k) y).1, (ifN (pOff k) (ifN (pId k) y).2).1, fin, (ifC (pWord k) (pCode k) (ifN (pOff k) (ifN (pId k) y).2).2).1, r, (ifD (pData k) (ifC (pWord k) (pCode k) (ifN (pOff k) (ifN (pId k) y).2).2).2).1⟩ : FrD), (ifD (pData k) (ifC (pWord k) (pCode k) (ifN (pOff k) (ifN (pId k) y).2).2).2).2)) h2
  exact this
/-- What is read does not depend on what stands behind it, if it does not end too early. -/
theorem fdec_app (p q : List UInt8) (h : (fdec p).2.2 ≠ 4) : fdec (p ++ q) = fdec p := by
  have hn := yNum_good.2 ⟨p, 0, 0⟩ q
  have hx : ext q ⟨p, 0, 0⟩ = ⟨p ++ q, 0, 0⟩ := rfl
  rw [hx] at hn
  unfold fdec at h ⊢
  simp only at h ⊢
  generalize yNum ⟨p, 0, 0⟩ = n at *
  by_cases h1 : n.2.e ≠ 0
  · rw [if_pos h1] at h
    rw [hn h]
    show (if n.2.e ≠ 0 then _ else _) = _
    rw [if_pos h1, if_pos h1]
    rfl
  · rw [hn (by rw [Classical.not_not.1 h1]; decide)]
    simp only [if_neg h1] at h ⊢
    rw [if_neg (show ¬ (ext q n.2).e ≠ 0 from h1)]
    by_cases h2 : n.1 = 8
    · simp only [if_pos h2]
    · simp only [if_neg h2] at h ⊢
      by_cases h3 : kOk (kindOf n.1) = false
      · simp only [if_pos h3]
      · simp only [if_neg h3] at h ⊢
        have hb := (fbody_good (kindOf n.1) (n.1 == 15)).2 n.2 q
        generalize fbody (kindOf n.1) (n.1 == 15) n.2 = f at *
        by_cases h4 : f.2.e ≠ 0
        · rw [if_pos h4] at h
          rw [hb h, if_pos h4]
          exact if_pos h4
        · rw [hb (by rw [Classical.not_not.1 h4]; decide)]
          simp only [if_neg h4]
          rw [if_neg (show ¬ (ext q f.2).e ≠ 0 from h4)]
          rfl
/-- Cut short it is none. -/
theorem fdec_used {bs : List UInt8} (h : (fdec bs).2.2 ≠ 0) : (fdec bs).1 = fnil ∧ (fdec bs).2.1 = 0 := by
  unfold fdec at *
  simp only at h ⊢
  repeat' split at h
  all_goals first | exact absurd rfl h | skip
  all_goals simp_all
end Go.Proofs.Ytenlgfeldkfmiaa
