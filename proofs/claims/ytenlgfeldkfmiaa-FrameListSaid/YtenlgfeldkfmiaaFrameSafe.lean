/- Plain: a frame that was read may be, and is written in no more bytes. -/
import Derived.Test.YtenlgfeldkfmiaaFrameMore
namespace Go.Proofs.Ytenlgfeldkfmiaa
open Go.RowKit
set_option linter.unusedVariables false

/-- From y to z at least k bytes were read, none of them twice. -/
structure Uses (y z : EyeD) (k : Nat) : Prop where
  e : y.e = 0
  all : z.u + z.b.length = y.u + y.b.length
  few : y.u + k ≤ z.u
theorem Uses.trans {x y z : EyeD} {j k : Nat} (h : Uses x y j) (g : Uses y z k) : Uses x z (j + k) :=
  ⟨h.e, by rw [g.all, h.all], by have := h.few; have := g.few; omega⟩
theorem Uses.none {y : EyeD} (h : y.e = 0) : Uses y y 0 := ⟨h, rfl, Nat.le_refl _⟩
theorem Uses.as {y z : EyeD} {j k : Nat} (h : Uses y z j) (e : j = k) : Uses y z k := e ▸ h
theorem yFail_ne {e : Int} (he : e ≠ 0) (y : EyeD) : (yFail e y).e ≠ 0 := by
  unfold yFail; split
  · exact he
  · assumption

theorem yNum_ok {y : EyeD} (h : (yNum y).2.e = 0) : Uses y (yNum y).2 (encB (yNum y).1).length ∧ (yNum y).1 ≤ 4611686018427387903 := by
  unfold yNum at *
  by_cases h0 : y.e ≠ 0
  · rw [if_pos h0] at h; exact absurd h h0
  · simp only [if_neg h0] at h ⊢
    rcases decR_cases y.b with ⟨e, _⟩ | ⟨n, K, e, e1, e2, e3, e4, e5⟩
    · rw [e] at h; exact absurd h (by simp)
    · rw [e]
      simp only [ne_eq, not_true_eq_false, if_false, Int.toNat_natCast]
      obtain ⟨d1, d2⟩ := dec_size y.b n K e1 e5
      refine ⟨⟨Classical.not_not.1 h0, by simp; omega, ?_⟩, by omega⟩
      show y.u + (encB n).length ≤ y.u + K
      rw [encB_length]; omega
theorem yTake_ok {n : Nat} {y : EyeD} (h : (yTake n y).2.e = 0) : Uses y (yTake n y).2 n ∧ (yTake n y).1.length = n := by
  unfold yTake at *
  by_cases h0 : y.e ≠ 0
  · rw [if_pos h0] at h; exact absurd h h0
  · simp only [if_neg h0] at h ⊢
    by_cases h1 : y.b.length < n
    · rw [if_pos h1] at h; exact absurd h (show ¬ (4 : Int) = 0 by decide)
    · rw [if_neg h1]
      exact ⟨⟨Classical.not_not.1 h0, by simp; omega, Nat.le_refl _⟩, by simp; omega⟩
theorem yStep_ok {hi : Int} {y : EyeD} (h : (yStep hi y).2.e = 0) : Uses y (yStep hi y).2 (encB ((yStep hi y).1.2 - (yStep hi y).1.1).toNat).length ∧ (yStep hi y).1.2 = hi ∧ (yStep hi y).1.1 ≤ (yStep hi y).1.2 ∧ 0 ≤ (yStep hi y).1.1 := by
  unfold yStep at *
  simp only at h ⊢
  by_cases h0 : hi - (yNum y).1 < 0
  · rw [if_pos h0] at h; exact absurd h (yFail_ne (by decide) _)
  · rw [if_neg h0] at h ⊢
    obtain ⟨h1, h2⟩ := yNum_ok h
    refine ⟨?_, trivial, by omega, by omega⟩
    rw [show (hi - (hi - ((yNum y).1 : Int))).toNat = (yNum y).1 by omega]
    exact h1
theorem yStep_e {hi : Int} {y : EyeD} (h : (yStep hi y).2.e = 0) : (yNum y).2.e = 0 := by
  unfold yStep at h
  simp only at h
  by_cases h0 : hi - (yNum y).1 < 0
  · rw [if_pos h0] at h; exact absurd h (yFail_ne (by decide) _)
  · rw [if_neg h0] at h; exact h
theorem e_of {α : Type} {F : EyeD → α × EyeD} (hF : Good F) {y : EyeD} (h : (F y).2.e = 0) : y.e = 0 := by
  by_cases h0 : y.e = 0
  · exact h0
  · exact (hF.1 y h0).symm.trans h
theorem yMore_ok (k : Nat) {lo : Int} {y : EyeD} (hlo : lo ≤ 4611686018427387905) (h : (yMore k lo y).2.e = 0) : goodDown lo (yMore k lo y).1 ∧ Uses y (yMore k lo y).2 (encRs lo (yMore k lo y).1).length ∧ (yMore k lo y).1.length = k := by
  induction k generalizing lo y with
  | zero => exact ⟨trivial, Uses.none h, rfl⟩
  | succ k ih =>
    have hy := e_of (yMore_good (k + 1) lo) h
    simp only [yMore] at h ⊢
    rw [if_neg (by simp [hy])] at h ⊢
    simp only at h ⊢
    have h1 := e_of (yMore_good k _) h
    have h2 := e_of (yStep_good _) h1
    obtain ⟨a1, a2⟩ := yNum_ok h2
    obtain ⟨b1, b2, b3, b4⟩ := yStep_ok h1
    generalize (yNum y).1 = n at *
    generalize (yNum y).2 = z at *
    generalize yStep (lo - n - 2) z = s at *
    obtain ⟨c1, c2, c3⟩ := ih (by omega) h
    generalize yMore k s.1.1 s.2 = m at *
    refine ⟨⟨by omega, b3, b4, c1⟩, ?_, by simp [c3]⟩
    refine (a1.trans (b1.trans c2)).as ?_
    rw [encRs, List.length_append, List.length_append]
    rw [show (lo - s.1.2 - 2).toNat = n by omega]
theorem yRngs_ok {y : EyeD} (h : (yRngs y).2.e = 0) : goodDown 4611686018427387905 (yRngs y).1 ∧ Uses y (yRngs y).2 (encRng (yRngs y).1).length ∧ (yRngs y).1.length ≤ 6 ∧ (yRngs y).1 ≠ [] := by
  unfold yRngs at *
  have h3 := e_of (yList_good _ _) h
  have h2 := e_of yMany_good h3
  obtain ⟨a1, a2⟩ := yNum_ok h2
  generalize (yNum y).1 = n at *
  generalize (yNum y).2 = z at *
  unfold yList at *
  rw [if_neg (by simp [h3])] at h ⊢
  simp only at h ⊢
  obtain ⟨m1, m2, m3⟩ : Uses z (yMany z).2 (encB (yMany z).1).length ∧ (yMany z).1 < 6 ∧ True := by
    unfold yMany at *
    simp only at h3 ⊢
    by_cases h6 : 6 ≤ (yNum z).1
    · rw [if_pos h6] at h3; exact absurd h3 (yFail_ne (by decide) _)
    · rw [if_neg h6] at h3 ⊢; exact ⟨(yNum_ok h3).1, by omega, trivial⟩
  have h4 := e_of (yMore_good _ _) h
  obtain ⟨b1, b2, b3, b4⟩ := yStep_ok h4
  generalize (yMany z).1 = k at *
  generalize (yMany z).2 = x at *
  generalize yStep n x = s at *
  obtain ⟨c1, c2, c3⟩ := yMore_ok k (by omega) h
  generalize yMore k s.1.1 s.2 = m at *
  refine ⟨⟨by omega, b3, b4, c1⟩, ?_, by simp only [List.length_cons, c3]; omega, by simp⟩
  refine (a1.trans (m1.trans (b1.trans c2))).as ?_
  rw [encRng, List.length_append, List.length_append, List.length_append, c3]
  rw [show s.1.2.toNat = n by omega]
theorem ifN_ok (b : Bool) {y : EyeD} (h : (ifN b y).2.e = 0) : Uses y (ifN b y).2 (encIf b (ifN b y).1).length ∧ (ifN b y).1 ≤ 4611686018427387903 ∧ (b = false → (ifN b y).1 = 0) := by
  cases b with
  | false => exact ⟨Uses.none h, by show 0 ≤ _; omega, fun _ => rfl⟩
  | true =>
    obtain ⟨h1, h2⟩ := yNum_ok h
    exact ⟨h1, h2, fun h => by cases h⟩
theorem ifC_ok (w c : Bool) {y : EyeD} (hwc : w = true → c = true) (h : (ifC w c y).2.e = 0) : Uses y (ifC w c y).2 (encC w c (ifC w c y).1).length ∧ (c = false → (ifC w c y).1 = 0) := by
  cases w with
  | false => obtain ⟨h1, h2, h3⟩ := ifN_ok c h; exact ⟨h1, h3⟩
  | true =>
    obtain ⟨h1, h2⟩ := yTake_ok (n := 8) (y := y) h
    refine ⟨h1.as ?_, fun hc => by rw [hwc rfl] at hc; cases hc⟩
    show 8 = (beB 8 _).length
    rw [beB_length]
theorem ifD_ok (b : Bool) {y : EyeD} (h : (ifD b y).2.e = 0) : Uses y (ifD b y).2 (encD b (ifD b y).1).length ∧ (ifD b y).1.length ≤ 120 ∧ (b = false → (ifD b y).1 = []) := by
  cases b with
  | false => exact ⟨Uses.none h, by show 0 ≤ _; omega, fun _ => rfl⟩
  | true =>
    refine (fun (a : Uses y (yData y).2 (encD true (yData y).1).length ∧ (yData y).1.length ≤ 120) => ⟨a.1, a.2, fun h => by cases h⟩) ?_
    have h : (yData y).2.e = 0 := h
    unfold yData at *
    have h2 := e_of (yTake_good _) h
    by_cases h6 : 120 < (yNum y).1
    · rw [if_pos h6] at h2; exact absurd h2 (yFail_ne (by decide) _)
    · rw [if_neg h6] at h h2 ⊢
      obtain ⟨a1, a2⟩ := yNum_ok h2
      obtain ⟨b1, b2⟩ := yTake_ok h
      refine ⟨(a1.trans b1).as ?_, by omega⟩
      show _ = (encB _ ++ _).length
      rw [List.length_append, b2]
theorem ifR_ok (k : Nat) {y : EyeD} (h : (ifR (k == 2) y).2.e = 0) : goodDown 4611686018427387905 (ifR (k == 2) y).1 ∧ Uses y (ifR (k == 2) y).2 (encRng (ifR (k == 2) y).1).length ∧ (ifR (k == 2) y).1.length ≤ 6 ∧ (k = 2 ↔ (ifR (k == 2) y).1 ≠ []) := by
  by_cases h2 : k = 2
  · rw [show (k == 2) = true from by simp [h2]] at h ⊢
    obtain ⟨a1, a2, a3, a4⟩ := yRngs_ok h
    exact ⟨a1, a2, a3, ⟨fun _ => a4, fun _ => h2⟩⟩
  · rw [show (k == 2) = false from by simp [h2]] at h ⊢
    exact ⟨trivial, Uses.none h, by show 0 ≤ _; omega, ⟨fun e => absurd e h2, fun e => absurd rfl e⟩⟩
/-- What a frame's kind says. -/
theorem kind_word (k : Nat) : (pWord k = true → pCode k = true) ∧ (pFin k = true → pData k = true) := by
  constructor
  · intro h; simp only [pWord, pCode, Bool.or_eq_true, beq_iff_eq] at *; omega
  · intro h; simp only [pFin, pData, Bool.or_eq_true, beq_iff_eq] at *; omega
theorem fbody_ok (k : Nat) (fin : Bool) {y : EyeD} (hk : kOk k = true) (hf : pFin k = false → fin = false) (h : (fbody k fin y).2.e = 0) (hB : frB (fbody k fin y).1 = true) :
    FrOk (fbody k fin y).1 ∧ Uses y (fbody k fin y).2 ((encRng (fbody k fin y).1.rngs).length + ((encIf (pId k) (fbody k fin y).1.id).length + ((encIf (pOff k) (fbody k fin y).1.off).length + ((encC (pWord k) (pCode k) (fbody k fin y).1.code).length + (encD (pData k) (fbody k fin y).1.data).length)))) := by
  unfold fbody at *
  simp only at h hB ⊢
  have h4 := e_of (ifD_good _) h
  have h3 := e_of (ifC_good _ _) h4
  have h2 := e_of (ifN_good _) h3
  have h1 := e_of (ifN_good _) h2
  obtain ⟨r1, r2, r3, r4⟩ := ifR_ok k h1
  generalize ifR (k == 2) y = r at *
  obtain ⟨i1, i2, i3⟩ := ifN_ok _ h2
  generalize ifN (pId k) r.2 = i at *
  obtain ⟨o1, o2, o3⟩ := ifN_ok _ h3
  generalize ifN (pOff k) i.2 = o at *
  obtain ⟨c1, c2⟩ := ifC_ok _ _ (kind_word k).1 h4
  generalize ifC (pWord k) (pCode k) o.2 = c at *
  obtain ⟨d1, d2, d3⟩ := ifD_ok _ h
  generalize ifD (pData k) c.2 = d at *
  simp only [frB, Bool.and_eq_true, decide_eq_true_eq, Bool.or_eq_true, Bool.not_eq_true'] at hB
  refine ⟨⟨hk, d2, r3, i2, i3, o2, o3, hB.1, c2, fun hp => ?_, d3, hf, r4, r1⟩, r2.trans (i1.trans (o1.trans (c1.trans d1)))⟩
  rcases hB.2 with hq | hq
  · have hp : pData k = true := hp
    rw [hq] at hp; cases hp
  · exact hq
theorem fkind_of {n : Nat} (h8 : n ≠ 8) (f : FrD) (hk : f.kind = kindOf n) (hf : f.fin = (n == 15)) : fkind f = n := by
  unfold fkind kindOf at *
  by_cases h : n = 14 ∨ n = 15
  · rw [if_pos h] at hk
    rw [if_pos hk, hf]
    rcases h with rfl | rfl <;> rfl
  · rw [if_neg h] at hk
    rw [if_neg (by omega), hk]
/-- What is read may be, and is written in no more bytes. -/
theorem fdec_ok {bs : List UInt8} (h : (fdec bs).2.2 = 0) : FrOk (fdec bs).1 ∧ (fenc (fdec bs).1).length ≤ (fdec bs).2.1 ∧ (fdec bs).2.1 ≤ bs.length := by
  unfold fdec at *
  simp only at h ⊢
  have hn := @yNum_ok ⟨bs, 0, 0⟩
  generalize yNum ⟨bs, 0, 0⟩ = n at *
  by_cases h1 : n.2.e ≠ 0
  · rw [if_pos h1] at h; exact absurd h h1
  simp only [if_neg h1] at h ⊢
  by_cases h2 : n.1 = 8
  · rw [if_pos h2] at h; exact absurd h (by decide)
  simp only [if_neg h2] at h ⊢
  by_cases h3 : kOk (kindOf n.1) = false
  · rw [if_pos h3] at h; exact absurd h (by decide)
  simp only [if_neg h3] at h ⊢
  obtain ⟨n1, n2⟩ := hn (Classical.not_not.1 h1)
  have hb := @fbody_ok (kindOf n.1) (n.1 == 15) n.2 (by simpa using h3) (fun hf => by
    simp only [pFin, kindOf, beq_eq_false_iff_ne] at hf ⊢
    intro h15; exact hf (by simp [h15]))
  have hk : (fbody (kindOf n.1) (n.1 == 15) n.2).1.kind = kindOf n.1 := rfl
  have hf : (fbody (kindOf n.1) (n.1 == 15) n.2).1.fin = (n.1 == 15) := rfl
  generalize fbody (kindOf n.1) (n.1 == 15) n.2 = f at *
  by_cases h4 : f.2.e ≠ 0
  · rw [if_pos h4] at h; exact absurd h h4
  simp only [if_neg h4] at h ⊢
  by_cases h5 : frB f.1 = false
  · rw [if_pos h5] at h; exact absurd h (by decide)
  simp only [if_neg h5] at h ⊢
  obtain ⟨b1, b2⟩ := hb (Classical.not_not.1 h4) (by simpa using h5)
  have hu := n1.trans b2
  have h6 := hu.all
  have h7 := hu.few
  refine ⟨b1, ?_, by simp only at h6; omega⟩
  simp only [fenc, List.length_append, fkind_of h2 f.1 hk hf, hk]
  simp only at h7
  omega
/-- Cut short it is none. -/
theorem fdec_cut (f : FrD) (ok : FrOk f) (j : Nat) (hj : j < (fenc f).length) : fdec ((fenc f).take j) = (fnil, 0, 4) := by
  have hb := fdec_back f ok []
  rw [List.append_nil] at hb
  have h4 : (fdec ((fenc f).take j)).2.2 = 4 := Classical.byContradiction fun h => by
    have ha := fdec_app ((fenc f).take j) ((fenc f).drop j) h
    rw [List.take_append_drop, hb] at ha
    have := fdec_ok (bs := (fenc f).take j) (by rw [← ha])
    rw [← ha] at this
    have h3 := this.2.2
    rw [List.length_take] at h3
    simp only at h3
    omega
  have hu := fdec_used (bs := (fenc f).take j) (by rw [h4]; decide)
  generalize fdec ((fenc f).take j) = d at *
  obtain ⟨d1, d2, d3⟩ := d
  simp only at h4 hu
  rw [h4, hu.1, hu.2]
end Go.Proofs.Ytenlgfeldkfmiaa
