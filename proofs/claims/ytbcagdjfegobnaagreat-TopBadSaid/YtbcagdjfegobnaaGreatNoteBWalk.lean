/- The contract of ranges.Note. -/
import Derived.Test.YtbcagdjfegobnaaGreatSetBWalk
namespace Go.Proofs.YtbcagdjfegobnaaGreat
open Go.ChangeShapes Go.WideShapes Go.ChangeAt Go.RowKit
set_option linter.unusedVariables false

/-- Note, as the code does it. -/
def noteR (l : List Rng) (n : Int) : List Rng := (addR l (n, n) false).drop ((addR l (n, n) false).length - 6)
theorem goodFrom_drop {b : Int} {l : List Rng} (h : goodFrom b l) (j : Nat) : goodFrom b (l.drop j) := by
  induction l generalizing b j with
  | nil => simpa using h
  | cons x l ih =>
    cases j with
    | zero => exact h
    | succ j => exact goodFrom_mono (ih h.2.2.2 j) (by have := h.1; have := h.2.1; omega)
theorem goodFrom_apart {b : Int} {l m : List Rng} (h : goodFrom b (l ++ m)) (i j : Int) (hi : memR l i) (hj : memR m j) : i < j := by
  induction l generalizing b with
  | nil => exact absurd hi (memR_nil i)
  | cons x l ih =>
    rcases (memR_cons x l i).1 hi with h1 | h1
    · have := goodFrom_low h.2.2.2 j ((memR_append l m j).2 (.inr hj))
      omega
    · exact ih h.2.2.2 h1
theorem memR_drop {l : List Rng} {j : Nat} {n : Int} (h : memR (l.drop j) n) : memR l n := by
  obtain ⟨x, hx, h1⟩ := h
  exact ⟨x, List.mem_of_mem_drop hx, h1⟩
/-- The greatest number stays. -/
theorem memR_drop_top {l : List Rng} (hg : goodFrom 0 l) (j : Nat) (hj : j < l.length) (n : Int) (hn : memR l n) (hM : ∀ i, memR l i → i ≤ n) : memR (l.drop j) n := by
  have h0 := hn
  rw [← List.take_append_drop j l, memR_append] at h0
  rcases h0 with h0 | h0
  · have hg2 : goodFrom 0 (l.take j ++ l.drop j) := by rw [List.take_append_drop]; exact hg
    have hd : l.drop j = l[j] :: l.drop (j + 1) := List.drop_eq_getElem_cons hj
    have hgd := goodFrom_drop hg j
    rw [hd] at hgd
    have hm : memR (l.drop j) (l[j]).1 := by rw [hd]; exact (memR_cons _ _ _).2 (.inl ⟨Int.le_refl _, hgd.2.1⟩)
    have := goodFrom_apart hg2 n _ h0 hm
    have := hM _ (memR_drop hm)
    omega
  · exact h0
theorem addR_len (l : List Rng) (r : Rng) (put : Bool) : (addR l r put).length ≤ l.length + 1 ∧ (put = true → (addR l r put).length ≤ l.length) := by
  induction l generalizing r put with
  | nil => cases put <;> simp [addR]
  | cons x l ih =>
    rw [addR]
    by_cases c1 : x.2 + 1 < r.1
    · rw [if_pos c1]
      have := ih r put
      exact ⟨by simp; omega, fun h => by have := this.2 h; simp; omega⟩
    · rw [if_neg c1]
      by_cases c2 : r.2 + 1 < x.1
      · rw [if_pos c2]
        cases put
        · have := (ih r true).2 rfl
          exact ⟨by simp; omega, fun h => by cases h⟩
        · have := (ih r true).2 rfl
          exact ⟨by simp; omega, fun _ => by simp; omega⟩
      · rw [if_neg c2]
        have := ih (min r.1 x.1, max r.2 x.2) put
        exact ⟨by simp; omega, fun h => by have := this.2 h; simp; omega⟩
theorem noteR_len (l : List Rng) (n : Int) : (noteR l n).length ≤ 6 := by unfold noteR; rw [List.length_drop]; omega
theorem noteR_ok {l : List Rng} {M : Int} (h : SetOk l M) (n : Int) (h0 : 0 ≤ n) (h1 : n ≤ M) (hM : M ≤ 4611686018427387903) : SetOk (noteR l n) M := by
  have := h.add n n h0 (Int.le_refl _) h1 hM
  exact ⟨goodFrom_drop this.1 _, fun i hi => this.2 i (memR_drop hi)⟩
theorem noteR_top {l : List Rng} {M : Int} (h : SetOk l M) (n : Int) (h0 : 0 ≤ n) (h1 : M ≤ n) (hM : n ≤ 4611686018427387903) : memR (noteR l n) n := by
  have hg := addR_good h.1 (n, n) h0 (Int.le_refl _) hM
  have hn : memR (addR l (n, n) false) n := (addR_mem h.1 (n, n) (Int.le_refl _) n).2 (.inr ⟨Int.le_refl _, Int.le_refl _⟩)
  have hlen : 0 < (addR l (n, n) false).length := by
    rcases hn with ⟨x, hx, _⟩
    exact List.length_pos_of_mem hx
  refine memR_drop_top hg _ (by omega) n hn fun i hi => ?_
  rcases (addR_mem h.1 (n, n) (Int.le_refl _) i).1 hi with h2 | h2
  · have := h.2 i h2; omega
  · exact h2.2
/-- Noted once more, nothing changes. -/
theorem noteR_again {l : List Rng} {M : Int} (h : SetOk l M) (n : Int) (h0 : 0 ≤ n) (hM : n ≤ 4611686018427387903) (hn : memR l n) (hl : l.length ≤ 6) : noteR l n = l := by
  have hg := addR_good h.1 (n, n) h0 (Int.le_refl _) hM
  have e : addR l (n, n) false = l := goodFrom_same hg h.1 fun i => by
    rw [addR_mem h.1 (n, n) (Int.le_refl _) i]
    exact or_iff_left_of_imp fun hi => by obtain rfl : i = n := Int.le_antisymm hi.2 hi.1; exact hn
  unfold noteR
  rw [e, show l.length - 6 = 0 from by omega, List.drop_zero]

set_option maxRecDepth 100000 in
set_option maxHeartbeats 1000000 in
theorem rNote_own (A : Option Addr) (n c : Nat) (l : List Rng) (hn : l.length = n) (M : Int) (hl : SetOk l M) (hM0 : 0 ≤ M) (hM : M ≤ 4611686018427387903) (hnc : n ≤ c) (hcm : c ≤ 9223372036854775807) (hnb : n ≤ 1000000) (v : Int) (v0 : 0 ≤ v) (v1 : v ≤ 4611686018427387903)
    (B : Bool) (hB : hasB l v = B) (R : List Rng) (k_ : Nat) (hR : noteR l v = R) (hk : R.length = k_) (w : World) (hr : RdX rcells 2 w A l) :
    Calls Tryz.prog 142 #[.slice A n c, .int .i64 v] w fun e w' => ∃ A' c', e = .returned (.tuple #[.slice A' k_ c', .bool (!B), .int .i64 0]) ∧ k_ ≤ c' ∧ c' ≤ 9223372036854775807 ∧ OwnX rcells 2 w' w.heap.size 116 A' c' R ∧ Below w.heap.size w w' := by
  have HN := Lib.hid hn
  have HL := Lib.hid hl
  have HR := Lib.hid hr
  have HB := Lib.hid hB
  have HRR := Lib.hid hR
  have HK := Lib.hid hk
  clear hn hl hr hR hk hB
  go_enter Tryz.func142, Tryz.ntmps142
  go_wp2_with fail
  refine (rHas_any A n c l HN.out HL.out.1 hnc hcm v B HB.out _ HR.out).mono ?_
  rintro e w1 ⟨rfl, hb1⟩
  have HR1 := Lib.hid (RdX.below HR.out hb1)
  go_wp2_with fail
  obtain ⟨q, hq⟩ : ∃ q, (addR l (v, v) false).length = q := ⟨_, rfl⟩
  have HQ := Lib.hid hq
  clear hq
  refine (rAdd_rd A n c l HN.out HL.out.1 hnc hcm hnb v v v0 (Int.le_refl _) v1 _ q rfl HQ.out _ HR1.out).mono ?_
  rintro e w2 ⟨A2, c2, rfl, h2, h3, hrd, hb2⟩
  have hb := hb1.trans (hb2.mono hb1.size)
  have HRD := Lib.hid hrd
  clear hb1 hb2 HR1 hrd
  have hqb : q ≤ 4000000 := by have h1 := (addR_len l (v, v) false).1; have h2 := HQ.out; have h3 := HN.out; omega
  by_cases hq6 : q ≤ 6
  · have hRe : addR l (v, v) false = R := by rw [← HRR.out]; unfold noteR; rw [HQ.out, show q - 6 = 0 from by omega, List.drop_zero]
    have hrd := HRD.out
    rw [hRe] at hrd
    have hkq : k_ = q := by rw [← HK.out, ← hRe]; exact HQ.out
    subst hkq
    have HRD2 := Lib.hid hrd
    clear hrd hRe HRD
    go_wp2_with (at_builtin
                 refine wpList_appX rcells 2 rcells_one _ rfl (.tmp 38) (.tmp 39) _ rfl w.heap.size 116 _ 16 Tryz.underlying32 rngInfo rfl (by decide) (by decide) (some ⟨w2.heap.size, 0, none⟩) 0 0 [] rfl rfl (OwnX.made rcells 2 w2 _ _ hb.size) _ _ _ R rfl HK.out (RdX.alloc HRD2.out _) _ rfl _ rfl (by omega) (by have := hb.size; simp; omega) ?_
                 intro A5 c5 w5 hO5 hc5 hc5' hb5 hgr5)
    go_ret3
    exact ⟨A5, c5, by simp, by omega, hc5', by simpa using hO5, (hb.alloc hb.size _).trans hb5⟩
  · obtain ⟨j, rfl⟩ : ∃ j, q = j + 6 := ⟨q - 6, by omega⟩
    have hrd := HRD.out
    have hRe : (addR l (v, v) false).drop j = R := by rw [← HRR.out]; unfold noteR; rw [HQ.out, Nat.add_sub_cancel]
    have hk6 : k_ = 6 := by rw [← HK.out, ← hRe, List.length_drop, HQ.out]; omega
    subst hk6
    have hcu := RdX.cut rcells_len hrd (k := j) (cap := c2) (by rw [HQ.out]; omega) (by rw [HQ.out]; exact h2)
    rw [if_neg (by omega), hRe] at hcu
    obtain ⟨b, off, hA, _⟩ := hrd.rcell (by rw [HQ.out]; omega)
    subst hA
    have hcu2 : RdX rcells 2 w2 (some ⟨b, off + j * 2, none⟩) R := by simpa [add_none] using hcu
    have HCU := Lib.hid hcu2
    have hj0 : (0 : Int) ≤ (j : Int) := by omega
    have hj1 : (j : Int) ≤ (j : Int) + 6 := by omega
    have hj2 : c2 ≠ j := by omega
    have hj3 : 6 < (j : Int) + 6 := by omega
    clear hrd hRe HRD hcu hcu2
    go_wp2_with (at_builtin
                 refine wpList_appX rcells 2 rcells_one _ rfl (.tmp 38) (.tmp 39) _ rfl w.heap.size 116 _ 16 Tryz.underlying32 rngInfo rfl (by decide) (by decide) (some ⟨w2.heap.size, 0, none⟩) 0 0 [] rfl rfl (OwnX.made rcells 2 w2 _ _ hb.size) _ _ _ R rfl HK.out (RdX.alloc HCU.out _) _ rfl _ rfl (by omega) (by have := hb.size; simp; omega) ?_
                 intro A5 c5 w5 hO5 hc5 hc5' hb5 hgr5)
    go_ret3
    exact ⟨A5, c5, by simp, by omega, hc5', by simpa using hO5, (hb.alloc hb.size _).trans hb5⟩
end Go.Proofs.YtbcagdjfegobnaaGreat
