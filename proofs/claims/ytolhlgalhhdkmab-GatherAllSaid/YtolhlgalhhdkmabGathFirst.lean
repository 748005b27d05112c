/- Plain: what came first stays. -/
import Derived.Test.YtolhlgalhhdkmabGathHas
namespace Go.Proofs.Ytolhlgalhhdkmab
set_option linter.unusedVariables false

theorem putL_len (data : List UInt8) (off d : Int) (qs : List Pc) (h : Gap d qs) : (mergeP (putL data off d qs)).length ≤ 2 * qs.length + 1 := by
  have hi := putFold_inv data off d qs h _ rfl
  unfold putL
  generalize putFold data off (off + data.length) d qs = q at hi
  obtain ⟨_, _, _, _, _, _, _, ins, i8, _, i10⟩ := hi
  refine Nat.le_trans (mergeP_len _) ?_
  rw [List.length_append, i8]
  have : (pieceP data off q.2.1 (off + data.length)).length ≤ 1 := by unfold pieceP; split <;> simp
  omega
theorem getD_of {l : List UInt8} {k : Nat} {b : UInt8} (h : l[k]? = some b) : l.getD k 0 = b := by simp [List.getD, h]
theorem cut_get (xs : List UInt8) (i n q : Nat) (b : UInt8) (h : ((xs.drop i).take n)[q]? = some b) : q < n ∧ xs[i + q]? = some b := by
  rw [List.getElem?_take] at h
  split at h
  · rw [List.getElem?_drop] at h
    exact ⟨by assumption, h⟩
  · cases h

theorem first_law (xs ys : List UInt8) (i j k : Nat) (hx : xs.length = 40) (hy : ys.length = 40) (hij : i < j) (hj : j ≤ 39) (hk : k < 40) (l1 l2 l3 : List Pc)
    (e1 : l1 = mergeP (putL ((xs.drop i).take (j - i)) (i : Int) 0 [])) (e2 : l2 = mergeP (putL (ys.drop k) (k : Int) 0 l1)) (e3 : l3 = mergeP (putL (ys.take 40) 0 0 l2)) :
    l1.length ≤ 1 ∧ l2.length ≤ 3 ∧ ∃ bs, l3 = [(0, bs)] ∧ bs.length = 40 ∧ ∀ p : Nat, p < 40 → bs.getD p 0 = if i ≤ p ∧ p < j then xs.getD p 0 else ys.getD p 0 := by
  have n1 : ((xs.drop i).take (j - i)).length = j - i := by rw [List.length_take, List.length_drop]; omega
  have n2 : (ys.drop k).length = 40 - k := by rw [List.length_drop]; omega
  have n3 : (ys.take 40).length = 40 := by rw [List.length_take]; omega
  have o1 := putL_ok ((xs.drop i).take (j - i)) (i : Int) 0 [] Gap.nil
  have a1 := putL_has ((xs.drop i).take (j - i)) (i : Int) 0 [] Gap.nil
  have z1 := putL_len ((xs.drop i).take (j - i)) (i : Int) 0 [] Gap.nil
  rw [← e1] at o1 a1 z1
  rw [n1] at o1 a1
  have o2 := putL_ok (ys.drop k) (k : Int) 0 l1 o1.1
  have a2 := putL_has (ys.drop k) (k : Int) 0 l1 o1.1
  have z2 := putL_len (ys.drop k) (k : Int) 0 l1 o1.1
  rw [← e2] at o2 a2 z2
  rw [n2] at o2 a2
  have o3 := putL_ok (ys.take 40) 0 0 l2 o2.1
  have a3 := putL_has (ys.take 40) 0 0 l2 o2.1
  rw [← e3] at o3 a3
  rw [n3] at o3 a3
  clear e1 e2 e3
  obtain ⟨g1, w1, _⟩ := o1
  obtain ⟨g2, w2, _⟩ := o2
  obtain ⟨g3, w3, _⟩ := o3
  rw [lastE_nil] at w1
  have b1 := g1.last
  have b2 := g2.last
  have b3 := g3.last
  obtain ⟨m1, s1, c1⟩ := a1
  obtain ⟨m2, s2, c2⟩ := a2
  obtain ⟨m3, s3, c3⟩ := a3
  refine ⟨by simpa using z1, by simp at z1; omega, ?_⟩
  rcases g3.whole (fun p p0 p1 => c3 p p0 p0 (by omega)) with rfl | ⟨bs, rfl⟩
  · obtain ⟨b, hb⟩ := c3 0 (by decide) (by decide) (by decide)
    exact hb.nil.elim
  · have hl : bs.length = 40 := by
      obtain ⟨b, hb⟩ := c3 39 (by decide) (by decide) (by decide)
      obtain ⟨q, hq, e⟩ := Has.one.1 hb
      obtain ⟨hq1, _⟩ := List.getElem?_eq_some_iff.1 hq
      have : lastE 0 [((0 : Int), bs)] = 0 + bs.length := rfl
      simp only at e hq1
      omega
    refine ⟨bs, rfl, hl, fun p hp => ?_⟩
    have hb : Has [((0 : Int), bs)] p (bs.getD p 0) := Has.one.2 ⟨p, by simp [List.getD, List.getElem?_eq_getElem (show p < bs.length by omega)], by simp⟩
    generalize bs.getD p 0 = b at hb
    by_cases hc : i ≤ p ∧ p < j
    · rw [if_pos hc]
      obtain ⟨b', hb'⟩ := c1 p (by omega) (by omega) (by omega)
      have : b = b' := Has.same g3 hb (m3 _ _ (m2 _ _ hb'))
      subst this
      rcases s1 _ _ hb' with h | ⟨h1, h2⟩
      · exact h.nil.elim
      · obtain ⟨h3, h4⟩ := cut_get _ _ _ _ _ h2
        rw [show i + ((p : Int) - i).toNat = p by omega] at h4
        exact (getD_of h4).symm
    · rw [if_neg hc]
      rcases s3 _ _ hb with h | ⟨h1, h2⟩
      · rcases s2 _ _ h with h | ⟨h1, h2⟩
        · rcases s1 _ _ h with h | ⟨h1, h2⟩
          · exact h.nil.elim
          · obtain ⟨h3, _⟩ := cut_get _ _ _ _ _ h2
            omega
        · rw [List.getElem?_drop, show k + ((p : Int) - k).toNat = p by omega] at h2
          exact (getD_of h2).symm
      · rw [List.getElem?_take, if_pos (by omega), show ((p : Int) - 0).toNat = p by omega] at h2
        exact (getD_of h2).symm
end Go.Proofs.Ytolhlgalhhdkmab
