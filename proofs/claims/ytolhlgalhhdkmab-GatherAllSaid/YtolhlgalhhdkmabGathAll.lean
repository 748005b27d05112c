/- Plain: pieces of a text come to the text. -/
import Derived.Test.YtolhlgalhhdkmabGathFirst
namespace Go.Proofs.Ytolhlgalhhdkmab
set_option linter.unusedVariables false

/-- What is held is of the text. -/
def Of (t : List UInt8) (l : List Pc) : Prop := ∀ i b, Has l i b → t[i.toNat]? = some b
theorem Of.nil (t : List UInt8) : Of t [] := fun i b h => h.nil.elim

theorem of_put (t : List UInt8) (lo hi : Nat) (d : Int) (qs : List Pc) (g : Gap d qs) (h0 : 0 ≤ d) (ho : Of t qs) (hl : lastE d qs ≤ (t.length : Int)) (h1 : lo ≤ hi) (h2 : hi ≤ t.length) :
    Of t (mergeP (putL ((t.drop lo).take (hi - lo)) (lo : Int) d qs)) ∧ lastE d (mergeP (putL ((t.drop lo).take (hi - lo)) (lo : Int) d qs)) ≤ (t.length : Int) := by
  have n1 : ((t.drop lo).take (hi - lo)).length = hi - lo := by rw [List.length_take, List.length_drop]; omega
  have o1 := putL_ok ((t.drop lo).take (hi - lo)) (lo : Int) d qs g
  have a1 := putL_has ((t.drop lo).take (hi - lo)) (lo : Int) d qs g
  rw [n1] at o1
  refine ⟨fun i b hb => ?_, by have := o1.2.1; omega⟩
  rcases a1.2.1 i b hb with h | ⟨h3, h4⟩
  · exact ho i b h
  · obtain ⟨h5, h6⟩ := cut_get _ _ _ _ _ h4
    rw [show lo + (i - lo).toNat = i.toNat by omega] at h6
    exact h6

theorem of_take (t : List UInt8) (d : Nat) (bs : List UInt8) (l : List Pc) (g : Gap (d : Int) (((d : Int), bs) :: l)) (ho : Of t (((d : Int), bs) :: l)) (hd : d ≤ t.length) : Of t l ∧ t.take d ++ bs = t.take (d + bs.length) := by
  refine ⟨fun i b ⟨p, hp, h⟩ => ho i b ⟨p, List.mem_cons_of_mem _ hp, h⟩, ?_⟩
  have hk : ∀ k : Nat, (hk : k < bs.length) → t[d + k]? = some bs[k] := fun k hk => by
    have := ho ((d : Int) + k) bs[k] ⟨((d : Int), bs), List.mem_cons_self, k, List.getElem?_eq_getElem hk, rfl⟩
    rwa [show ((d : Int) + k).toNat = d + k by omega] at this
  apply List.ext_getElem?
  intro q
  rw [List.getElem?_append, List.getElem?_take, List.length_take, Nat.min_eq_left hd, List.getElem?_take]
  by_cases hq : q < d
  · rw [if_pos hq, if_pos hq, if_pos (by omega)]
  · rw [if_neg hq]
    by_cases hq2 : q - d < bs.length
    · rw [if_pos (by omega), List.getElem?_eq_getElem hq2]
      have := hk (q - d) hq2
      rw [show d + (q - d) = q by omega] at this
      exact this.symm
    · rw [if_neg (by omega), List.getElem?_eq_none (by omega)]

theorem of_last (t : List UInt8) (d : Nat) (qs : List Pc) (g : Gap (d : Int) qs) (ho : Of t qs) (hl : lastE (d : Int) qs ≤ (t.length : Int)) :
    (d = t.length ∧ mergeP (putL (t.drop d) (d : Int) (d : Int) qs) = []) ∨ (d < t.length ∧ mergeP (putL (t.drop d) (d : Int) (d : Int) qs) = [((d : Int), t.drop d)]) := by
  have n1 : (t.drop d).length = t.length - d := by rw [List.length_drop]
  have hd := g.last
  have o1 := putL_ok (t.drop d) (d : Int) (d : Int) qs g
  have a1 := putL_has (t.drop d) (d : Int) (d : Int) qs g
  rw [n1] at o1 a1
  generalize mergeP (putL (t.drop d) (d : Int) (d : Int) qs) = l at o1 a1
  obtain ⟨g1, w1, _⟩ := o1
  obtain ⟨_, s1, c1⟩ := a1
  have hof : Of t l := fun i b hb => by
    rcases s1 i b hb with h | ⟨h3, h4⟩
    · exact ho i b h
    · rw [List.getElem?_drop, show d + (i - (d : Int)).toNat = i.toNat by omega] at h4
      exact h4
  rcases g1.whole (fun p p0 p1 => c1 p p0 p0 (by omega)) with rfl | ⟨bs, rfl⟩
  · refine .inl ⟨?_, rfl⟩
    rcases Nat.lt_or_ge d t.length with h | h
    · obtain ⟨b, hb⟩ := c1 d (Int.le_refl _) (Int.le_refl _) (by omega)
      exact hb.nil.elim
    · omega
  · obtain ⟨t1, t2, _, t4⟩ := g1.tail
    have e1 : lastE (d : Int) [((d : Int), bs)] = d + bs.length := rfl
    simp only at t4
    have hlt : d < t.length := by omega
    have hlen : d + bs.length = t.length := by
      obtain ⟨b, hb⟩ := c1 (t.length - 1) (by omega) (by omega) (by omega)
      obtain ⟨q, hq, e⟩ := Has.one.1 hb
      obtain ⟨hq1, _⟩ := List.getElem?_eq_some_iff.1 hq
      simp only at e hq1
      omega
    refine .inr ⟨hlt, ?_⟩
    have h2 := (of_take t d bs [] g1 hof (by omega)).2
    rw [hlen, List.take_of_length_le (Nat.le_refl _)] at h2
    have : bs = t.drop d := by
      conv => rhs; rw [← h2]
      rw [List.drop_append_of_le_length (by rw [List.length_take]; omega)]
      simp
    rw [this]
end Go.Proofs.Ytolhlgalhhdkmab
