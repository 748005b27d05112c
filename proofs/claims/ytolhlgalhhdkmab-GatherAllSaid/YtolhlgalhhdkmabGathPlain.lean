/- Plain: what Put lays together may be held. -/
import Derived.Test.YtolhlgalhhdkmabPutPlain
namespace Go.Proofs.Ytolhlgalhhdkmab
set_option linter.unusedVariables false

abbrev Pc := Int × List UInt8
/-- Where the last piece ends. -/
def lastE (d : Int) (l : List Pc) : Int := match l.getLast? with | none => d | some p => p.1 + p.2.length
theorem lastE_nil (d : Int) : lastE d [] = d := rfl
theorem lastE_snoc (d : Int) (l : List Pc) (p : Pc) : lastE d (l ++ [p]) = p.1 + p.2.length := by simp [lastE]
/-- Pieces one behind the other, that may touch. -/
inductive Srt (d : Int) : List Pc → Prop
  | nil : Srt d []
  | snoc {l : List Pc} {p : Pc} : Srt d l → lastE d l ≤ p.1 → 0 < p.2.length → Srt d (l ++ [p])
/-- Pieces one behind the other, with gaps between them. -/
inductive Gap (d : Int) : List Pc → Prop
  | nil : Gap d []
  | snoc {l : List Pc} {p : Pc} : Gap d l → lastE d l ≤ p.1 → (l = [] ∨ lastE d l < p.1) → 0 < p.2.length → Gap d (l ++ [p])
theorem Srt.last {d : Int} {l : List Pc} (h : Srt d l) : d ≤ lastE d l := by
  induction h with
  | nil => exact Int.le_refl _
  | snoc h1 h2 h3 ih => rw [lastE_snoc]; omega
theorem Gap.last {d : Int} {l : List Pc} (h : Gap d l) : d ≤ lastE d l := by
  induction h with
  | nil => exact Int.le_refl _
  | snoc h1 h2 h3 h4 ih => rw [lastE_snoc]; omega
theorem snoc_inj {l l' : List Pc} {p p' : Pc} (h : l ++ [p] = l' ++ [p']) : l = l' ∧ p = p' := by
  have := List.append_inj' h rfl
  exact ⟨this.1, by simpa using this.2⟩
theorem Gap.front {d : Int} {l : List Pc} {p : Pc} (h : Gap d (l ++ [p])) : Gap d l ∧ lastE d l ≤ p.1 ∧ (l = [] ∨ lastE d l < p.1) ∧ 0 < p.2.length := by
  generalize hq : l ++ [p] = q at h
  cases h with
  | nil => simp at hq
  | snoc h1 h2 h3 h4 =>
    obtain ⟨rfl, rfl⟩ := snoc_inj hq
    exact ⟨h1, h2, h3, h4⟩
/-- Those that touch are one. -/
theorem Srt.merge {d : Int} {l : List Pc} (h : Srt d l) : Gap d (mergeP l) ∧ lastE d (mergeP l) = lastE d l := by
  induction h with
  | nil => exact ⟨Gap.nil, rfl⟩
  | @snoc l p h1 h2 h3 ih =>
    obtain ⟨ih1, ih2⟩ := ih
    rw [mergeP_snoc, lastE_snoc]
    generalize hm : mergeP l = m at ih1 ih2
    rcases List.eq_nil_or_concat m with rfl | ⟨m0, x, rfl⟩
    · rw [mstep_nil]
      have e : [p] = [] ++ [p] := rfl
      refine ⟨e ▸ Gap.snoc Gap.nil ?_ (.inl rfl) h3, by rw [e, lastE_snoc]⟩
      rw [ih2]; exact h2
    · rw [List.concat_eq_append] at ih1 ih2 ⊢
      rw [lastE_snoc] at ih2
      by_cases hn : x.1 + x.2.length = p.1
      · rw [mstep_near _ _ _ hn]
        obtain ⟨g1, g2, g3, g4⟩ := ih1.front
        refine ⟨Gap.snoc g1 g2 g3 (by simp; omega), ?_⟩
        rw [lastE_snoc]
        simp only [List.length_append]
        omega
      · rw [mstep_far _ _ _ hn]
        refine ⟨Gap.snoc ih1 ?_ (.inr ?_) h3, by rw [lastE_snoc]⟩
        · rw [lastE_snoc]; omega
        · rw [lastE_snoc]; omega
theorem pieceP_some {data : List UInt8} {off at_ to_ : Int} (h : at_ < to_) : pieceP data off at_ to_ = [(at_, (data.drop (at_ - off).toNat).take (to_ - at_).toNat)] := if_pos h
theorem pieceP_none {data : List UInt8} {off at_ to_ : Int} (h : ¬ at_ < to_) : pieceP data off at_ to_ = [] := if_neg h
theorem piece_len {data : List UInt8} {off at_ to_ : Int} (h1 : off ≤ at_) (h2 : at_ < to_) (h3 : to_ ≤ off + data.length) : ((((data.drop (at_ - off).toNat).take (to_ - at_).toNat).length : Nat) : Int) = to_ - at_ := by
  rw [List.length_take, List.length_drop]; omega

/-- What the loop of Put keeps. -/
theorem putFold_inv (data : List UInt8) (off d : Int) (qs : List Pc) (h : Gap d qs) : ∀ s, putFold data off (off + data.length) d qs = s →
    Srt d s.2.2 ∧ lastE d s.2.2 = lastE d qs ∧ off ≤ s.2.1 ∧ d ≤ s.2.1 ∧ lastE d qs ≤ s.2.1 ∧ s.2.1 ≤ max (max off d) (lastE d qs) ∧ (s.1 = true → off + data.length ≤ s.2.1) ∧
      ∃ ins : Nat, s.2.2.length = qs.length + ins ∧ (data.length ≤ 1 → ins ≤ 1 ∧ (ins = 1 → off + data.length ≤ s.2.1)) ∧ ins ≤ qs.length := by
  induction h with
  | nil =>
    intro s hs
    have hs' : s = (false, if off < d then d else off, []) := by rw [← hs]; rfl
    subst hs'
    clear hs
    simp only
    refine ⟨Srt.nil, by trivial, ?_, ?_, ?_, ?_, by simp, 0, rfl, fun _ => ⟨by omega, by omega⟩, by omega⟩
    · split <;> omega
    · split <;> omega
    · rw [lastE_nil]; split <;> omega
    · rw [lastE_nil]; split <;> omega
  | @snoc l p h1 h2 h3 h4 ih =>
    intro s hs
    rw [putFold_snoc] at hs
    subst hs
    generalize hq : putFold data off (off + data.length) d l = q
    have ih := ih q hq
    clear hq
    obtain ⟨pu, at_, acc⟩ := q
    obtain ⟨i1, i2, i3, i4, i5, i6, i7, ins, i8, i9, i10⟩ := ih
    simp only at i1 i2 i3 i4 i5 i6 i7 i8 i9
    simp only [putStep, lastE_snoc]
    generalize hto : (if off + (data.length : Int) < p.1 then off + (data.length : Int) else p.1) = to_
    have ht1 : to_ ≤ off + data.length := by rw [← hto]; split <;> omega
    have ht2 : to_ ≤ p.1 := by rw [← hto]; split <;> omega
    have ht3 : to_ = off + data.length ∨ to_ = p.1 := by rw [← hto]; split <;> simp
    generalize hat : (if at_ < p.1 + (p.2.length : Int) then p.1 + (p.2.length : Int) else at_) = at'
    have ha1 : at_ ≤ at' ∧ p.1 + (p.2.length : Int) ≤ at' ∧ (at' = at_ ∨ at' = p.1 + p.2.length) := by rw [← hat]; split <;> omega
    by_cases hc : pu = false ∧ at_ ≤ p.1
    · rw [if_pos hc]
      by_cases hlt : at_ < to_
      · rw [pieceP_some hlt]
        have hpl := piece_len i3 hlt ht1
        generalize (data.drop (at_ - off).toNat).take (to_ - at_).toNat = cut at hpl
        have s1 : Srt d (acc ++ [(at_, cut)]) := i1.snoc (by rw [i2]; exact i5) (by simp only; omega)
        refine ⟨s1.snoc (by rw [lastE_snoc]; simp only; omega) h4, by trivial, by omega, by omega, by omega, by omega, fun hp => ?_, ins + 1, ?_, fun hd => ⟨?_, fun _ => ?_⟩, by rw [List.length_append]; simp; omega⟩
        · rw [hc.1] at hp; simp at hp; exact hp
        · simp; omega
        · obtain ⟨j1, j2⟩ := i9 hd
          rcases Nat.eq_zero_or_pos ins with h | h
          · omega
          · have := j2 (by omega); omega
        · omega
      · rw [pieceP_none hlt, List.append_nil]
        refine ⟨i1.snoc (by rw [i2]; exact h2) h4, by trivial, by omega, by omega, by omega, by omega, fun hp => ?_, ins, by simp; omega, fun hd => ⟨(i9 hd).1, fun h => by have := (i9 hd).2 h; omega⟩, by rw [List.length_append]; simp; omega⟩
        rw [hc.1] at hp; simp at hp; exact hp
    · rw [if_neg hc]
      refine ⟨i1.snoc (by rw [i2]; exact h2) h4, by trivial, by omega, by omega, by omega, by omega, fun hp => ?_, ins, by simp; omega, fun hd => ⟨(i9 hd).1, fun h => by have := (i9 hd).2 h; omega⟩, by rw [List.length_append]; simp; omega⟩
      rcases (show pu = true ∨ off + (data.length : Int) ≤ at' by simpa using hp) with h | h
      · have := i7 h; omega
      · exact h

/-- What is laid together may be held, and ends where the bytes do, or those that were held. -/
theorem putL_ok (data : List UInt8) (off d : Int) (qs : List Pc) (h : Gap d qs) :
    Gap d (mergeP (putL data off d qs)) ∧ lastE d (mergeP (putL data off d qs)) ≤ max (off + data.length) (lastE d qs) ∧ (data.length ≤ 1 → (mergeP (putL data off d qs)).length ≤ qs.length + 1) := by
  have hi := putFold_inv data off d qs h _ rfl
  unfold putL
  generalize putFold data off (off + data.length) d qs = q at hi
  obtain ⟨pu, at_, acc⟩ := q
  obtain ⟨i1, i2, i3, i4, i5, i6, i7, ins, i8, i9, i10⟩ := hi
  simp only at i1 i2 i3 i4 i5 i6 i7 i8 i9 ⊢
  by_cases hlt : at_ < off + data.length
  · rw [pieceP_some hlt]
    have hpl := piece_len i3 hlt (Int.le_refl _)
    generalize (data.drop (at_ - off).toNat).take (off + data.length - at_).toNat = cut at hpl
    have s1 : Srt d (acc ++ [(at_, cut)]) := i1.snoc (by rw [i2]; exact i5) (by simp only; omega)
    obtain ⟨m1, m2⟩ := s1.merge
    refine ⟨m1, ?_, fun hd => ?_⟩
    · rw [m2, lastE_snoc]; simp only; omega
    · have := mergeP_len (acc ++ [(at_, cut)])
      rw [List.length_append] at this
      obtain ⟨j1, j2⟩ := i9 hd
      rcases Nat.eq_zero_or_pos ins with h | h
      · simp at this; omega
      · have := j2 (by omega); omega
  · rw [pieceP_none hlt, List.append_nil]
    obtain ⟨m1, m2⟩ := i1.merge
    refine ⟨m1, by rw [m2, i2]; omega, fun hd => ?_⟩
    have := mergeP_len acc
    have := (i9 hd).1
    omega

/-- In the words of the walk. -/
theorem Gap.held {d : Int} {qs : List Pc} (h : Gap d qs) (hm : lastE d qs ≤ 4611686018427387903) : GHeld d qs ∧ endP d qs qs.length = lastE d qs := by
  induction h with
  | nil => exact ⟨fun k hk => absurd hk (by simp), rfl⟩
  | @snoc l p h1 h2 h3 h4 ih =>
    rw [lastE_snoc] at hm
    obtain ⟨i1, i2⟩ := ih (by omega)
    have hE : ∀ k, k ≤ l.length → endP d (l ++ [p]) k = endP d l k := fun k hk => by
      cases k with
      | zero => rfl
      | succ k => rw [endP_succ, endP_succ]; simp [List.getD, List.getElem?_append_left (show k < l.length by omega)]
    refine ⟨fun k hk => ?_, by rw [List.length_append]; simp only [List.length_cons, List.length_nil]; rw [endP_succ, lastE_snoc]; simp [List.getD]⟩
    rw [List.length_append] at hk
    simp at hk
    rcases Nat.lt_or_ge k l.length with hkl | hkl
    · have e : (l ++ [p]).getD k (0, []) = l.getD k (0, []) := by simp [List.getD, List.getElem?_append_left hkl]
      rw [e, hE k (by omega)]
      exact i1 k hkl
    · obtain rfl : k = l.length := by omega
      have e : (l ++ [p]).getD l.length (0, []) = p := by simp [List.getD]
      rw [e, hE _ (Nat.le_refl _), i2]
      refine ⟨h4, h2, ?_, hm⟩
      rcases h3 with rfl | h3
      · exact .inl rfl
      · exact .inr h3
theorem Gap.len_le {d : Int} {qs : List Pc} (h : Gap d qs) (N : Nat) (h0 : 0 ≤ d) (hm : lastE d qs ≤ (N : Int)) : ∀ q ∈ qs, q.2.length ≤ N := by
  induction h with
  | nil => exact fun q hq => absurd hq List.not_mem_nil
  | @snoc l p h1 h2 h3 h4 ih =>
    rw [lastE_snoc] at hm
    intro q hq
    have := h1.last
    rcases List.mem_append.1 hq with hq | hq
    · exact ih (by omega) q hq
    · obtain rfl := List.mem_singleton.1 hq; omega
end Go.Proofs.Ytolhlgalhhdkmab
