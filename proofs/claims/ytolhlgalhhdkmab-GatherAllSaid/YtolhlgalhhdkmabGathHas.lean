/- Plain: which bytes are held where. -/
import Derived.Test.YtolhlgalhhdkmabGathPlain
namespace Go.Proofs.Ytolhlgalhhdkmab
set_option linter.unusedVariables false

/-- The byte b is held at i. -/
def Has (l : List Pc) (i : Int) (b : UInt8) : Prop := ∃ p ∈ l, ∃ j : Nat, p.2[j]? = some b ∧ p.1 + j = i
theorem Has.nil {i : Int} {b : UInt8} (h : Has [] i b) : False := by obtain ⟨p, hp, _⟩ := h; exact List.not_mem_nil hp
theorem Has.app {l l' : List Pc} {i : Int} {b : UInt8} : Has (l ++ l') i b ↔ Has l i b ∨ Has l' i b := by
  constructor
  · rintro ⟨p, hp, h⟩
    rcases List.mem_append.1 hp with hp | hp
    · exact .inl ⟨p, hp, h⟩
    · exact .inr ⟨p, hp, h⟩
  · rintro (⟨p, hp, h⟩ | ⟨p, hp, h⟩)
    · exact ⟨p, List.mem_append_left _ hp, h⟩
    · exact ⟨p, List.mem_append_right _ hp, h⟩
theorem Has.one {p : Pc} {i : Int} {b : UInt8} : Has [p] i b ↔ ∃ j : Nat, p.2[j]? = some b ∧ p.1 + j = i := by
  constructor
  · rintro ⟨q, hq, h⟩
    obtain rfl := List.mem_singleton.1 hq
    exact h
  · exact fun h => ⟨p, List.mem_singleton_self _, h⟩
theorem has_mstep (l : List Pc) (p : Pc) (i : Int) (b : UInt8) : Has (mstep l p) i b ↔ Has (l ++ [p]) i b := by
  rcases List.eq_nil_or_concat l with rfl | ⟨m0, x, rfl⟩
  · rw [mstep_nil]; rfl
  · rw [List.concat_eq_append]
    by_cases hn : x.1 + x.2.length = p.1
    · rw [mstep_near _ _ _ hn, Has.app, Has.app, Has.app, Has.one, Has.one, Has.one, or_assoc]
      refine or_congr Iff.rfl ?_
      constructor
      · rintro ⟨j, hj, rfl⟩
        simp only at hj ⊢
        rw [List.getElem?_append] at hj
        split at hj
        · exact .inl ⟨j, hj, rfl⟩
        · exact .inr ⟨j - x.2.length, hj, by omega⟩
      · rintro (⟨j, hj, rfl⟩ | ⟨j, hj, rfl⟩)
        · obtain ⟨hl, _⟩ := List.getElem?_eq_some_iff.1 hj
          exact ⟨j, by simp only; rw [List.getElem?_append_left hl]; exact hj, rfl⟩
        · exact ⟨x.2.length + j, by simp only; rw [List.getElem?_append_right (by omega)]; rw [show x.2.length + j - x.2.length = j by omega]; exact hj, by simp only; omega⟩
    · rw [mstep_far _ _ _ hn]
theorem has_merge (l : List Pc) (i : Int) (b : UInt8) : Has (mergeP l) i b ↔ Has l i b := by
  have : ∀ (r : List Pc), Has (mergeP r.reverse) i b ↔ Has r.reverse i b := fun r => by
    induction r with
    | nil => rfl
    | cons p r ih => rw [List.reverse_cons, mergeP_snoc, has_mstep, Has.app, Has.app, ih]
  have h := this l.reverse
  rwa [List.reverse_reverse] at h
theorem has_piece {data : List UInt8} {off at_ to_ : Int} (h1 : off ≤ at_) (h3 : to_ ≤ off + data.length) (i : Int) (b : UInt8) : Has (pieceP data off at_ to_) i b ↔ at_ ≤ i ∧ i < to_ ∧ data[(i - off).toNat]? = some b := by
  by_cases hlt : at_ < to_
  · rw [pieceP_some hlt, Has.one]
    constructor
    · rintro ⟨j, hj, rfl⟩
      simp only at hj ⊢
      rw [List.getElem?_take] at hj
      split at hj
      · rw [List.getElem?_drop] at hj
        refine ⟨by omega, by omega, ?_⟩
        rw [← hj]; congr 1; omega
      · cases hj
    · rintro ⟨a1, a2, a3⟩
      refine ⟨(i - at_).toNat, ?_, by simp only; omega⟩
      simp only
      rw [List.getElem?_take, if_pos (by omega), List.getElem?_drop, ← a3]
      congr 1; omega
  · rw [pieceP_none hlt]
    exact ⟨fun h => h.nil.elim, fun ⟨a1, a2, _⟩ => by omega⟩

/-- What the loop of Put keeps of the bytes. -/
theorem putFold_has (data : List UInt8) (off d : Int) (qs : List Pc) (h : Gap d qs) : ∀ s, putFold data off (off + data.length) d qs = s →
    (∀ i b, Has qs i b → Has s.2.2 i b) ∧ (∀ i b, Has s.2.2 i b → Has qs i b ∨ off ≤ i ∧ data[(i - off).toNat]? = some b) ∧ (∀ i, off ≤ i → d ≤ i → i < s.2.1 → i < off + data.length → ∃ b, Has s.2.2 i b) := by
  induction h with
  | nil =>
    intro s hs
    have hs' : s = (false, if off < d then d else off, []) := by rw [← hs]; rfl
    subst hs'
    clear hs
    refine ⟨fun i b h => h, fun i b h => .inl h, fun i h1 h2 h3 => ?_⟩
    simp only at h3
    split at h3 <;> omega
  | @snoc l p h1 h2 h3 h4 ih =>
    intro s hs
    rw [putFold_snoc] at hs
    subst hs
    have hi := putFold_inv data off d l h1 _ rfl
    generalize hq : putFold data off (off + data.length) d l = q at hi
    obtain ⟨k1, k2, k3⟩ := ih q hq
    clear hq ih
    obtain ⟨pu, at_, acc⟩ := q
    obtain ⟨_, _, i3, _, _, _, i7, _⟩ := hi
    simp only at k1 k2 k3 i3 i7
    simp only [putStep]
    generalize hto : (if off + (data.length : Int) < p.1 then off + (data.length : Int) else p.1) = to_
    have ht1 : to_ ≤ off + data.length := by rw [← hto]; split <;> omega
    have ht3 : to_ = off + data.length ∨ to_ = p.1 := by rw [← hto]; split <;> simp
    generalize hat : (if at_ < p.1 + (p.2.length : Int) then p.1 + (p.2.length : Int) else at_) = at'
    have ha1 : at' = at_ ∨ at' = p.1 + p.2.length ∧ at_ < at' := by rw [← hat]; split <;> omega
    have hin : ∀ i : Int, p.1 ≤ i → i < p.1 + p.2.length → ∃ b, Has [p] i b := fun i a1 a2 => by
      refine ⟨p.2[(i - p.1).toNat]'(by omega), Has.one.2 ⟨(i - p.1).toNat, List.getElem?_eq_getElem _, by omega⟩⟩
    have key : ∀ l1 : List Pc, (∀ i b, Has acc i b → Has l1 i b) → (∀ i b, Has l1 i b → Has acc i b ∨ off ≤ i ∧ data[(i - off).toNat]? = some b) → (∀ i, off ≤ i → d ≤ i → at_ ≤ i → i < p.1 → i < at' → i < off + data.length → ∃ b, Has l1 i b) →
        (∀ i b, Has (l ++ [p]) i b → Has (l1 ++ [p]) i b) ∧ (∀ i b, Has (l1 ++ [p]) i b → Has (l ++ [p]) i b ∨ off ≤ i ∧ data[(i - off).toNat]? = some b) ∧ (∀ i, off ≤ i → d ≤ i → i < at' → i < off + data.length → ∃ b, Has (l1 ++ [p]) i b) := fun l1 m1 m2 m3 => by
      refine ⟨fun i b h => ?_, fun i b h => ?_, fun i a1 a2 a3 a4 => ?_⟩
      · rw [Has.app] at h ⊢
        exact h.imp (fun h => m1 i b (k1 i b h)) id
      · rw [Has.app] at h ⊢
        rcases h with h | h
        · rcases m2 i b h with h | h
          · exact (k2 i b h).imp .inl id
          · exact .inr h
        · exact .inl (.inr h)
      · rcases Int.lt_or_le i at_ with a5 | a5
        · obtain ⟨b, hb⟩ := k3 i a1 a2 a5 a4
          exact ⟨b, Has.app.2 (.inl (m1 i b hb))⟩
        · rcases Int.lt_or_le i p.1 with a6 | a6
          · obtain ⟨b, hb⟩ := m3 i a1 a2 a5 a6 a3 a4
            exact ⟨b, Has.app.2 (.inl hb)⟩
          · obtain ⟨b, hb⟩ := hin i a6 (by omega)
            exact ⟨b, Has.app.2 (.inr hb)⟩
    by_cases hc : pu = false ∧ at_ ≤ p.1
    · rw [if_pos hc]
      refine key _ (fun i b h => Has.app.2 (.inl h)) (fun i b h => ?_) (fun i a1 a2 a3 a4 a5 a6 => ?_)
      · rcases Has.app.1 h with h | h
        · exact .inl h
        · have := (has_piece i3 ht1 i b).1 h
          exact .inr ⟨by omega, this.2.2⟩
      · have hl : (i - off).toNat < data.length := by omega
        exact ⟨data[(i - off).toNat], Has.app.2 (.inr ((has_piece i3 ht1 i _).2 ⟨a3, by omega, List.getElem?_eq_getElem hl⟩))⟩
    · rw [if_neg hc]
      refine key _ (fun i b h => h) (fun i b h => .inl h) (fun i a1 a2 a3 a4 a5 a6 => ?_)
      rcases Bool.eq_false_or_eq_true pu with h | h
      · have := i7 h; omega
      · exact absurd ⟨h, by omega⟩ hc

/-- What is laid together: what was held stays; all else is of the new bytes; these are all there. -/
theorem putL_has (data : List UInt8) (off d : Int) (qs : List Pc) (h : Gap d qs) :
    (∀ i b, Has qs i b → Has (mergeP (putL data off d qs)) i b) ∧ (∀ i b, Has (mergeP (putL data off d qs)) i b → Has qs i b ∨ off ≤ i ∧ data[(i - off).toNat]? = some b) ∧ (∀ i, off ≤ i → d ≤ i → i < off + data.length → ∃ b, Has (mergeP (putL data off d qs)) i b) := by
  have hf := putFold_has data off d qs h _ rfl
  have hi := putFold_inv data off d qs h _ rfl
  unfold putL
  generalize putFold data off (off + data.length) d qs = q at hi hf
  obtain ⟨pu, at_, acc⟩ := q
  obtain ⟨_, _, i3, _, _, _, i7, _⟩ := hi
  obtain ⟨k1, k2, k3⟩ := hf
  simp only at i3 i7 k1 k2 k3 ⊢
  refine ⟨fun i b h => ?_, fun i b h => ?_, fun i a1 a2 a3 => ?_⟩
  · rw [has_merge, Has.app]; exact .inl (k1 i b h)
  · rw [has_merge, Has.app] at h
    rcases h with h | h
    · exact k2 i b h
    · have := (has_piece i3 (Int.le_refl _) i b).1 h
      exact .inr ⟨by omega, this.2.2⟩
  · rcases Int.lt_or_le i at_ with a5 | a5
    · obtain ⟨b, hb⟩ := k3 i a1 a2 a5 a3
      exact ⟨b, by rw [has_merge, Has.app]; exact .inl hb⟩
    · have hl : (i - off).toNat < data.length := by omega
      exact ⟨data[(i - off).toNat], by rw [has_merge, Has.app]; exact .inr ((has_piece i3 (Int.le_refl _) i _).2 ⟨a5, a3, List.getElem?_eq_getElem hl⟩)⟩

theorem Has.lo {d : Int} {l : List Pc} (h : Gap d l) {i : Int} {b : UInt8} (hi : Has l i b) : d ≤ i ∧ i < lastE d l := by
  induction h with
  | nil => exact hi.nil.elim
  | @snoc l p h1 h2 h3 h4 ih =>
    rw [lastE_snoc]
    have hl := h1.last
    rcases Has.app.1 hi with hi | hi
    · have := ih hi; omega
    · obtain ⟨j, hj, rfl⟩ := Has.one.1 hi
      obtain ⟨hl, _⟩ := List.getElem?_eq_some_iff.1 hj
      omega
/-- At a place there is one byte. -/
theorem Has.same {d : Int} {l : List Pc} (h : Gap d l) {i : Int} {b c : UInt8} (h1 : Has l i b) (h2 : Has l i c) : b = c := by
  induction h with
  | nil => exact h1.nil.elim
  | @snoc l p g1 g2 g3 g4 ih =>
    have hx : ∀ {b c : UInt8}, Has l i b → Has [p] i c → False := fun {b c} k1 k2 => by
      have a1 := Has.lo g1 k1
      obtain ⟨j, _, hj⟩ := Has.one.1 k2
      omega
    rcases Has.app.1 h1 with h1 | h1 <;> rcases Has.app.1 h2 with h2 | h2
    · exact ih h1 h2
    · exact (hx h1 h2).elim
    · exact (hx h2 h1).elim
    · obtain ⟨j, hj, e⟩ := Has.one.1 h1
      obtain ⟨j', hj', e'⟩ := Has.one.1 h2
      obtain rfl : j = j' := by omega
      rw [hj] at hj'; injection hj'
/-- Pieces that touch nowhere stay as they are. -/
theorem Gap.merge {d : Int} {l : List Pc} (h : Gap d l) : mergeP l = l := by
  induction h with
  | nil => rfl
  | @snoc l p h1 h2 h3 h4 ih =>
    rw [mergeP_snoc, ih]
    rcases List.eq_nil_or_concat l with rfl | ⟨m0, x, rfl⟩
    · rfl
    · rw [List.concat_eq_append] at *
      rw [lastE_snoc] at h3
      exact mstep_far _ _ _ (by rcases h3 with h | h; simp at h; omega)
/-- Without a gap there is one piece. -/
theorem Gap.whole {d : Int} {l : List Pc} (h : Gap d l) (hc : ∀ i, d ≤ i → i < lastE d l → ∃ b, Has l i b) : l = [] ∨ ∃ bs, l = [(d, bs)] := by
  cases h with
  | nil => exact .inl rfl
  | @snoc l p h1 h2 h3 h4 =>
    rw [lastE_snoc] at hc
    have hl := h1.last
    have hx : ∀ i, d ≤ i → i < p.1 → ∃ b, Has l i b := fun i a1 a2 => by
      obtain ⟨b, hb⟩ := hc i a1 (by omega)
      rcases Has.app.1 hb with hb | hb
      · exact ⟨b, hb⟩
      · obtain ⟨j, _, hj⟩ := Has.one.1 hb; omega
    rcases h3 with rfl | h3
    · refine .inr ⟨p.2, ?_⟩
      have : p.1 = d := by
        rw [lastE_nil] at h2
        rcases Int.lt_or_le d p.1 with a | a
        · obtain ⟨b, hb⟩ := hx d (Int.le_refl _) a
          exact hb.nil.elim
        · omega
      obtain ⟨o, bs⟩ := p
      simp only at this
      subst this; rfl
    · obtain ⟨b, hb⟩ := hx (lastE d l) hl h3
      have := Has.lo h1 hb
      omega
/-- What stands behind the first piece. -/
theorem Gap.tail {d : Int} {l : List Pc} {x : Pc} (h : Gap d (x :: l)) : Gap (x.1 + x.2.length) l ∧ lastE (x.1 + x.2.length) l = lastE d (x :: l) ∧ d ≤ x.1 ∧ 0 < x.2.length := by
  have : ∀ (m : List Pc), Gap d m → ∀ l, m = x :: l → Gap (x.1 + x.2.length) l ∧ lastE (x.1 + x.2.length) l = lastE d (x :: l) ∧ d ≤ x.1 ∧ 0 < x.2.length := fun m hm => by
    induction hm with
    | nil => intro l h; cases h
    | @snoc m p h1 h2 h3 h4 ih =>
      intro l e
      rcases List.eq_nil_or_concat l with rfl | ⟨l0, y, rfl⟩
      · obtain ⟨rfl, rfl⟩ := snoc_inj (l' := []) e
        exact ⟨Gap.nil, rfl, h2, h4⟩
      · rw [List.concat_eq_append] at e ⊢
        obtain ⟨rfl, rfl⟩ := snoc_inj (l' := x :: l0) e
        obtain ⟨i1, i2, i3, i4⟩ := ih l0 rfl
        rw [← i2] at h2 h3
        refine ⟨i1.snoc h2 (.inr (by rcases h3 with h | h; cases h; exact h)) h4, ?_, i3, i4⟩
        rw [← List.cons_append, lastE_snoc, lastE_snoc]
  exact this _ h l rfl
end Go.Proofs.Ytolhlgalhhdkmab
