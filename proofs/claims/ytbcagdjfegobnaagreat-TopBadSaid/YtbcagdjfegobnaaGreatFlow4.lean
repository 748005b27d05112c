/- A region that draws its order, walked once: from what is known in its midst the walk comes to every operation. -/
import Derived.Test.YtbcagdjfegobnaaGreatFlow3
namespace Go.Proofs.YtbcagdjfegobnaaGreat
open Go.RowKit
set_option linter.unusedVariables false

section
variable {P : Program} {ops : Array Oper} {core ev : Nat → Bool} {C : World → Prop} {W : Nat → Act → Value → World → Prop} {R : World → World → Prop}
/-- What the class and what is told are asked. -/
structure FStay (ops : Array Oper) (C : World → Prop) (W : Nat → Act → Value → World → Prop) (R : World → World → Prop) : Prop where
  r0 : ∀ w, R w w
  r2 : ∀ a b c, R a b → R b c → R a c
  c : ∀ w w', C w → R w w' → C w'
  w : ∀ k a v w w', W k a v w → R w w' → W k a v w'
  a : ∀ k a b v w, (∀ t ∈ looks ops k, a.tmps[t]? = b.tmps[t]?) → W k a v w → W k b v w
theorem core_sorted {pre suf : List Nat} {k : Nat} (h : (List.range ops.size).filter core = pre ++ k :: suf) : k < ops.size ∧ core k = true ∧ (∀ j ∈ pre, j < k ∧ j < ops.size ∧ core j = true) ∧ (∀ j ∈ suf, k < j ∧ j < ops.size ∧ core j = true) := by
  have hm : ∀ j, j ∈ pre ++ k :: suf → j < ops.size ∧ core j = true := fun j hj => by
    rw [← h] at hj; simpa using hj
  have hp : (pre ++ k :: suf).Pairwise (· < ·) := by
    rw [← h]; exact List.Pairwise.filter _ List.pairwise_lt_range
  rw [List.pairwise_append] at hp
  obtain ⟨h1, h2, h3⟩ := hp
  refine ⟨(hm k (by simp)).1, (hm k (by simp)).2, fun j hj => ⟨h3 j hj k (by simp), (hm j (by simp [hj])).1, (hm j (by simp [hj])).2⟩, fun j hj => ⟨(List.pairwise_cons.1 h2).1 j hj, (hm j (by simp [hj])).1, (hm j (by simp [hj])).2⟩⟩

theorem flow_next {sz : Nat} (hok : FlowOk ops core sz) (hst : FStay ops C W R) {a0 : Act} (hsz : sz = a0.tmps.size) {l : Array Bool} {vals : Nat → Value} {w : World} {pre suf : List Nat} {k : Nat} {o : Oper} (hl : (List.range ops.size).filter core = pre ++ k :: suf) (ho : ops[k]? = some o)
    {vals' : Nat → Value} {w' w'' : World} {F F' : List Fact} {A : Act} (h : FAt ops core ev C W a0 l vals w (k :: suf) vals' w' F A) (v : Value) (hv : l.getD k true = true → v = vals k) (hb : R w' w'') (hc : C w'')
    (hF : F' = F ∨ F' = (k, W k A v) :: F ∧ ev k = true ∧ Region.wanted o (yielded ops A.tmps) = true ∧ W k A v w'') : FAt ops core ev C W a0 l vals w suf (updV vals' k v) w'' F' (A.put o.dst v) := by
  obtain ⟨hk, hck, hpre, hsuf⟩ := core_sorted hl
  have hlk := at_looks hok hk hck (fun j hj => by
    rcases List.mem_cons.1 hj with rfl | hj
    · exact ⟨Nat.le_refl _, hk, hck⟩
    · exact ⟨Nat.le_of_lt (hsuf j hj).1, (hsuf j hj).2⟩) h.slot
  have hup : ∀ e, e < ops.size → core e = true → e ≤ k → ∀ t ∈ looks ops e, (AV ops core a0 (updV vals' k v)).tmps[t]? = (AV ops core a0 vals').tmps[t]? := fun e he hce hek => AV_upd hok a0 vals' _ e he hce fun j hj hcj hd => updV_ne _ _ (by have := dep_lt hok he hd; omega)
  have hold : ∀ p ∈ F, ∃ o Ae, p.1 < ops.size ∧ core p.1 = true ∧ p.1 ∉ suf ∧ ops[p.1]? = some o ∧ ev p.1 = true ∧ Region.wanted o (yielded ops (AV ops core a0 (updV vals' k v)).tmps) = true ∧ (∀ t ∈ looks ops p.1, Ae.tmps[t]? = (AV ops core a0 (updV vals' k v)).tmps[t]?) ∧ p.2 = W p.1 Ae (updV vals' k v p.1) := fun p hp => by
    obtain ⟨o', Ae, h1, h2, h3, h4, h5, h6, h7, h8⟩ := h.form p hp
    have hin : p.1 ∈ pre ++ k :: suf := by rw [← hl]; simp [h1, h2]
    have hpk : p.1 < k := by
      rcases List.mem_append.1 hin with hin | hin
      · exact (hpre _ hin).1
      · exact absurd hin h3
    have hu := hup p.1 h1 h2 (Nat.le_of_lt hpk)
    refine ⟨o', Ae, h1, h2, fun hm => h3 (by simp [hm]), h4, h5, ?_, fun t ht => (h7 t ht).trans (hu t ht).symm, by rw [updV_ne _ _ (by omega)]; exact h8⟩
    rw [agree_wanted h4 hu]; exact h6
  refine ⟨fun i hci hi hli => ?_, hc, ?_, ?_, put_slot hok hsz h.sz ho hck (fun j hj => by have := (hsuf j hj).1; omega) v h.slot, ?_, ?_⟩
  · by_cases e : i = k
    · subst e; rw [updV_self]; exact hv hli
    · rw [updV_ne _ _ e]; exact h.same i hci hi hli
  · cases hd : o.dst with
    | none => exact h.sz
    | some d => simp [Act.put, h.sz]
  · cases hd : o.dst with
    | none => exact h.df
    | some d => simp [Act.put, h.df]
  · intro p hp
    have hn : ∀ p ∈ F, p.2 w'' := fun p hp => by
      obtain ⟨o', Ae, _, _, _, _, _, _, _, h8⟩ := h.form p hp
      have := h.now p hp
      rw [h8] at this ⊢
      exact hst.w _ _ _ _ _ this hb
    rcases hF with rfl | ⟨rfl, _, _, h4⟩
    · exact hn p hp
    · rcases List.mem_cons.1 hp with rfl | hp
      · exact h4
      · exact hn p hp
  · intro p hp
    rcases hF with rfl | ⟨rfl, h2, h3, h4⟩
    · exact hold p hp
    · rcases List.mem_cons.1 hp with rfl | hp
      · refine ⟨o, A, hk, hck, fun hm => absurd (hsuf k hm).1 (Nat.lt_irrefl _), ho, h2, ?_, fun t ht => (hlk t ht).trans (hup k hk hck (Nat.le_refl _) t ht).symm, by rw [updV_self]⟩
        rw [← agree_wanted ho (fun t ht => (hlk t ht).trans (hup k hk hck (Nat.le_refl _) t ht).symm)]; exact h3
      · exact hold p hp
end
end Go.Proofs.YtbcagdjfegobnaaGreat
