/- A region that draws its order, walked once in the order of the text: the theorem. -/
import Derived.Test.YtbcagdjfegobnaaGreatFlow4
namespace Go.Proofs.YtbcagdjfegobnaaGreat
open Go.RowKit
set_option linter.unusedVariables false

section
variable {P : Program} {ops : Array Oper} {core ev : Nat → Bool} {C : World → Prop} {W : Nat → Act → Value → World → Prop} {R : World → World → Prop}
/-- The walk comes to every operation, whatever has come up already. -/
theorem flow_walk {sz : Nat} (hok : FlowOk ops core sz) (hst : FStay ops C W R) {a0 : Act} (hsz : sz = a0.tmps.size) {l : Array Bool} {vals : Nat → Value} {a : Act} {w : World} (hI : FInv P ops core ev C W a0 l vals a w) {Fin : List Fact → Act → Prop}
    (hfl : flowL P ops ev C W R Fin ((List.range ops.size).filter core) [] a0) : ∀ (m : Nat) (pre suf : List Nat), pre.length = m → (List.range ops.size).filter core = pre ++ suf → ∃ vals' w' F A, FAt ops core ev C W a0 l vals w suf vals' w' F A ∧ flowL P ops ev C W R Fin suf F A ∧ R w w'
  | 0, pre, suf, hm, hl => by
    obtain rfl := List.eq_nil_of_length_eq_zero hm
    rw [List.nil_append] at hl
    refine ⟨vals, w, [], a0, ⟨fun _ _ _ _ => rfl, hI.c, rfl, rfl, fun t ht => ?_, fun p hp => (by cases hp), fun p hp => (by cases hp)⟩, by rw [← hl]; exact hfl, hst.r0 _⟩
    rw [AV_get]
    have hw : writer ops core t = none := by
      cases hw : writer ops core t with
      | none => rfl
      | some j =>
        obtain ⟨h1, h2, h3⟩ := writer_spec hw
        exact absurd h3 (ht j (by rw [← hl]; simp [h1, h2]))
    by_cases h : t < a0.tmps.size
    · rw [if_pos h]; simp [lookV, hw, h]
    · rw [if_neg h]; exact Array.getElem?_eq_none (Nat.le_of_not_lt h)
  | m + 1, pre, suf, hm, hl => by
    obtain ⟨p, k, rfl⟩ : ∃ p k, pre = p ++ [k] := ⟨pre.dropLast, pre.getLast (by intro e; rw [e] at hm; cases hm), (List.dropLast_concat_getLast _).symm⟩
    have hl' : (List.range ops.size).filter core = p ++ k :: suf := by rw [hl]; simp
    obtain ⟨vals', w', F, A, hat, hf, hb⟩ := flow_walk hok hst hsz hI hfl m p (k :: suf) (by simpa using hm) hl'
    obtain ⟨hk, hck, hpre, hsuf⟩ := core_sorted hl'
    obtain ⟨o, ho⟩ : ∃ o, ops[k]? = some o := ⟨ops[k], by simp [hk]⟩
    have hf := hf o ho
    have hlk := at_looks hok hk hck (fun j hj => by
      rcases List.mem_cons.1 hj with rfl | hj
      · exact ⟨Nat.le_refl _, hk, hck⟩
      · exact ⟨Nat.le_of_lt (hsuf j hj).1, (hsuf j hj).2⟩) hat.slot
    -- what the values at hand and those in the midst have in common
    have hsm : ∀ e, e < ops.size → core e = true → l.getD e true = true → ∀ t ∈ looks ops e, (AV ops core a0 vals').tmps[t]? = (AV ops core a0 vals).tmps[t]? := fun e he hce hle => AV_upd hok a0 vals vals' e he hce fun j hj hcj hd => hat.same j hcj hj (listed_cl hI.closed hok he (hI.closed e he hle) hd)
    by_cases hw : Region.wanted o (yielded ops A.tmps) = true
    · rw [if_pos hw] at hf
      by_cases he : ev k = true
      · rw [if_pos he] at hf
        obtain ⟨h1, h2⟩ := hf
        by_cases hlk2 : l.getD k true = true
        · have hAk : ∀ t ∈ looks ops k, A.tmps[t]? = (AV ops core a0 vals).tmps[t]? := fun t ht => (hlk t ht).trans (hsm k hk hck hlk2 t ht)
          have hwk : W k A (vals k) w' := hst.w _ _ _ _ _ (hst.a k _ _ _ _ (fun t ht => (hAk t ht).symm) (hI.fact k o hck hlk2 ho (by rw [← agree_wanted ho hAk]; exact hw) he)) hb
          exact ⟨_, w', _, _, flow_next hok hst hsz hl' ho hat (vals k) (fun _ => rfl) (hst.r0 _) hat.c (.inr ⟨rfl, he, hw, hwk⟩), h2 _ ⟨w', hat.c, hwk⟩, hb⟩
        · obtain ⟨v, w2, h3, h4, h5⟩ := (h1 w' ⟨hat.c, fun p hp _ => hat.now p hp⟩).some
          exact ⟨_, w2, _, _, flow_next hok hst hsz hl' ho hat v (fun h => absurd h hlk2) h5 h4 (.inr ⟨rfl, he, hw, h3⟩), h2 _ ⟨w2, h4, h3⟩, hst.r2 _ _ _ hb h5⟩
      · rw [if_neg he] at hf
        obtain ⟨v, h1, _, h2⟩ := hf
        refine ⟨_, w', F, _, flow_next hok hst hsz hl' ho hat v (fun hlk2 => ?_) (hst.r0 _) hat.c (.inl rfl), h2, hb⟩
        have hAk : ∀ t ∈ looks ops k, A.tmps[t]? = (AV ops core a0 vals).tmps[t]? := fun t ht => (hlk t ht).trans (hsm k hk hck hlk2 t ht)
        obtain ⟨wk, hc, hfk, hs⟩ := hI.still k o hck hlk2 ho (by rw [← agree_wanted ho hAk]; exact hw) (by simpa using he)
        have h3 := h1 wk ⟨hc, fun q hq hd => by
          obtain ⟨o', Ae, g1, g2, g3, g4, g5, g6, g7, g8⟩ := hat.form q hq
          have hlq := listed_cl hI.closed hok hk (hI.closed k hk hlk2) hd
          have hAq := hsm q.1 g1 g2 hlq
          rw [g8, hat.same q.1 g2 g1 hlq]
          exact hst.a _ _ _ _ _ (fun t ht => ((g7 t ht).trans (hAq t ht)).symm) (hfk q.1 o' g2 g4 (by rw [← agree_wanted g4 hAq]; exact g6) g5 hd)⟩
        rw [agree_exec ho (fun cs b => hok.sel k o cs b ho hck) hAk] at h3
        exact h3.one hs
    · rw [if_neg hw] at hf
      refine ⟨_, w', F, _, flow_next hok hst hsz hl' ho hat undef (fun hlk2 => ?_) (hst.r0 _) hat.c (.inl rfl), hf, hb⟩
      have hAk : ∀ t ∈ looks ops k, A.tmps[t]? = (AV ops core a0 vals).tmps[t]? := fun t ht => (hlk t ht).trans (hsm k hk hck hlk2 t ht)
      exact (hI.skip k o hck hlk2 ho (by rw [← agree_wanted ho hAk]; simpa using hw)).symm
end
end Go.Proofs.YtbcagdjfegobnaaGreat
