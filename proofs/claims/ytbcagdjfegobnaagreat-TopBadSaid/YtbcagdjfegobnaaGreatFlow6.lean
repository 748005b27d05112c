/- A region that draws its order, walked once in the order of the text: one operation more; the theorem. -/
import Derived.Test.YtbcagdjfegobnaaGreatFlow5
namespace Go.Proofs.YtbcagdjfegobnaaGreat
open Go.RowKit
set_option linter.unusedVariables false

section
variable {P : Program} {ops : Array Oper} {core ev : Nat → Bool} {C : World → Prop} {W : Nat → Act → Value → World → Prop} {R : World → World → Prop}
theorem getD_set_self {l : Array Bool} {i n : Nat} (hi : i < n) (hl : l.size = n) : (l.setIfInBounds i true).getD i true = true := by
  simp [hl, hi]
theorem getD_set_other {l : Array Bool} {i k : Nat} (h : k ≠ i) : (l.setIfInBounds i true).getD k true = l.getD k true := by
  simp [Array.getElem?_setIfInBounds_ne (Ne.symm h)]
theorem flow_step {sz : Nat} (hok : FlowOk ops core sz) (hst : FStay ops C W R) {a0 : Act} (hsz : sz = a0.tmps.size) {l : Array Bool} {vals : Nat → Value} {a : Act} {w w' : World} (hI : FInv P ops core ev C W a0 l vals a w) {i : Nat} {o : Oper} (ho : ops[i]? = some o) (hci : core i = true) (hun : l.getD i true = false)
    (hdep : ∀ e ∈ waits ops i, l.getD e true = true) (v : Value) (hb : R w w') (hc : C w')
    (hev : Region.wanted o (yielded ops (AV ops core a0 vals).tmps) = true → ev i = true → W i (AV ops core a0 vals) v w')
    (hsv : Region.wanted o (yielded ops (AV ops core a0 vals).tmps) = true → ev i = false → stillR w v ((execOp (AV ops core a0 vals).eval o).run P w))
    (hnw : Region.wanted o (yielded ops (AV ops core a0 vals).tmps) = false → v = undef) : FInv P ops core ev C W a0 (l.setIfInBounds i true) (updV vals i v) (a.put o.dst v) w' := by
  have hi : i < ops.size := (Array.getElem?_eq_some_iff.1 ho).1
  have hdst : dstOf ops i = o.dst := by simp [dstOf, ho]
  have hdl : ∀ j, depB ops i j = true → l.getD j true = true := fun j hj => listed_cl hI.closed hok hi hdep hj
  -- those that are listed, and i itself, see no difference
  have hup : ∀ e, e < ops.size → core e = true → (l.getD e true = true ∨ e = i) → ∀ t ∈ looks ops e, (AV ops core a0 (updV vals i v)).tmps[t]? = (AV ops core a0 vals).tmps[t]? := fun e he hce hle => AV_upd hok a0 vals _ e he hce fun j hj hcj hd => updV_ne _ _ fun hji => by
    subst hji
    have : l.getD j true = true := by
      rcases hle with h | rfl
      · exact listed_cl hI.closed hok he (hI.closed e he h) hd
      · exact hdl _ hd
    rw [hun] at this; cases this
  have hcase : ∀ k, (l.setIfInBounds i true).getD k true = true → k = i ∨ l.getD k true = true := fun k hk => by
    by_cases e : k = i
    · exact .inl e
    · rw [getD_set_other e] at hk; exact .inr hk
  have hne : ∀ k, l.getD k true = true → k ≠ i := fun k hk e => by rw [e, hun] at hk; cases hk
  have hsize : ∀ {k o'}, ops[k]? = some o' → k < ops.size := fun h => (Array.getElem?_eq_some_iff.1 h).1
  refine ⟨by simp [hI.hsz], ?_, ?_, ?_, hc, ?_, ?_, ?_, ?_, ?_⟩
  · cases hd : o.dst with
    | none => exact hI.sz
    | some d => simp [Act.put, hI.sz]
  · cases hd : o.dst with
    | none => exact hI.df
    | some d => simp [Act.put, hI.df]
  · intro t ht
    by_cases hd : o.dst = some t
    · have h1 := hok.ssa i i t hi hci hi hci (hdst.trans hd)
      rw [AV_get, if_pos (by rw [← hsz]; exact h1.1), hd]
      have hw := writer_of hok hi hci (hdst.trans hd)
      simp [Act.put, lookV, hw, updV, hI.sz, ← hsz, h1.1]
    · have e : (a.put o.dst v).tmps[t]? = a.tmps[t]? := by
        cases hx : o.dst with
        | none => rfl
        | some d =>
          have hne : d ≠ t := fun e => hd (by rw [hx, e])
          simp [Act.put, Array.getElem?_setIfInBounds_ne hne]
      rw [e, hI.slot t (fun j hj hcj hlj => by
        by_cases e : j = i
        · rw [e, hdst]; exact hd
        · exact ht j hj hcj (by rw [getD_set_other e]; exact hlj)), AV_get, AV_get]
      congr 1
      unfold lookV
      cases hw : writer ops core t with
      | none => rfl
      | some j =>
        have hjk : j ≠ i := fun e => by
          have := (writer_spec hw).2.2
          rw [e, hdst] at this
          exact hd this
        simp [updV, hjk]
  · intro k o' hck hlk ho' hw he
    rcases hcase k hlk with rfl | hlk
    · obtain rfl : o = o' := Option.some.inj (ho.symm.trans ho')
      have hu := hup k hi hci (.inr rfl)
      rw [updV_self]
      exact hst.a k _ _ _ _ (fun t ht => (hu t ht).symm) (hev (by rw [← agree_wanted ho hu]; exact hw) he)
    · have hu := hup k (hsize ho') hck (.inl hlk)
      rw [updV_ne _ _ (hne k hlk)]
      exact hst.a k _ _ _ _ (fun t ht => (hu t ht).symm) (hst.w _ _ _ _ _ (hI.fact k o' hck hlk ho' (by rw [← agree_wanted ho' hu]; exact hw) he) hb)
  · intro k o' hck hlk ho' hw he
    have hfe : ∀ e, e < ops.size → core e = true → l.getD e true = true → ∀ wk, W e (AV ops core a0 vals) (vals e) wk → W e (AV ops core a0 (updV vals i v)) (updV vals i v e) wk := fun e hes hce hle wk h => by
      rw [updV_ne _ _ (hne e hle)]
      exact hst.a e _ _ _ _ (fun t ht => (hup e hes hce (.inl hle) t ht).symm) h
    rcases hcase k hlk with rfl | hlk
    · obtain rfl : o = o' := Option.some.inj (ho.symm.trans ho')
      have hu := hup k hi hci (.inr rfl)
      refine ⟨w, hI.c, fun e oe hce hoe hwe hee hd => ?_, ?_⟩
      · have hle := hdl e hd
        have hue := hup e (hsize hoe) hce (.inl hle)
        exact hfe e (hsize hoe) hce hle w (hI.fact e oe hce hle hoe (by rw [← agree_wanted hoe hue]; exact hwe) hee)
      · rw [updV_self, agree_exec ho (fun cs b => hok.sel k o cs b ho hci) hu]
        exact hsv (by rw [← agree_wanted ho hu]; exact hw) he
    · have hks := hsize ho'
      have hu := hup k hks hck (.inl hlk)
      obtain ⟨wk, h1, h2, h3⟩ := hI.still k o' hck hlk ho' (by rw [← agree_wanted ho' hu]; exact hw) he
      refine ⟨wk, h1, fun e oe hce hoe hwe hee hd => ?_, ?_⟩
      · have hle := listed_cl hI.closed hok hks (hI.closed k hks hlk) hd
        have hue := hup e (hsize hoe) hce (.inl hle)
        exact hfe e (hsize hoe) hce hle wk (h2 e oe hce hoe (by rw [← agree_wanted hoe hue]; exact hwe) hee hd)
      · rw [updV_ne _ _ (hne k hlk), agree_exec ho' (fun cs b => hok.sel k o' cs b ho' hck) hu]
        exact h3
  · intro k o' hck hlk ho' hw
    rcases hcase k hlk with rfl | hlk
    · obtain rfl : o = o' := Option.some.inj (ho.symm.trans ho')
      rw [updV_self]
      exact hnw (by rw [← agree_wanted ho (hup k hi hci (.inr rfl))]; exact hw)
    · rw [updV_ne _ _ (hne k hlk)]
      exact hI.skip k o' hck hlk ho' (by rw [← agree_wanted ho' (hup k (hsize ho') hck (.inl hlk))]; exact hw)
  · intro k hk hlk e he
    have h1 : l.getD e true = true := by
      rcases hcase k hlk with rfl | hlk
      · exact hdep e he
      · exact hI.closed k hk hlk e he
    rw [getD_set_other (hne e h1)]; exact h1
  · intro k hk hck
    have hki : k ≠ i := fun e => by rw [e, hci] at hck; cases hck
    rw [getD_set_other hki]; exact hI.tail k hk hck
end
end Go.Proofs.YtbcagdjfegobnaaGreat
