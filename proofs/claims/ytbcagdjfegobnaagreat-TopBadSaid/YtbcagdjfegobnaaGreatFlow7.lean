/- A region that draws its order, walked once in the order of the text: whatever order is drawn. -/
import Derived.Test.YtbcagdjfegobnaaGreatFlow6
namespace Go.Proofs.YtbcagdjfegobnaaGreat
open Go.RowKit
set_option linter.unusedVariables false

section
variable {P : Program} {ops : Array Oper} {core ev : Nat → Bool} {C : World → Prop} {W : Nat → Act → Value → World → Prop} {R : World → World → Prop} {Q : Exit → Act → World → Prop}
def coreL (ops : Array Oper) (core : Nat → Bool) : List Nat := (List.range ops.size).filter core
/-- What stands behind the core. -/
def flowFin (P : Program) (ops : Array Oper) (core : Nat → Bool) (C : World → Prop) (Q : Exit → Act → World → Prop) (F : List Fact) (a : Act) : Prop :=
  ∀ w, C w → (∀ p ∈ F, p.2 w) → wpAny P .any ops Q (ops.size - (coreL ops core).length) ((List.range ops.size).map core).toArray a w
/-- How many of the core have not come up. -/
def left_ (ops : Array Oper) (core : Nat → Bool) (l : Array Bool) : Nat := ((coreL ops core).filter fun k => !l.getD k true).length
theorem left_zero {l : Array Bool} (h : left_ ops core l = 0) : ∀ k, k < ops.size → core k = true → l.getD k true = true := fun k hk hc => by
  unfold left_ at h
  have h1 := List.eq_nil_of_length_eq_zero h
  rw [List.filter_eq_nil_iff] at h1
  have := h1 k (by simp [coreL, hk, hc])
  simpa using this
theorem nodup_coreL : (coreL ops core).Nodup := List.Pairwise.filter _ List.nodup_range
theorem left_succ {l : Array Bool} (hsz : l.size = ops.size) {i : Nat} (hi : i < ops.size) (hc : core i = true) (hun : l.getD i true = false) : left_ ops core (l.setIfInBounds i true) + 1 = left_ ops core l := by
  unfold left_
  have hm : i ∈ coreL ops core := by simp [coreL, hi, hc]
  have key : ∀ (L : List Nat), L.Nodup → i ∈ L → (L.filter fun k => !(l.setIfInBounds i true).getD k true).length + 1 = (L.filter fun k => !l.getD k true).length := by
    intro L
    induction L with
    | nil => intro _ h; cases h
    | cons k L ih =>
      intro hnd hmem
      rw [List.nodup_cons] at hnd
      by_cases e : k = i
      · subst e
        have h1 : (L.filter fun j => !(l.setIfInBounds k true).getD j true) = L.filter fun j => !l.getD j true := List.filter_congr fun j hj => by
          have hjk : j ≠ k := fun e => hnd.1 (by rw [← e]; exact hj)
          rw [getD_set_other hjk]
        rw [List.filter_cons, List.filter_cons, h1]
        simp only [getD_set_self hi hsz, hun, Bool.not_true, Bool.not_false, Bool.false_eq_true, if_false, if_true, List.length_cons]
      · have hmem : i ∈ L := by
          rcases List.mem_cons.1 hmem with h | h
          · exact absurd h.symm e
          · exact h
        have := ih hnd.2 hmem
        rw [List.filter_cons, List.filter_cons, getD_set_other e]
        split
        · simp only [List.length_cons]; omega
        · exact this
  exact key _ nodup_coreL hm
theorem waits_ready {l : Array Bool} {i : Nat} {o : Oper} (ho : ops[i]? = some o) : (∀ e ∈ o.after, Region.binds .any e = true → l.getD e.on false = true) → ∀ e ∈ waits ops i, l.getD e true = true := by
  intro h e he
  unfold waits at he
  rw [ho] at he
  simp only [List.mem_map, List.mem_filter] at he
  obtain ⟨x, ⟨hx, hb⟩, rfl⟩ := he
  have h1 := h x (by simpa using hx) hb
  rcases Nat.lt_or_ge x.on l.size with hlt | hge
  · simp [hlt] at h1 ⊢; exact h1
  · simp [Array.getElem?_eq_none hge] at h1
theorem ready_waits {l : Array Bool} (hsz : l.size = ops.size) {i : Nat} {o : Oper} (ho : ops[i]? = some o) (hb : ∀ e ∈ waits ops i, e < ops.size ∧ l.getD e true = true) (hun : l.getD i true = false) : i ∈ Region.ready .any ops l := by
  rw [mem_ready]
  refine ⟨hun, o, ho, fun e he hbi => ?_⟩
  have hm : e.on ∈ waits ops i := by
    unfold waits
    rw [ho]
    simp only [List.mem_map, List.mem_filter]
    exact ⟨e, ⟨by simpa using he, hbi⟩, rfl⟩
  obtain ⟨h1, h2⟩ := hb _ hm
  simp [hsz, h1] at h2 ⊢
  exact h2

theorem pure_ok (h : pureB ops core ev = true) : (∀ (j : Nat) (o : Oper) cs b, ops[j]? = some o → o.op ≠ .select cs b) ∧ ∀ j, j < ops.size → core j = true → pu ops j = true → ev j = false ∧ ∀ i oi oj, ops[i]? = some oi → ops[j]? = some oj → i ≠ j → j ∉ waits ops i → depB ops j i = false → oj.apart ops oi = true := by
  unfold pureB at h
  rw [Bool.and_eq_true] at h
  refine ⟨Region.noSelect_spec h.1, fun j hj hc hp => ?_⟩
  have := List.all_eq_true.1 h.2 j (List.mem_range.2 hj)
  simp only [hc, hp, Bool.and_self, Bool.not_true, Bool.false_or, Bool.and_eq_true] at this
  refine ⟨by simpa using this.1, fun i oi oj hi hoj hne hw hdp => ?_⟩
  have h2 := List.all_eq_true.1 this.2 i (List.mem_range.2 (Array.getElem?_eq_some_iff.1 hi).1)
  have h3 : (i == j) = false := by simpa using hne
  simpa [h3, hw, hi, hoj, hdp] using h2

theorem flow_all {sz : Nat} (hok : FlowOk ops core sz) (hpu : pureB ops core ev = true) (hQ : ∀ c a d v w, Q (.panic c) (a.put (some d) v) w → Q (.panic c) a w) (hst : FStay ops C W R) {a0 : Act} (hsz : sz = a0.tmps.size) (hfl : flowL P ops ev C W R (flowFin P ops core C Q) (coreL ops core) [] a0) :
    ∀ (n : Nat) (l : Array Bool) (vals : Nat → Value) (a : Act) (w : World), left_ ops core l = n → FInv P ops core ev C W a0 l vals a w → wpAny P .any ops Q (ops.size - (coreL ops core).length + n) l a w
  | 0, l, vals, a, w, hn, hI => by
    have hall := left_zero hn
    obtain ⟨vals', w', F, A, hat, hf, hb⟩ := flow_walk hok hst hsz hI hfl _ (coreL ops core) [] rfl (by rw [List.append_nil]; rfl)
    have hv : ∀ t, (AV ops core a0 vals').tmps[t]? = (AV ops core a0 vals).tmps[t]? := fun t => by
      rw [AV_get, AV_get]
      congr 1
      unfold lookV
      cases hw : writer ops core t with
      | none => rfl
      | some j =>
        obtain ⟨h1, h2, _⟩ := writer_spec hw
        simp only
        rw [hat.same j h2 h1 (hall j h1 h2)]
    have hA : A = a := by
      have h1 : A.tmps = a.tmps := Array.ext_getElem? fun t => by
        rw [hat.slot t (fun j hj => by cases hj), hv t, hI.slot t (fun j hj hc hl => by rw [hall j hj hc] at hl; cases hl)]
      have h2 : A.defers = a.defers := hat.df.trans hI.df.symm
      cases A; cases a; simp only at h1 h2; rw [h1, h2]
    have hl : l = ((List.range ops.size).map core).toArray := by
      apply Array.ext_getElem?
      intro k
      by_cases hk : k < ops.size
      · have h1 : l.getD k true = core k := by
          cases hc : core k with
          | true => exact hall k hk hc
          | false => exact hI.tail k hk hc
        have h2 : k < l.size := by rw [hI.hsz]; exact hk
        simp [h2] at h1
        simp [h2, hk, h1]
      · rw [Array.getElem?_eq_none (by rw [hI.hsz]; omega), Array.getElem?_eq_none (by simp; omega)]
    rw [hA] at hf
    rw [hl]
    refine hf w hI.c fun p hp => ?_
    obtain ⟨o', Ae, g1, g2, g3, g4, g5, g6, g7, g8⟩ := hat.form p hp
    rw [g8, hat.same p.1 g2 g1 (hall _ g1 g2)]
    have hAe : ∀ t ∈ looks ops p.1, Ae.tmps[t]? = (AV ops core a0 vals).tmps[t]? := fun t ht => (g7 t ht).trans (hv t)
    exact hst.a _ _ _ _ _ (fun t ht => (hAe t ht).symm) (hI.fact p.1 o' g2 (hall _ g1 g2) g4 (by rw [← agree_wanted g4 (fun t _ => hv t)]; exact g6) g5)
  | n + 1, l, vals, a, w, hn, hI => by
    rw [← Nat.add_assoc]
    obtain ⟨hsel, hpu'⟩ := pure_ok hpu
    have hnil : Region.ready .any ops l ≠ [] := by
      intro hr
      have hall : ∀ k, k < ops.size → core k = true → l.getD k true = true := by
        intro k
        induction k using Nat.strongRecOn with
        | _ k ih =>
          intro hk hc
          cases hl : l.getD k true with
          | true => rfl
          | false =>
            exfalso
            have hm := ready_waits hI.hsz (o := ops[k]) (by simp [hk]) (fun e he => ⟨by have := hok.back k hk e he; omega, ih e (hok.back k hk e he) (by have := hok.back k hk e he; omega) (hok.cl k hk hc e he)⟩) hl
            rw [hr] at hm
            cases hm
      have h0 : left_ ops core l = 0 := by
        unfold left_
        rw [List.length_eq_zero_iff, List.filter_eq_nil_iff]
        intro k hk
        simp only [coreL, List.mem_filter, List.mem_range] at hk
        simp [hall k hk.1 hk.2]
      omega
    -- what an operation of the core that may come up does
    have hdo : ∀ i o, ops[i]? = some o → core i = true → l.getD i true = false → (∀ e ∈ waits ops i, l.getD e true = true) →
        (Region.wanted o (yielded ops a.tmps) = true → ev i = true → doesR P (fun v w' => wpAny P .any ops Q (ops.size - (coreL ops core).length + n) (l.setIfInBounds i true) (a.put o.dst v) w') ((execOp a.eval o).run P w)) ∧
        (Region.wanted o (yielded ops a.tmps) = true → ev i = false → ∃ v, stillR w v ((execOp a.eval o).run P w) ∧ (pu ops i = true → ∀ w', (execOp a.eval o).run P w' = .ok (.value v) w') ∧ wpAny P .any ops Q (ops.size - (coreL ops core).length + n) (l.setIfInBounds i true) (a.put o.dst v) w) ∧
        (Region.wanted o (yielded ops a.tmps) = false → wpAny P .any ops Q (ops.size - (coreL ops core).length + n) (l.setIfInBounds i true) (a.put o.dst undef) w) := by
      intro i o ho hci hun hdep
      have his : i < ops.size := (Array.getElem?_eq_some_iff.1 ho).1
      obtain ⟨pre, suf, hl⟩ := List.append_of_mem (show i ∈ coreL ops core by simp [coreL, his, hci])
      obtain ⟨vals', w', F, A, hat, hf, hb⟩ := flow_walk hok hst hsz hI hfl _ pre (i :: suf) rfl hl
      obtain ⟨_, _, hpre, hsuf⟩ := core_sorted hl
      have hf := hf o ho
      have hdl : ∀ j, depB ops i j = true → l.getD j true = true := fun j hj => listed_cl hI.closed hok his hdep hj
      have hAk : ∀ t ∈ looks ops i, A.tmps[t]? = (AV ops core a0 vals).tmps[t]? := fun t ht =>
        (at_looks hok his hci (fun j hj => by
          rcases List.mem_cons.1 hj with rfl | hj
          · exact ⟨Nat.le_refl _, his, hci⟩
          · exact ⟨Nat.le_of_lt (hsuf j hj).1, (hsuf j hj).2⟩) hat.slot t ht).trans (AV_upd hok a0 vals vals' i his hci (fun j hj hcj hd => hat.same j hcj hj (hdl j hd)) t ht)
      have ha : ∀ t ∈ looks ops i, a.tmps[t]? = (AV ops core a0 vals).tmps[t]? := fun t ht => hI.slot t fun j hj hcj hlj e => by
        have := hdl j ((hok.ssa i j t his hci hj hcj e).2.1 ht)
        rw [this] at hlj; cases hlj
      have hex : execOp a.eval o = execOp (AV ops core a0 vals).eval o := agree_exec ho (fun cs b => hok.sel i o cs b ho hci) ha
      have hexA : execOp A.eval o = execOp (AV ops core a0 vals).eval o := agree_exec ho (fun cs b => hok.sel i o cs b ho hci) hAk
      have hwa := agree_wanted ho ha
      have hwA := agree_wanted ho hAk
      have hcls : cls ops C F i w := ⟨hI.c, fun p hp hd => by
        obtain ⟨o', Ae, g1, g2, g3, g4, g5, g6, g7, g8⟩ := hat.form p hp
        have hlp := hdl p.1 hd
        have hu := AV_upd hok a0 vals vals' p.1 g1 g2 (fun j hj hcj hd => hat.same j hcj hj (listed_cl hI.closed hok g1 (hI.closed p.1 g1 hlp) hd))
        rw [g8, hat.same p.1 g2 g1 hlp]
        exact hst.a _ _ _ _ _ (fun t ht => ((g7 t ht).trans (hu t ht)).symm) (hI.fact p.1 o' g2 hlp g4 (by rw [← agree_wanted g4 hu]; exact g6) g5)⟩
      have hgo : ∀ v w', R w w' → C w' → (Region.wanted o (yielded ops (AV ops core a0 vals).tmps) = true → ev i = true → W i (AV ops core a0 vals) v w') → (Region.wanted o (yielded ops (AV ops core a0 vals).tmps) = true → ev i = false → stillR w v ((execOp (AV ops core a0 vals).eval o).run P w)) →
          (Region.wanted o (yielded ops (AV ops core a0 vals).tmps) = false → v = undef) → wpAny P .any ops Q (ops.size - (coreL ops core).length + n) (l.setIfInBounds i true) (a.put o.dst v) w' := fun v w' h1 h2 h3 h4 h5 =>
        flow_all hok hpu hQ hst hsz hfl n _ _ _ _ (by have := left_succ hI.hsz his hci hun; omega) (flow_step hok hst hsz hI ho hci hun hdep v h1 h2 h3 h4 h5)
      refine ⟨fun hw he => ?_, fun hw he => ?_, fun hw => ?_⟩
      · have hwv : Region.wanted o (yielded ops (AV ops core a0 vals).tmps) = true := by rw [← hwa]; exact hw
        rw [if_pos (by rw [hwA]; exact hwv), if_pos he] at hf
        have h1 := hf.1 w hcls
        rw [hexA, ← hex] at h1
        exact h1.mono fun v w2 ⟨g1, g2, g3⟩ => hgo v w2 g3 g2 (fun _ _ => hst.a _ _ _ _ _ hAk g1) (fun _ h => by rw [he] at h; cases h) (fun h => by rw [hwv] at h; cases h)
      · have hwv : Region.wanted o (yielded ops (AV ops core a0 vals).tmps) = true := by rw [← hwa]; exact hw
        rw [if_pos (by rw [hwA]; exact hwv), if_neg (by simp [he])] at hf
        obtain ⟨v, h1, hpv, _⟩ := hf
        have h1 := h1 w hcls
        have h2 := h1
        rw [hexA, ← hex] at h1
        rw [hexA] at h2
        exact ⟨v, h1, fun hp w' => by have h3 := hpv hp w'; rw [hexA, ← hex] at h3; exact h3, hgo v w (hst.r0 _) hI.c (fun _ h => by rw [he] at h; cases h) (fun _ _ => h2) (fun h => by rw [hwv] at h; cases h)⟩
      · have hwv : Region.wanted o (yielded ops (AV ops core a0 vals).tmps) = false := by rw [← hwa]; exact hw
        exact hgo undef w (hst.r0 _) hI.c (fun h _ => by rw [hwv] at h; cases h) (fun h _ => by rw [hwv] at h; cases h) (fun _ => rfl)
    by_cases hex : ∃ i, i ∈ Region.ready .any ops l ∧ core i = true ∧ pu ops i = true
    · -- one that yields in whatever world is taken first
      obtain ⟨i, hi, hci, hpi⟩ := hex
      obtain ⟨hun, o, ho, hdp⟩ := mem_ready.1 hi
      have his : i < ops.size := (Array.getElem?_eq_some_iff.1 ho).1
      have hdep := waits_ready ho hdp
      obtain ⟨hei, hap⟩ := hpu' i his hci hpi
      have hpo : pureOp o = true := by simpa [pu, ho] using hpi
      have hQp : ∀ c (a : Act) v w, Q (.panic c) (a.put o.dst v) w → Q (.panic c) a w := fun c a v w h => by
        cases hd : o.dst with
        | none => rw [hd] at h; exact h
        | some d => rw [hd] at h; exact hQ c a d v w h
      obtain ⟨_, d2, d3⟩ := hdo i o ho hci hun hdep
      have hfree : ∀ j oj, ops[j]? = some oj → j ≠ i → l.getD j true = false → (∀ e ∈ oj.after, Region.binds .any e = true → e.on ≠ i) → o.apart ops oj = true := fun j oj hj hne hlj hno => hap j oj o hj ho hne (fun hm => by
        unfold waits at hm
        rw [hj] at hm
        simp only [List.mem_map, List.mem_filter] at hm
        obtain ⟨x, ⟨hx, hb⟩, hxi⟩ := hm
        exact hno x (by simpa using hx) hb hxi) (by
          cases hd : depB ops i j with
          | false => rfl
          | true =>
            have := listed_cl hI.closed hok his hdep hd
            rw [hlj] at this; cases this)
      cases hw : Region.wanted o (yielded ops a.tmps) with
      | true =>
        obtain ⟨v, h1, hpv, h2⟩ := d2 hw hei
        exact wpAny_first ho hsel (fun c a w h => hQp c a _ w h) _ l a w hfree hi (.inl ⟨hw, hpv hpi⟩) h2
      | false => exact wpAny_first ho hsel (fun c a w h => hQp c a _ w h) _ l a w hfree hi (.inr ⟨hw, rfl⟩) (d3 hw)
    · refine ⟨fun hr => absurd hr hnil, fun i hi => ?_⟩
      obtain ⟨hun, o, ho, hdp⟩ := mem_ready.1 hi
      have his : i < ops.size := (Array.getElem?_eq_some_iff.1 ho).1
      have hdep := waits_ready ho hdp
      have hci : core i = true := by
        cases hc : core i with
        | true => rfl
        | false =>
          exfalso
          have hall : ∀ k, k < ops.size → core k = true → l.getD k true = true := by
            intro k
            induction k using Nat.strongRecOn with
            | _ k ih =>
              intro hk hck
              cases hl : l.getD k true with
              | true => rfl
              | false =>
                exfalso
                rcases hok.last i k his hc hk hck with hd | hp
                · have := listed_cl hI.closed hok his hdep hd
                  rw [hl] at this; cases this
                · exact hex ⟨k, ready_waits hI.hsz (o := ops[k]) (by simp [hk]) (fun e he => ⟨by have := hok.back k hk e he; omega, ih e (hok.back k hk e he) (by have := hok.back k hk e he; omega) (hok.cl k hk hck e he)⟩) hl, hck, hp⟩
          have h0 : left_ ops core l = 0 := by
            unfold left_
            rw [List.length_eq_zero_iff, List.filter_eq_nil_iff]
            intro k hk
            simp only [coreL, List.mem_filter, List.mem_range] at hk
            simp [hall k hk.1 hk.2]
          omega
      obtain ⟨d1, d2, d3⟩ := hdo i o ho hci hun hdep
      refine wpOp_if ho ?_
      by_cases hw : Region.wanted o (yielded ops a.tmps) = true
      · rw [if_pos hw]
        cases he : ev i with
        | true => exact wp_of_does (d1 hw he) fun v w2 h => h
        | false => obtain ⟨v, h1, _, h2⟩ := d2 hw he; exact wp_of_still h1 h2
      · rw [if_neg hw]
        exact d3 (by simpa using hw)

/-- **A REGION THAT DRAWS ITS ORDER, WALKED ONCE**, in the order of the text; behind it what is left of it, its core having come up. -/
theorem wp_region_flow {id : Nat} {a : Act} {w : World} (hm : P.follows .mixedOrders = true) (core ev : Nat → Bool) (sz : Nat) (hB : flowB ops core sz = true) (hpu : pureB ops core ev = true) (hQ : ∀ c a d v w, Q (.panic c) (a.put (some d) v) w → Q (.panic c) a w) (hsz : a.tmps.size = sz) (C : World → Prop) (W : Nat → Act → Value → World → Prop)
    (hst : FStay ops C W R) (hC : C w.drew) (hfl : flowL P ops ev C W R (flowFin P ops core C Q) (coreL ops core) [] a) : (Code.region id ops true).wp P Q a w := by
  refine wp_region_any hm ?_
  have hc0 : ∀ k, (Array.replicate ops.size false).getD k true = true → ¬ k < ops.size := fun k hk h => by simp [h] at hk
  have hle : (coreL ops core).length ≤ ops.size := by
    have := List.length_filter_le core (List.range ops.size)
    simpa [coreL] using this
  have h := flow_all (flow_ok hB) hpu hQ hst hsz.symm hfl (coreL ops core).length (Array.replicate ops.size false) (fun _ => undef) a w.drew (by
    unfold left_
    congr 1
    rw [List.filter_eq_self]
    intro k hk
    simp only [coreL, List.mem_filter, List.mem_range] at hk
    simp [hk.1]) ⟨by simp, rfl, rfl, fun t ht => ?_, hC, fun k o hk hl ho => absurd (Array.getElem?_eq_some_iff.1 ho).1 (hc0 k hl), fun k o hk hl ho => absurd (Array.getElem?_eq_some_iff.1 ho).1 (hc0 k hl), fun k o hk hl ho => absurd (Array.getElem?_eq_some_iff.1 ho).1 (hc0 k hl), fun k hk hl => absurd hk (hc0 k hl), fun k hk _ => by simp [hk]⟩
  · rw [Nat.sub_add_cancel hle] at h
    exact h
  · rw [AV_get]
    have hw : writer ops core t = none := by
      cases hw : writer ops core t with
      | none => rfl
      | some j =>
        obtain ⟨h1, h2, h3⟩ := writer_spec hw
        exact absurd h3 (ht j h1 h2 (by simp [h1]))
    by_cases h : t < a.tmps.size
    · rw [if_pos h]; simp [lookV, hw, h]
    · rw [if_neg h]; exact Array.getElem?_eq_none (Nat.le_of_not_lt h)
end
end Go.Proofs.YtbcagdjfegobnaaGreat
