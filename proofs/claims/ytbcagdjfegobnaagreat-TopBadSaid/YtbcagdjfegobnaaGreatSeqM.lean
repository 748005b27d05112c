/- A loop by a measure that its condition names; a region that draws its order, whose frame is whatever. -/
import Derived.Test.YtbcagdjfegobnaaGreatSeqN
import Derived.Test.YtbcagdjfegobnaaGreatFlowF
namespace Go.Proofs.YtbcagdjfegobnaaGreat
open Go.RowKit
set_option linter.unusedVariables false

theorem Blk.neq {w : World} {q g : Nat} {E t : TypeId} {cs ds : Array Value} (h : Blk w q E cs) (k : Blk w g t ds) (hne : E ≠ t) : q ≠ g := fun e => by
  subst e
  have h1 : some (Obj.cells cs E (0, 0)) = some (Obj.cells ds t (0, 0)) := (show w.heap[q]? = _ from h).symm.trans k
  injection h1 with h1; injection h1 with h1 h2; exact hne h2
theorem own_neq {α : Type} {f : α → List Value} {m base : Nat} {E t : TypeId} {w : World} {A : Option Addr} {c : Nat} {xs : List α} {g : Nat} {cs : Array Value} (h : OwnX f m w base E A c xs) (hg : Blk w g t cs) (hne : E ≠ t) : ∀ a, A = some a → a.block ≠ g := by
  intro a ha e
  subst ha
  rcases h.2 with ⟨h1, _⟩ | ⟨q, cap, cur, hv, _, hh, _⟩
  · cases h1
  · injection hv with h1
    injection h1 with h1
    subst h1
    subst e
    unfold Blk at hg
    rw [hh] at hg
    injection hg with h3
    injection h3 with _ h4
    exact hne h4
theorem all_one {cs : Array Value} (h : cs.toList.all (·.oneCell') = true) : ∀ v ∈ cs.toList, v.oneCell' = true := fun v hv => List.all_eq_true.1 h v hv
theorem part_ex {cs p : Array Value} {off : Nat} (h : (cs.toList.drop off).take p.size = p.toList) : ∀ j v, p[j]? = some v → cs[off + j]? = some v := fun j v hv => by
  have h1 : p.toList[j]? = some v := by simpa using hv
  rw [← h, List.getElem?_take] at h1
  split at h1
  · simpa [List.getElem?_drop] using h1
  · cases h1
theorem then_normal {K : Act → World → Prop} {Q : Exit → Act → World → Prop} {a : Act} {w : World} (h : K a w) : Exit.then K Q .normal a w := h
theorem rounds_step {P : Program} {c : Code} {Q : Exit → Act → World → Prop} {n : Nat} {a : Act} {w : World} (h : c.wp P (Exit.then (Code.rounds P c Q n) Q) a w) : Code.rounds P c Q (n + 1) a w := h
theorem then_ret {K : Act → World → Prop} {Q : Exit → Act → World → Prop} {a : Act} {w : World} (h : Q .ret a w) : Exit.then K Q .ret a w := h
theorem inBlock_ret {id : Nat} {Q : Exit → Act → World → Prop} {a : Act} {w : World} (h : Q .ret a w) : Exit.inBlock id Q .ret a w := h
theorem then_exit {K : Act → World → Prop} {id : Nat} {Q : Exit → Act → World → Prop} {a : Act} {w : World} (h : Q (.exit id) a w) : Exit.then K Q (.exit id) a w := h
theorem inBlock_exit {id : Nat} {Q : Exit → Act → World → Prop} {a : Act} {w : World} (h : Q .normal a w) : Exit.inBlock id Q (.exit id) a w := by simp only [Exit.inBlock, if_true]; exact h
theorem inBlock_exit_ {id j : Nat} {Q : Exit → Act → World → Prop} {a : Act} {w : World} (hne : decide (j = id) = false) (h : Q (.exit j) a w) : Exit.inBlock id Q (.exit j) a w := by
  have : ¬ j = id := of_decide_eq_false hne
  simp only [Exit.inBlock, if_neg this]; exact h
theorem wp_loopI {P : Program} {Q : Exit → Act → World → Prop} {a : Act} {w : World} {c : Code} (I : Nat → Act → World → Prop) (n : Nat) (h : I n a w)
    (round : ∀ n a w, I n a w → c.wp P (Exit.then (fun a' w' => ∃ m, m < n ∧ I m a' w') Q) a w) : (Code.loop c).wp P Q a w := by
  intro b k cs
  have key : ∀ n a w, I n a w →
      ∃ e a' w', Q e a' w' ∧ Arrives P (lone (b.at a (.code c :: .inLoop c :: k)) cs w) b k cs e a' w' := by
    intro n
    induction n using Nat.strongRecOn with
    | _ n ih =>
      intro a w hI
      obtain ⟨e, a₁, w₁, hq, harr⟩ := round n a w hI b (.inLoop c :: k) cs
      cases e with
      | normal =>
        obtain ⟨m, hlt, hI₁⟩ := hq
        obtain ⟨e₂, a₂, w₂, hq₂, harr₂⟩ := ih m hlt a₁ w₁ hI₁
        exact ⟨e₂, a₂, w₂, hq₂, .of_steps (Steps.trans harr (.one step_inLoop)) harr₂⟩
      | exit id => exact ⟨_, a₁, w₁, hq, .pass (x := .inLoop c) rfl (fun _ _ => .inl (by simp)) harr⟩
      | goto l => exact ⟨_, a₁, w₁, hq, .pass (x := .inLoop c) rfl (fun _ _ => .inl (by simp)) harr⟩
      | ret => exact ⟨_, a₁, w₁, hq, .pass (x := .inLoop c) rfl (fun _ _ => .inl (by simp)) harr⟩
      | panic ch => exact ⟨_, a₁, w₁, hq, .pass (x := .inLoop c) rfl (fun _ _ => .inl (by simp)) harr⟩
      | outgrown => exact ⟨_, a₁, w₁, hq, .pass (x := .inLoop c) rfl (fun _ _ => .inl (by simp)) harr⟩
  obtain ⟨e, a', w', hq, harr⟩ := key n a w h
  exact ⟨e, a', w', hq, .of_steps (.one step_loop) harr⟩
/-- What a region's operations from here on come to; a structure, for a def would be unfolded (whnf) by each 'refine'. -/
structure WL (P : Program) (ops : Array Oper) (Q : Exit → Act → World → Prop) (l : List Oper) (a : Act) (w : World) : Prop where
  out : wpList P ops Q l a w
section
variable {P : Program} {ops : Array Oper} {Q : Exit → Act → World → Prop} {a : Act} {w : World} {o : Oper} {os : List Oper}
theorem wp_regionW {id : Nat} {l : List Oper} (h : WL P l.toArray Q l a w) : (Code.region id l.toArray false).wp P Q a w := wp_region_lit h.out
theorem wnil (h : Q .normal a w) : WL P ops Q [] a w := ⟨wpList_nil h⟩
theorem wval (d : Option Tmp) (v : Value) (w' : World) (hd : o.dst = d) (hw : Region.wanted o (yielded ops a.tmps) = true) (hr : (execOp a.eval o).run P w = .ok (.value v) w') (h : WL P ops Q os (a.put d v) w') : WL P ops Q (o :: os) a w := ⟨lvalG d v w' hd hw hr h.out⟩
theorem wvalE (d : Option Tmp) (v0 v : Value) (w' : World) (e : v0 = v) (hd : o.dst = d) (hw : Region.wanted o (yielded ops a.tmps) = true) (hr : (execOp a.eval o).run P w = .ok (.value v0) w') (h : WL P ops Q os (a.put d v) w') : WL P ops Q (o :: os) a w := ⟨lvalE d v0 v w' e hd hw hr h.out⟩
theorem wskip (d : Option Tmp) (hd : o.dst = d) (hw : Region.wanted o (yielded ops a.tmps) = false) (h : WL P ops Q os (a.put d undef) w) : WL P ops Q (o :: os) a w := ⟨lskip d hd hw h.out⟩
theorem wnew (d : Option Tmp) (E : TypeId) (cs : Array Value) (vf : Nat → Value) (hd : o.dst = d) (hg : o.guard = none) (hr : (execOp a.eval o).run P w = .ok (.value (vf w.heap.size)) (w.alloc (.cells cs E)))
    (h : ∀ w' g, w.heap.size = g → Blk w' g E cs → Below w.heap.size w w' → WL P ops Q os (a.put d (vf g)) w') : WL P ops Q (o :: os) a w := ⟨lnew d E cs vf hd hg hr fun w' g h1 h2 h3 => (h w' g h1 h2 h3).out⟩
theorem wload (d : Option Tmp) (v : Value) (ty : TypeId) (x : Operand) (b off : Nat) (desc : TypeDesc) (hd : o.dst = d) (hw : Region.wanted o (yielded ops a.tmps) = true) (ho : o.op = .load ty x) (hx : a.eval x = .pointer (some ⟨b, off, none⟩)) (hu : P.underlying ty = some desc) (hds : (match desc with | .struct _ | .array _ _ => true | _ => false) = false) (hc : w.cell? ⟨b, off, none⟩ = some v) (h : WL P ops Q os (a.put d v) w) : WL P ops Q (o :: os) a w := ⟨lloadG d v ty x b off desc hd hw ho hx hu hds hc h.out⟩
theorem wloadR (d : Option Tmp) (hd : o.dst = d) (hw : Region.wanted o (yielded ops a.tmps) = true) (ty : TypeId) (x : Operand) (ho : o.op = .load ty x) (b off : Nat) (hx : a.eval x = .pointer (some ⟨b, off, none⟩)) (p : Array Value) (desc : TypeDesc)
    (hu : P.underlying ty = some desc) (hds : (match desc with | .struct _ | .array _ _ => true | _ => false) = true) (hi : (P.info? ty).map (·.size) = some p.size) (hc : ∀ j v, p[j]? = some v → w.cell? ⟨b, off + j, none⟩ = some v)
    (h : WL P ops Q os (a.put d (.agg p)) w) : WL P ops Q (o :: os) a w := ⟨wpList_loadG hw ty x ho b off hx p desc hu hds hi hc (by rw [hd]; exact h.out)⟩
theorem widx (d : Option Tmp) (t : TypeId) (x y : Operand) (b off n c : Nat) (K : IntKind) (i : Int) (sz : Nat) (to_ : Nat) (hd : o.dst = d) (hg : o.guard = none)
    (ho : o.op = .indexAddr t x y) (hx : a.eval x = .slice (some ⟨b, off, none⟩) n c) (hy : a.eval y = .int K i) (ht : P.underlying t = some (.slice (P.elem t))) (hz : (sizeOf (P.elem t)).run P w = .ok sz w) (h0 : 0 ≤ i) (h1 : i < n) (hto : off + i.toNat * sz = to_)
    (h : WL P ops Q os (a.put d (.pointer (some ⟨b, to_, none⟩))) w) : WL P ops Q (o :: os) a w := ⟨lidx d t x y b off n c K i sz to_ hd hg ho hx hy ht hz h0 h1 hto h.out⟩
theorem widxG (d : Option Tmp) (t : TypeId) (x y : Operand) (b off n c : Nat) (K : IntKind) (i : Int) (sz : Nat) (to_ : Nat) (hd : o.dst = d) (hw : Region.wanted o (yielded ops a.tmps) = true)
    (ho : o.op = .indexAddr t x y) (hx : a.eval x = .slice (some ⟨b, off, none⟩) n c) (hy : a.eval y = .int K i) (ht : P.underlying t = some (.slice (P.elem t))) (hz : (sizeOf (P.elem t)).run P w = .ok sz w) (h0 : 0 ≤ i) (h1 : i < n) (hto : off + i.toNat * sz = to_)
    (h : WL P ops Q os (a.put d (.pointer (some ⟨b, to_, none⟩))) w) : WL P ops Q (o :: os) a w :=
  wval d _ w hd hw (by
    subst hto
    unfold execOp
    simp only [ho, hx, hy, Sem.run_bind, run_indexAt_slice (h := ht), h0, h1, and_self, if_true, hz, Result.andThen_ok, Sem.run_pure, add_none]) h
theorem wcall (d : Option Tmp) (f : FuncId) (args : Array Value) (hd : o.dst = d) (hg : o.guard = none) (hr : (execOp a.eval o).run P w = .ok (.enter f args) w) (hc : Calls P f args w (fun e w'' => ∃ v, e = .returned v ∧ WL P ops Q os (a.put d v) w'')) : WL P ops Q (o :: os) a w :=
  ⟨lcall d f args hd hg hr (hc.mono fun e w'' ⟨v, he, h⟩ => ⟨v, he, h.out⟩)⟩
theorem wset (ty : TypeId) (x y : Operand) (b off : Nat) (v u : Value) (desc : TypeDesc) (hg : o.guard = none) (hd : o.dst = none) (ho : o.op = .store ty x y) (hx : a.eval x = .pointer (some ⟨b, off, none⟩)) (hy : a.eval y = v) (hu : P.underlying ty = some desc) (hds : (match desc with | .struct _ | .array _ _ => true | _ => false) = false) (hc : w.cell? ⟨b, off, none⟩ = some u) (hf : w.frozen? ⟨b, off, none⟩ = false) (hv : v.cells = #[v]) (hi : (P.info? ty).map (·.size) = some 1) (h1 : v.oneCell' = true)
    (h : WL P ops Q os (a.put none undef) (w.setCell ⟨b, off, none⟩ v)) : WL P ops Q (o :: os) a w := ⟨lset ty x y b off v u desc hg hd ho hx hy hu hds hc hf hv hi h1 h.out⟩
theorem wstoreP (hgd : o.guard = none) (hd : o.dst = none) (ty : TypeId) (x y : Operand) (ho : o.op = .store ty x y) (g off : Nat) (hx : a.eval x = .pointer (some ⟨g, off, none⟩)) (p : Array Value) (hy : a.eval y = .agg p)
    (t : TypeId) (cs : Array Value) (hg : Blk w g t cs) (hi : (P.info? ty).map (·.size) = some p.size) (hs : off + p.size ≤ cs.size) (h1 : ∀ v ∈ p.toList, v.oneCell' = true) (cs' : Array Value) (hcs : (cs.toList.take off ++ p.toList ++ cs.toList.drop (off + p.size)).toArray = cs')
    (h : ∀ w', Blk w' g t cs' → Wr g w w' → WL P ops Q os (a.put none undef) w') : WL P ops Q (o :: os) a w :=
  ⟨wpList_storeP hgd ty x y ho g off hx p hy t cs hg hi hs h1 cs' hcs fun w' hB hw => by rw [hd]; exact (h w' hB hw).out⟩
theorem wapp {α : Type} (d : Option Tmp) (f : α → List Value) (size : Nat) (hone : ∀ (xs : List α), ∀ u ∈ xs.flatMap f, u.oneCell' = true) (s x : Operand) (t : TypeId) (hd : o.dst = d) (hgd : o.guard = none)
    (ho : o.op = .call { callee := .builtin .append, args := #[s, x], argTypes := #[t, t] })
    (base : Nat) (E : TypeId) (z : Value) (bytes : Nat) (ht : P.underlying t = some (.slice E)) (hinfo : (P.info? E).map (fun i => (i.zero, i.size, i.bytes)) = some (some z, size, bytes)) (hzs : z.cells.size = size) (hsz : 0 < size) (hb1 : 1 ≤ bytes)
    (A0 : Option Addr) (n0 c0 : Nat) (us : List α) (hs : a.eval s = .slice A0 n0 c0) (hn0 : us.length = n0) (hown : OwnX f size w base E A0 c0 us)
    (A : Option Addr) (m0 c : Nat) (bs : List α) (hx : a.eval x = .slice A m0 c) (hm0 : bs.length = m0) (hr : RdX f size w A bs)
    (zs : List α) (hz : us ++ bs = zs) (k : Nat) (hk : n0 + m0 = k) (hbytes : (n0 + m0) * bytes ≤ 140737488355328) (hbase : base ≤ w.heap.size)
    (h : ∀ A' c' w', OwnX f size w' base E A' c' zs → k ≤ c' → c' ≤ 9223372036854775807 → Below base w w' → w.grownBy w' (A0.map (·.block)) → (A'.map (·.block) = A0.map (·.block) ∨ A'.map (·.block) = some w.heap.size) → WL P ops Q os (a.put d (.slice A' k c')) w') : WL P ops Q (o :: os) a w :=
  ⟨wpList_appL f size hone w hgd s x t ho base E z bytes ht hinfo hzs hsz hb1 A0 n0 c0 us hs hn0 hown A m0 c bs hx hm0 hr zs hz k hk hbytes hbase fun A' c' w' h1 h2 h3 h4 h5 h6 => by rw [hd]; exact (h A' c' w' h1 h2 h3 h4 h5 h6).out⟩
end
end Go.Proofs.YtbcagdjfegobnaaGreat
