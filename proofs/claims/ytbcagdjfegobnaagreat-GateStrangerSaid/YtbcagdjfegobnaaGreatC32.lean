/- Texts of the proof, laid together: Gate7 FlowX. -/
import Derived.Test.YtbcagdjfegobnaaGreatC13
import Derived.Test.YtbcagdjfegobnaaGreatC30
import Derived.Test.YtbcagdjfegobnaaGreatC31
import Derived.Test.YtbcagdjfegobnaaGreatC09
import Derived.ChangeKeysEq
/- Gates whose connections have just begun: the contract of desk.retry: a token is told. -/
namespace Go.Proofs.YtbcagdjfegobnaaGreat
open Go.ChangeShapes Go.WideShapes Go.ChangeAt Go.RowKit
set_option linter.unusedVariables false

end Go.Proofs.YtbcagdjfegobnaaGreat
/- A region that draws its order, walked once: more steps. -/
namespace Go.Proofs.YtbcagdjfegobnaaGreat
open Go.RowKit
set_option linter.unusedVariables false

section
variable {P : Program} {ops : Array Oper} {core ev : Nat → Bool} {C : World → Prop} {W : Nat → Act → Value → World → Prop} {R : World → World → Prop} {Q : Exit → Act → World → Prop} {Fin : List Fact → Act → Prop} {k : Nat} {ks : List Nat} {F : List Fact} {a : Act} {w : World} {ts : List Nat}
/-- .. whose value is written otherwise. -/
theorem fqe (d : Tmp) (v0 v : Value) (e : v0 = v) (hk : decide (k < ops.size) = true) (hd : (opK ops k).dst = some d) (hw : Region.wanted (opK ops k) (yielded ops a.tmps) = true) (he : ev k = false) (hs : ∀ w, (execOp a.eval (opK ops k)).run P w = .ok (.value v0) w) (h : flowL P ops ev C W R Fin ks F (a.put (some d) v)) : flowL P ops ev C W R Fin (k :: ks) F a :=
  fq d v hk hd hw he (fun w => by rw [hs w, e]) h
/-- The address of a thing of a slice. -/
theorem fidx (d : Tmp) (t : TypeId) (x y : Operand) (b off n c : Nat) (K : IntKind) (i : Int) (sz : Nat) (to_ : Nat) (hk : decide (k < ops.size) = true) (hd : (opK ops k).dst = some d) (hw : Region.wanted (opK ops k) (yielded ops a.tmps) = true) (he : ev k = false)
    (ho : (opK ops k).op = .indexAddr t x y) (hx : a.eval x = .slice (some ⟨b, off, none⟩) n c) (hy : a.eval y = .int K i) (ht : P.underlying t = some (.slice (P.elem t))) (hz : ∀ w, (sizeOf (P.elem t)).run P w = .ok sz w) (h0 : 0 ≤ i) (h1 : i < n) (hto : off + i.toNat * sz = to_)
    (h : flowL P ops ev C W R Fin ks F (a.put (some d) (.pointer (some ⟨b, to_, none⟩)))) : flowL P ops ev C W R Fin (k :: ks) F a :=
  fq d _ hk hd hw he (fun w => by
    subst hto
    unfold execOp
    simp only [ho, hx, hy, Sem.run_bind, run_indexAt_slice (h := ht), h0, h1, and_self, if_true, hz, Result.andThen_ok, Sem.run_pure, add_none]) h
/-- .. of an array. -/
theorem fidxA (d : Tmp) (t : TypeId) (x y : Operand) (b off n : Nat) (K : IntKind) (i : Int) (sz : Nat) (to_ : Nat) (hk : decide (k < ops.size) = true) (hd : (opK ops k).dst = some d) (hw : Region.wanted (opK ops k) (yielded ops a.tmps) = true) (he : ev k = false)
    (ho : (opK ops k).op = .indexAddr t x y) (hx : a.eval x = .pointer (some ⟨b, off, none⟩)) (hy : a.eval y = .int K i) (ht : P.underlying t = some (.array (P.arrayLen t) (P.elem t))) (hz : ∀ w, (sizeOf (P.elem t)).run P w = .ok sz w) (hn : P.arrayLen t = n) (h0 : 0 ≤ i) (h1 : i < n) (hto : off + i.toNat * sz = to_)
    (h : flowL P ops ev C W R Fin ks F (a.put (some d) (.pointer (some ⟨b, to_, none⟩)))) : flowL P ops ev C W R Fin (k :: ks) F a :=
  fq d _ hk hd hw he (fun w => by
    subst hto
    subst hn
    unfold execOp
    simp only [ho, hx, hy, Sem.run_bind, run_indexAt_array (h := ht), h0, h1, and_self, if_true, hz, Result.andThen_ok, Sem.run_pure, add_none]) h

theorem run_storeVar_cell (ty : TypeId) (g off : Nat) (t : TypeId) (cs : Array Value) (v : Value) (hv : v.cells = #[v]) (hg : w.heap[g]? = some (.cells cs t (0, 0))) (hi : (P.info? ty).map (·.size) = some 1) (hs : off < cs.size) (h1 : v.oneCell' = true) (hcs : (cs.toList.take off ++ [v] ++ cs.toList.drop (off + 1)).toArray = cs.setIfInBounds off v) :
    (storeVar ty ⟨g, off, none⟩ v).run P w = .ok () (w.setRow g (cs.setIfInBounds off v)) := by
  have := run_storeCells_at (P := P) g off t [v] 0 cs w hg (by simp; omega) (by intro u hu; rw [List.mem_singleton.1 hu]; exact h1)
  cases hq : P.info? ty with
  | none => simp [hq] at hi
  | some i =>
    have hs' : i.size = 1 := by simp [hq] at hi; omega
    simp [storeVar, sizeOf, typeInfo, hq, hv, hs'] at this ⊢
    rw [this]
    simp at hcs
    rw [hcs]
/-- One cell is stored. -/
theorem tstore1 (hd : (opK ops k).dst = none) (hgd : (opK ops k).guard = none) (ty : TypeId) (x y : Operand) (ho : (opK ops k).op = .store ty x y) (g off : Nat) (hx : a.eval x = .pointer (some ⟨g, off, none⟩)) (v : Value) (hy : a.eval y = v) (hv : v.cells = #[v]) (h1 : v.oneCell' = true)
    (t : TypeId) (cs : Array Value) (hg : Blk w g t cs) (hi : (P.info? ty).map (·.size) = some 1) (hs : off < cs.size)
    (h : ∀ w', Blk w' g t (cs.setIfInBounds off v) → Wr g w w' → wpList P ops Q (ts.map (opK ops)) (a.put none undef) w') : wpList P ops Q ((k :: ts).map (opK ops)) a w := by
  have hcs : (cs.toList.take off ++ [v] ++ cs.toList.drop (off + 1)).toArray = cs.setIfInBounds off v := by
    apply Array.toList_inj.1
    have ho : off < cs.toList.length := by simpa using hs
    simp only [Array.toList_setIfInBounds, List.append_assoc, List.cons_append, List.nil_append]
    rw [List.set_eq_take_append_cons_drop, if_pos ho]
  refine tnone none (w.setRow g (cs.setIfInBounds off v)) hd (by simp [Region.wanted, hgd]) ?_ (h _ ?_ (Wr.row _ _ _))
  · unfold execOp
    simp only [ho, hx, hy, Instr.storeAt, Instr.sureAddr, Sem.run_bind, Sem.run_pure, Result.andThen_ok, run_storeVar_cell (P := P) ty g off t cs v hv hg hi hs h1 hcs]
  · exact setRow_heap w g cs _ t (0, 0) hg
/-- append of things onto things of the call's own, behind the core. -/
theorem tapp {α : Type} (d : Tmp) (f : α → List Value) (size : Nat) (hone : ∀ (xs : List α), ∀ u ∈ xs.flatMap f, u.oneCell' = true) (s x : Operand) (t : TypeId) (hd : (opK ops k).dst = some d) (hgd : (opK ops k).guard = none)
    (ho : (opK ops k).op = .call { callee := .builtin .append, args := #[s, x], argTypes := #[t, t] })
    (base : Nat) (E : TypeId) (z : Value) (bytes : Nat) (ht : P.underlying t = some (.slice E)) (hinfo : (P.info? E).map (fun i => (i.zero, i.size, i.bytes)) = some (some z, size, bytes)) (hzs : z.cells.size = size) (hsz : 0 < size) (hb1 : 1 ≤ bytes)
    (A0 : Option Addr) (n0 c0 : Nat) (us : List α) (hs : a.eval s = .slice A0 n0 c0) (hn0 : us.length = n0) (hown : OwnX f size w base E A0 c0 us)
    (A : Option Addr) (m0 c : Nat) (bs : List α) (hx : a.eval x = .slice A m0 c) (hm0 : bs.length = m0) (hr : RdX f size w A bs)
    (zs : List α) (hz : us ++ bs = zs) (kk : Nat) (hkk : n0 + m0 = kk) (hbytes : (n0 + m0) * bytes ≤ 140737488355328) (hbase : base ≤ w.heap.size)
    (h : ∀ A' c' w', OwnX f size w' base E A' c' zs → kk ≤ c' → c' ≤ 9223372036854775807 → Below base w w' → w.grownBy w' (A0.map (·.block)) → (A'.map (·.block) = A0.map (·.block) ∨ A'.map (·.block) = some w.heap.size) → wpList P ops Q (ts.map (opK ops)) (a.put (some d) (.slice A' kk c')) w') : wpList P ops Q ((k :: ts).map (opK ops)) a w := by
  rw [List.map_cons]
  exact wpList_appL f size hone w hgd s x t ho base E z bytes ht hinfo hzs hsz hb1 A0 n0 c0 us hs hn0 hown A m0 c bs hx hm0 hr zs hz kk hkk hbytes hbase (fun A' c' w' h1 h2 h3 h4 h5 h6 => by rw [hd]; exact h A' c' w' h1 h2 h3 h4 h5 h6)
end
end Go.Proofs.YtbcagdjfegobnaaGreat
