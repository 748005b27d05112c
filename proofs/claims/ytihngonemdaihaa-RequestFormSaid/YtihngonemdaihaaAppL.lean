/- append of things onto things of the call's own: where the new slice lies. -/
import Derived.Test.YtihngonemdaihaaOwn
import Derived.Test.YtihngonemdaihaaOwnGrown
namespace Go.Proofs.Ytihngonemdaihaa
open Go.RowKit
set_option linter.unusedVariables false

/-- append of things onto things of the call's own, as a step of a region that draws; where the new slice lies. -/
theorem step_appL {P : Program} {α : Type} (f : α → List Value) (size : Nat) (hone : ∀ (xs : List α), ∀ u ∈ xs.flatMap f, u.oneCell' = true) {w : World} {ops : Array Oper} {o : Oper} {a : Act} {K : Act → World → Prop} {Q : Exit → Act → World → Prop} {E' : Prop} (hg : o.guard = none) (s x : Operand) (t : TypeId)
    (ho : o.op = .call { callee := .builtin .append, args := #[s, x], argTypes := #[t, t] })
    (base : Nat) (E : TypeId) (z : Value) (bytes : Nat) (ht : P.underlying t = some (.slice E)) (hinfo : (P.info? E).map (fun i => (i.zero, i.size, i.bytes)) = some (some z, size, bytes)) (hzs : z.cells.size = size) (hsz : 0 < size) (hb1 : 1 ≤ bytes)
    (A0 : Option Addr) (n0 c0 : Nat) (us : List α) (hs : a.eval s = .slice A0 n0 c0) (hn0 : us.length = n0) (hown : OwnX f size w base E A0 c0 us)
    (A : Option Addr) (m0 c : Nat) (bs : List α) (hx : a.eval x = .slice A m0 c) (hm0 : bs.length = m0) (hr : RdX f size w A bs)
    (zs : List α) (hz : us ++ bs = zs) (k : Nat) (hk : n0 + m0 = k) (hbytes : (n0 + m0) * bytes ≤ 140737488355328) (hbase : base ≤ w.heap.size)
    (h : ∀ A' c' w', OwnX f size w' base E A' c' zs → k ≤ c' → c' ≤ 9223372036854775807 → Below base w w' → w.grownBy w' (A0.map (·.block)) → (A'.map (·.block) = A0.map (·.block) ∨ A'.map (·.block) = some w.heap.size) → K (a.put o.dst (.slice A' k c')) w') :
    if Region.wanted o (yielded ops a.tmps) = true then Oper.wp P o a w K Q else E' := by
  subst hz; subst hn0; subst hm0; subst hk
  rw [if_pos (by simp [Region.wanted, hg])]
  obtain ⟨i, hi, hz, hsize, hby⟩ := info_parts hinfo
  have h63 : us.length + bs.length ≤ maxLen := by
    have : (us.length + bs.length) * 1 ≤ (us.length + bs.length) * bytes := Nat.mul_le_mul_left _ hb1
    unfold maxLen; omega
  obtain ⟨v', w', hrun, h2, h3, h4⟩ := run_append_any (P := P) w base t o.type E i z size bytes ht hi hz hsize hby hzs hsz _ us.length (us.flatMap f) hown A bs.length c (bs.flatMap f) hr (hone bs) h63 hbytes hbase
  obtain ⟨A', c', rfl, hc1, hc2⟩ := own_shape _ h2
  have ob : ∀ (X : Option Addr) (n c : Nat), (Value.slice X n c).ownBlock = X.map (·.block) := fun X n c => by cases X <;> rfl
  have h2' : OwnX f size w' base E A' c' (us ++ bs) := by unfold OwnX; rw [List.flatMap_append, List.length_append]; exact h2
  unfold Oper.wp execOp
  simp only [ho, resolve, invoke, builtin, Sem.run_bind, Sem.run_pure, Result.andThen_ok, List.map_toArray, List.map_cons, List.map_nil, hs, hx, hrun]
  refine h A' c' w' h2' hc1 (by unfold maxLen at hc2; omega) ((Below.refl _ _).grown h3 hbase (fun k hk => (hown.lt k hk).1)) (by rw [← ob A0 us.length c0]; exact h3) ?_
  rw [ob, ob] at h4; exact h4

theorem slice_own (X : Option Addr) (n c : Nat) : (Value.slice X n c).ownBlock = X.map (·.block) := by cases X <;> rfl
theorem takeD {α : Type} (l : List α) (k : Nat) (d : α) (h : k < l.length) : l.take (k + 1) = l.take k ++ [l.getD k d] := by
  rw [List.take_succ_eq_append_getElem h]; simp [List.getD, h]
theorem OwnX.madeH {α : Type} (f : α → List Value) (m : Nat) (w : World) (base : Nat) (E : TypeId) (hb : base ≤ w.heap.size) {H : Nat} (hH : w.heap.size = H) : OwnX f m (w.alloc (.cells #[] E)) base E (some ⟨H, 0, none⟩) 0 [] := by
  subst hH; exact OwnX.made f m w base E hb
theorem OwnX.grown {α : Type} {f : α → List Value} {m : Nat} {w w' : World} {base : Nat} {E : TypeId} {A : Option Addr} {c : Nat} {xs : List α} {row : Option Nat} (h : OwnX f m w base E A c xs) (hb : w.grownBy w' row) (hne : A.map (·.block) = none ∨ A.map (·.block) ≠ row) : OwnX f m w' base E A c xs :=
  own_grown h hb fun k hk e => by
    have ob : ∀ (X : Option Addr) (n c : Nat), (Value.slice X n c).ownBlock = X.map (·.block) := fun X n c => by cases X <;> rfl
    rw [ob] at hk
    rcases hne with h1 | h1
    · rw [h1] at hk; cases hk
    · exact h1 (hk.trans e)

/-- append of things; where the new slice lies. -/
theorem wpList_appL {P : Program} {α : Type} (f : α → List Value) (size : Nat) (hone : ∀ (xs : List α), ∀ u ∈ xs.flatMap f, u.oneCell' = true) (w : World) {ops : Array Oper} {rest : List Oper} {o : Oper} {a : Act} {Q : Exit → Act → World → Prop} (hgd : o.guard = none) (s x : Operand) (t : TypeId)
    (ho : o.op = .call { callee := .builtin .append, args := #[s, x], argTypes := #[t, t] })
    (base : Nat) (E : TypeId) (z : Value) (bytes : Nat) (ht : P.underlying t = some (.slice E)) (hinfo : (P.info? E).map (fun i => (i.zero, i.size, i.bytes)) = some (some z, size, bytes)) (hzs : z.cells.size = size) (hsz : 0 < size) (hb1 : 1 ≤ bytes)
    (A0 : Option Addr) (n0 c0 : Nat) (us : List α) (hs : a.eval s = .slice A0 n0 c0) (hn0 : us.length = n0) (hown : OwnX f size w base E A0 c0 us)
    (A : Option Addr) (m0 c : Nat) (bs : List α) (hx : a.eval x = .slice A m0 c) (hm0 : bs.length = m0) (hr : RdX f size w A bs)
    (zs : List α) (hz : us ++ bs = zs) (k : Nat) (hk : n0 + m0 = k) (hbytes : (n0 + m0) * bytes ≤ 140737488355328) (hbase : base ≤ w.heap.size)
    (h : ∀ A' c' w', OwnX f size w' base E A' c' zs → k ≤ c' → c' ≤ 9223372036854775807 → Below base w w' → w.grownBy w' (A0.map (·.block)) → (A'.map (·.block) = A0.map (·.block) ∨ A'.map (·.block) = some w.heap.size) → wpList P ops Q rest (a.put o.dst (.slice A' k c')) w') : wpList P ops Q (o :: rest) a w := by
  subst hz; subst hn0; subst hm0; subst hk
  refine wpList_plain hgd fun _ hK => ?_
  obtain ⟨i, hi, hz, hsize, hby⟩ := info_parts hinfo
  have h63 : us.length + bs.length ≤ maxLen := by
    have : (us.length + bs.length) * 1 ≤ (us.length + bs.length) * bytes := Nat.mul_le_mul_left _ hb1
    unfold maxLen; omega
  obtain ⟨v', w', hrun, h2, h3, h4⟩ := run_append_any (P := P) w base t o.type E i z size bytes ht hi hz hsize hby hzs hsz _ us.length (us.flatMap f) hown A bs.length c (bs.flatMap f) hr (hone bs) h63 hbytes hbase
  obtain ⟨A', c', rfl, hc1, hc2⟩ := own_shape _ h2
  have ob : ∀ (X : Option Addr) (n c : Nat), (Value.slice X n c).ownBlock = X.map (·.block) := fun X n c => by cases X <;> rfl
  have h2' : OwnX f size w' base E A' c' (us ++ bs) := by unfold OwnX; rw [List.flatMap_append, List.length_append]; exact h2
  unfold Oper.wp execOp
  simp only [ho, resolve, invoke, builtin, Sem.run_bind, Sem.run_pure, Result.andThen_ok, List.map_toArray, List.map_cons, List.map_nil, hs, hx, hrun]
  refine hK _ _ (h A' c' w' h2' hc1 (by unfold maxLen at hc2; omega) ((Below.refl _ _).grown h3 hbase (fun k hk => (hown.lt k hk).1)) (by rw [← ob A0 us.length c0]; exact h3) ?_)
  rw [ob, ob] at h4; exact h4

def u8c (b : UInt8) : List Value := [.int .u8 (b.toNat : Int)]
theorem u8c_flat (bs : List UInt8) : bs.flatMap u8c = u8s bs := by
  induction bs with
  | nil => rfl
  | cons b bs ih => rw [List.flatMap_cons, ih]; rfl
theorem u8c_one (xs : List UInt8) : ∀ u ∈ xs.flatMap u8c, u.oneCell' = true := by rw [u8c_flat]; exact u8s_one xs
theorem OwnB.x {w : World} {base : Nat} {E : TypeId} {A : Option Addr} {c : Nat} {bs : List UInt8} (h : OwnB w base E A c bs) : OwnX u8c 1 w base E A c bs := by unfold OwnX; rw [u8c_flat]; exact h
theorem OwnX.b {w : World} {base : Nat} {E : TypeId} {A : Option Addr} {c : Nat} {bs : List UInt8} (h : OwnX u8c 1 w base E A c bs) : OwnB w base E A c bs := by unfold OwnX at h; rw [u8c_flat] at h; exact h
theorem RdB.x {w : World} {A : Option Addr} {bs : List UInt8} (h : RdB w A bs) : RdX u8c 1 w A bs := by unfold RdX; rw [u8c_flat]; exact h
theorem RdX.b {w : World} {A : Option Addr} {bs : List UInt8} (h : RdX u8c 1 w A bs) : RdB w A bs := by unfold RdX at h; rw [u8c_flat] at h; exact h

theorem Blk.newR {w : World} {t : TypeId} {cs : Array Value} {H : Nat} (hH : w.heap.size = H) : Blk (w.alloc (.cells cs t)) H t cs := by subst hH; exact Blk.new _ _ _
end Go.Proofs.Ytihngonemdaihaa
