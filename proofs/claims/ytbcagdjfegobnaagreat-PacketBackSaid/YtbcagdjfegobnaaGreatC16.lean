/- Texts of the proof, laid together: OwnGrown AppL Facts PacketWalk. -/
import Derived.Test.YtbcagdjfegobnaaGreatC01
import Derived.Test.YtbcagdjfegobnaaGreatC02
import Derived.Test.YtbcagdjfegobnaaGreatC12
import Derived.Test.YtbcagdjfegobnaaGreatC09
import Derived.Test.YtbcagdjfegobnaaGreatC14
import Derived.Test.YtbcagdjfegobnaaGreatC15
/- A row of the call's own, where another row grew. -/
namespace Go.Proofs.YtbcagdjfegobnaaGreat
open Go.RowKit
set_option linter.unusedVariables false

theorem own_grown {w0 w' : World} {base : Nat} {e : TypeId} {size n : Nat} {v : Value} {xs : List Value} {row : Option Nat} (h : w0.ownsRow base e size v n xs) (hb : w0.grownBy w' row) (hne : ∀ k, v.ownBlock = some k → some k ≠ row) : w'.ownsRow base e size v n xs := by
  refine ⟨h.1, ?_⟩
  rcases h.2 with h2 | ⟨g, cap, cur, hv, hg, hh, r⟩
  · exact .inl h2
  · exact .inr ⟨g, cap, cur, hv, hg, (hb.block g (Array.getElem?_eq_some_iff.1 hh).1 (hne g (by rw [hv]; rfl))).trans hh, r⟩

end Go.Proofs.YtbcagdjfegobnaaGreat
/- append of things onto things of the call's own: where the new slice lies. -/
namespace Go.Proofs.YtbcagdjfegobnaaGreat
open Go.RowKit
set_option linter.unusedVariables false

/-- append of things onto things of the call's own, as_v a step of a region that draws; where the new slice lies. -/
theorem step_appL {P : Program} {α : Type} (f : α → List Value) (size : Nat) (hone : ∀ (xs : List α), ∀ u ∈ xs.flatMap f, u.oneCell' = true) {w : World} {ops : Array Oper} {o : Oper} {a : Act} {K : Act → World → Prop} {Q : Exit → Act → World → Prop} {E' : Prop} (hg : o.guard = none) (s x : Operand) (t : TypeId)
    (ho : o.op = .call { callee := .builtin .append, args := #[s, x], argTypes := #[t, t] })
    (base : Nat) (E : TypeId) (z : Value) (bytes : Nat) (ht : P.underlying t = some (.slice E)) (hinfo : (P.info? E).map (fun i => (i.zero, i.size, i.bytes)) = some (some z, size, bytes)) (hzs : z.cells.size = size) (hsz : 0 < size) (hb1 : 1 ≤ bytes)
    (A0 : Option Addr) (n0 c0 : Nat) (us : List α) (hs : a.eval s = .slice A0 n0 c0) (hn0 : us.length = n0) (hown : OwnX f size w base E A0 c0 us)
    (A : Option Addr) (m0 c : Nat) (bs : List α) (hx : a.eval x = .slice A m0 c) (hm0 : bs.length = m0) (hr : RdX f size w A bs)
    (zs : List α) (hz : us ++ bs = zs) (k : Nat) (hk : n0 + m0 = k) (hbytes : (n0 + m0) * bytes ≤ 140737488355328) (hbase : base ≤ w.heap.size)
    (h : ∀ A' c' w', OwnX f size w' base E A' c' zs → k ≤ c' → c' ≤ 9223372036854775807 → Below base w w' → w.grownBy w' (A0.map (·.block)) → (A'.map (·.block) = A0.map (·.block) ∨ A'.map (·.block) = some w.heap.size) → K (a.put o.dst (.slice A' k c')) w') :
    if Region.wanted o (yielded ops a.tmps) = true then Oper.wp P o a w K Q else E' := by
  subst hz; subst hn0; subst hm0; subst hk
  rw [if_pos (by simp [Region.wanted, hg])]
  obtain ⟨i, hi, hz, hsize, hby⟩ := info_parts hinfo
  have h63 : us.length + bs.length ≤ maxLen := by
    have : (us.length + bs.length) * 1 ≤ (us.length + bs.length) * bytes := Nat.mul_le_mul_left _ hb1
    unfold maxLen; omega
  obtain ⟨v', w', hrun, h2, h3, h4⟩ := run_append_any (P := P) w base t o.type E i z size bytes ht hi hz hsize hby hzs hsz _ us.length (us.flatMap f) hown A bs.length c (bs.flatMap f) hr (hone bs) h63 hbytes hbase
  obtain ⟨A', c', rfl, hc1, hc2⟩ := own_shape _ h2
  have ob : ∀ (X : Option Addr) (n c : Nat), (Value.slice X n c).ownBlock = X.map (·.block) := fun X n c => by cases X <;> rfl
  have h2' : OwnX f size w' base E A' c' (us ++ bs) := by unfold OwnX; rw [List.flatMap_append, List.length_append]; exact h2
  unfold Oper.wp execOp
  simp only [ho, resolve, invoke, builtin, Sem.run_bind, Sem.run_pure, Result.andThen_ok, List.map_toArray, List.map_cons, List.map_nil, hs, hx, hrun]
  refine h A' c' w' h2' hc1 (by unfold maxLen at hc2; omega) ((Below.refl _ _).grown h3 hbase (fun k hk => (hown.lt k hk).1)) (by rw [← ob A0 us.length c0]; exact h3) ?_
  rw [ob, ob] at h4; exact h4

theorem slice_own (X : Option Addr) (n c : Nat) : (Value.slice X n c).ownBlock = X.map (·.block) := by cases X <;> rfl
theorem takeD {α : Type} (l : List α) (k : Nat) (d : α) (h : k < l.length) : l.take (k + 1) = l.take k ++ [l.getD k d] := by
  rw [List.take_succ_eq_append_getElem h]; simp [List.getD, h]
theorem OwnX.madeH {α : Type} (f : α → List Value) (m : Nat) (w : World) (base : Nat) (E : TypeId) (hb : base ≤ w.heap.size) {H : Nat} (hH : w.heap.size = H) : OwnX f m (w.alloc (.cells #[] E)) base E (some ⟨H, 0, none⟩) 0 [] := by
  subst hH; exact OwnX.made f m w base E hb
theorem OwnX.grown {α : Type} {f : α → List Value} {m : Nat} {w w' : World} {base : Nat} {E : TypeId} {A : Option Addr} {c : Nat} {xs : List α} {row : Option Nat} (h : OwnX f m w base E A c xs) (hb : w.grownBy w' row) (hne : A.map (·.block) = none ∨ A.map (·.block) ≠ row) : OwnX f m w' base E A c xs :=
  own_grown h hb fun k hk e => by
    have ob : ∀ (X : Option Addr) (n c : Nat), (Value.slice X n c).ownBlock = X.map (·.block) := fun X n c => by cases X <;> rfl
    rw [ob] at hk
    rcases hne with h1 | h1
    · rw [h1] at hk; cases hk
    · exact h1 (hk.trans e)

/-- append of things; where the new slice lies. -/
theorem wpList_appL {P : Program} {α : Type} (f : α → List Value) (size : Nat) (hone : ∀ (xs : List α), ∀ u ∈ xs.flatMap f, u.oneCell' = true) (w : World) {ops : Array Oper} {rest : List Oper} {o : Oper} {a : Act} {Q : Exit → Act → World → Prop} (hgd : o.guard = none) (s x : Operand) (t : TypeId)
    (ho : o.op = .call { callee := .builtin .append, args := #[s, x], argTypes := #[t, t] })
    (base : Nat) (E : TypeId) (z : Value) (bytes : Nat) (ht : P.underlying t = some (.slice E)) (hinfo : (P.info? E).map (fun i => (i.zero, i.size, i.bytes)) = some (some z, size, bytes)) (hzs : z.cells.size = size) (hsz : 0 < size) (hb1 : 1 ≤ bytes)
    (A0 : Option Addr) (n0 c0 : Nat) (us : List α) (hs : a.eval s = .slice A0 n0 c0) (hn0 : us.length = n0) (hown : OwnX f size w base E A0 c0 us)
    (A : Option Addr) (m0 c : Nat) (bs : List α) (hx : a.eval x = .slice A m0 c) (hm0 : bs.length = m0) (hr : RdX f size w A bs)
    (zs : List α) (hz : us ++ bs = zs) (k : Nat) (hk : n0 + m0 = k) (hbytes : (n0 + m0) * bytes ≤ 140737488355328) (hbase : base ≤ w.heap.size)
    (h : ∀ A' c' w', OwnX f size w' base E A' c' zs → k ≤ c' → c' ≤ 9223372036854775807 → Below base w w' → w.grownBy w' (A0.map (·.block)) → (A'.map (·.block) = A0.map (·.block) ∨ A'.map (·.block) = some w.heap.size) → wpList P ops Q rest (a.put o.dst (.slice A' k c')) w') : wpList P ops Q (o :: rest) a w := by
  subst hz; subst hn0; subst hm0; subst hk
  refine wpList_plain hgd fun _ hK => ?_
  obtain ⟨i, hi, hz, hsize, hby⟩ := info_parts hinfo
  have h63 : us.length + bs.length ≤ maxLen := by
    have : (us.length + bs.length) * 1 ≤ (us.length + bs.length) * bytes := Nat.mul_le_mul_left _ hb1
    unfold maxLen; omega
  obtain ⟨v', w', hrun, h2, h3, h4⟩ := run_append_any (P := P) w base t o.type E i z size bytes ht hi hz hsize hby hzs hsz _ us.length (us.flatMap f) hown A bs.length c (bs.flatMap f) hr (hone bs) h63 hbytes hbase
  obtain ⟨A', c', rfl, hc1, hc2⟩ := own_shape _ h2
  have ob : ∀ (X : Option Addr) (n c : Nat), (Value.slice X n c).ownBlock = X.map (·.block) := fun X n c => by cases X <;> rfl
  have h2' : OwnX f size w' base E A' c' (us ++ bs) := by unfold OwnX; rw [List.flatMap_append, List.length_append]; exact h2
  unfold Oper.wp execOp
  simp only [ho, resolve, invoke, builtin, Sem.run_bind, Sem.run_pure, Result.andThen_ok, List.map_toArray, List.map_cons, List.map_nil, hs, hx, hrun]
  refine hK _ _ (h A' c' w' h2' hc1 (by unfold maxLen at hc2; omega) ((Below.refl _ _).grown h3 hbase (fun k hk => (hown.lt k hk).1)) (by rw [← ob A0 us.length c0]; exact h3) ?_)
  rw [ob, ob] at h4; exact h4

def u8c (b : UInt8) : List Value := [.int .u8 (b.toNat : Int)]
theorem u8c_flat (bs : List UInt8) : bs.flatMap u8c = u8s bs := by
  induction bs with
  | nil => rfl
  | cons b bs ih => rw [List.flatMap_cons, ih]; rfl
theorem u8c_one (xs : List UInt8) : ∀ u ∈ xs.flatMap u8c, u.oneCell' = true := by rw [u8c_flat]; exact u8s_one xs
theorem OwnB.x {w : World} {base : Nat} {E : TypeId} {A : Option Addr} {c : Nat} {bs : List UInt8} (h : OwnB w base E A c bs) : OwnX u8c 1 w base E A c bs := by unfold OwnX; rw [u8c_flat]; exact h
theorem OwnX.b {w : World} {base : Nat} {E : TypeId} {A : Option Addr} {c : Nat} {bs : List UInt8} (h : OwnX u8c 1 w base E A c bs) : OwnB w base E A c bs := by unfold OwnX at h; rw [u8c_flat] at h; exact h
theorem RdB.x {w : World} {A : Option Addr} {bs : List UInt8} (h : RdB w A bs) : RdX u8c 1 w A bs := by unfold RdX; rw [u8c_flat]; exact h
theorem RdX.b {w : World} {A : Option Addr} {bs : List UInt8} (h : RdX u8c 1 w A bs) : RdB w A bs := by unfold RdX at h; rw [u8c_flat] at h; exact h

theorem Blk.newR {w : World} {t : TypeId} {cs : Array Value} {H : Nat} (hH : w.heap.size = H) : Blk (w.alloc (.cells cs t)) H t cs := by subst hH; exact Blk.new _ _ _
end Go.Proofs.YtbcagdjfegobnaaGreat
/- What a block that is known whole says of its cells. -/
namespace Go.Proofs.YtbcagdjfegobnaaGreat
open Go.RowKit
set_option linter.unusedVariables false

theorem Blk.zs {w : World} {g : Nat} {t : TypeId} {cs : Array Value} (h : Blk w g t cs) : ∀ i, w.frozen? ⟨g, i, none⟩ = false := fun i => h.frozen i
theorem Blk.c1 {w : World} {g : Nat} {t : TypeId} {x0 : Value} (h : Blk w g t #[x0]) : g < w.heap.size ∧ w.cell? ⟨g, 0, none⟩ = some x0 :=
  ⟨h.lt, by rw [h.cell]; rfl⟩
theorem Blk.c2 {w : World} {g : Nat} {t : TypeId} {x0 x1 : Value} (h : Blk w g t #[x0, x1]) : g < w.heap.size ∧ w.cell? ⟨g, 0, none⟩ = some x0 ∧ w.cell? ⟨g, 1, none⟩ = some x1 :=
  ⟨h.lt, by rw [h.cell]; rfl, by rw [h.cell]; rfl⟩
theorem Blk.c3 {w : World} {g : Nat} {t : TypeId} {x0 x1 x2 : Value} (h : Blk w g t #[x0, x1, x2]) : g < w.heap.size ∧ w.cell? ⟨g, 0, none⟩ = some x0 ∧ w.cell? ⟨g, 1, none⟩ = some x1 ∧ w.cell? ⟨g, 2, none⟩ = some x2 :=
  ⟨h.lt, by rw [h.cell]; rfl, by rw [h.cell]; rfl, by rw [h.cell]; rfl⟩
theorem Blk.c4 {w : World} {g : Nat} {t : TypeId} {x0 x1 x2 x3 : Value} (h : Blk w g t #[x0, x1, x2, x3]) : g < w.heap.size ∧ w.cell? ⟨g, 0, none⟩ = some x0 ∧ w.cell? ⟨g, 1, none⟩ = some x1 ∧ w.cell? ⟨g, 2, none⟩ = some x2 ∧ w.cell? ⟨g, 3, none⟩ = some x3 :=
  ⟨h.lt, by rw [h.cell]; rfl, by rw [h.cell]; rfl, by rw [h.cell]; rfl, by rw [h.cell]; rfl⟩
theorem Blk.c5 {w : World} {g : Nat} {t : TypeId} {x0 x1 x2 x3 x4 : Value} (h : Blk w g t #[x0, x1, x2, x3, x4]) : g < w.heap.size ∧ w.cell? ⟨g, 0, none⟩ = some x0 ∧ w.cell? ⟨g, 1, none⟩ = some x1 ∧ w.cell? ⟨g, 2, none⟩ = some x2 ∧ w.cell? ⟨g, 3, none⟩ = some x3 ∧ w.cell? ⟨g, 4, none⟩ = some x4 :=
  ⟨h.lt, by rw [h.cell]; rfl, by rw [h.cell]; rfl, by rw [h.cell]; rfl, by rw [h.cell]; rfl, by rw [h.cell]; rfl⟩
theorem Blk.c6 {w : World} {g : Nat} {t : TypeId} {x0 x1 x2 x3 x4 x5 : Value} (h : Blk w g t #[x0, x1, x2, x3, x4, x5]) : g < w.heap.size ∧ w.cell? ⟨g, 0, none⟩ = some x0 ∧ w.cell? ⟨g, 1, none⟩ = some x1 ∧ w.cell? ⟨g, 2, none⟩ = some x2 ∧ w.cell? ⟨g, 3, none⟩ = some x3 ∧ w.cell? ⟨g, 4, none⟩ = some x4 ∧ w.cell? ⟨g, 5, none⟩ = some x5 :=
  ⟨h.lt, by rw [h.cell]; rfl, by rw [h.cell]; rfl, by rw [h.cell]; rfl, by rw [h.cell]; rfl, by rw [h.cell]; rfl, by rw [h.cell]; rfl⟩
theorem Blk.c7 {w : World} {g : Nat} {t : TypeId} {x0 x1 x2 x3 x4 x5 x6 : Value} (h : Blk w g t #[x0, x1, x2, x3, x4, x5, x6]) : g < w.heap.size ∧ w.cell? ⟨g, 0, none⟩ = some x0 ∧ w.cell? ⟨g, 1, none⟩ = some x1 ∧ w.cell? ⟨g, 2, none⟩ = some x2 ∧ w.cell? ⟨g, 3, none⟩ = some x3 ∧ w.cell? ⟨g, 4, none⟩ = some x4 ∧ w.cell? ⟨g, 5, none⟩ = some x5 ∧ w.cell? ⟨g, 6, none⟩ = some x6 :=
  ⟨h.lt, by rw [h.cell]; rfl, by rw [h.cell]; rfl, by rw [h.cell]; rfl, by rw [h.cell]; rfl, by rw [h.cell]; rfl, by rw [h.cell]; rfl, by rw [h.cell]; rfl⟩
theorem Blk.c8 {w : World} {g : Nat} {t : TypeId} {x0 x1 x2 x3 x4 x5 x6 x7 : Value} (h : Blk w g t #[x0, x1, x2, x3, x4, x5, x6, x7]) : g < w.heap.size ∧ w.cell? ⟨g, 0, none⟩ = some x0 ∧ w.cell? ⟨g, 1, none⟩ = some x1 ∧ w.cell? ⟨g, 2, none⟩ = some x2 ∧ w.cell? ⟨g, 3, none⟩ = some x3 ∧ w.cell? ⟨g, 4, none⟩ = some x4 ∧ w.cell? ⟨g, 5, none⟩ = some x5 ∧ w.cell? ⟨g, 6, none⟩ = some x6 ∧ w.cell? ⟨g, 7, none⟩ = some x7 :=
  ⟨h.lt, by rw [h.cell]; rfl, by rw [h.cell]; rfl, by rw [h.cell]; rfl, by rw [h.cell]; rfl, by rw [h.cell]; rfl, by rw [h.cell]; rfl, by rw [h.cell]; rfl, by rw [h.cell]; rfl⟩
theorem Blk.c16 {w : World} {g : Nat} {t : TypeId} {x0 x1 x2 x3 x4 x5 x6 x7 x8 x9 x10 x11 x12 x13 x14 x15 : Value} (h : Blk w g t #[x0, x1, x2, x3, x4, x5, x6, x7, x8, x9, x10, x11, x12, x13, x14, x15]) : g < w.heap.size ∧ w.cell? ⟨g, 0, none⟩ = some x0 ∧ w.cell? ⟨g, 1, none⟩ = some x1 ∧ w.cell? ⟨g, 2, none⟩ = some x2 ∧ w.cell? ⟨g, 3, none⟩ = some x3 ∧ w.cell? ⟨g, 4, none⟩ = some x4 ∧ w.cell? ⟨g, 5, none⟩ = some x5 ∧ w.cell? ⟨g, 6, none⟩ = some x6 ∧ w.cell? ⟨g, 7, none⟩ = some x7 ∧ w.cell? ⟨g, 8, none⟩ = some x8 ∧ w.cell? ⟨g, 9, none⟩ = some x9 ∧ w.cell? ⟨g, 10, none⟩ = some x10 ∧ w.cell? ⟨g, 11, none⟩ = some x11 ∧ w.cell? ⟨g, 12, none⟩ = some x12 ∧ w.cell? ⟨g, 13, none⟩ = some x13 ∧ w.cell? ⟨g, 14, none⟩ = some x14 ∧ w.cell? ⟨g, 15, none⟩ = some x15 :=
  ⟨h.lt, by rw [h.cell]; rfl, by rw [h.cell]; rfl, by rw [h.cell]; rfl, by rw [h.cell]; rfl, by rw [h.cell]; rfl, by rw [h.cell]; rfl, by rw [h.cell]; rfl, by rw [h.cell]; rfl, by rw [h.cell]; rfl, by rw [h.cell]; rfl, by rw [h.cell]; rfl, by rw [h.cell]; rfl, by rw [h.cell]; rfl, by rw [h.cell]; rfl, by rw [h.cell]; rfl, by rw [h.cell]; rfl⟩
theorem Blk.c18 {w : World} {g : Nat} {t : TypeId} {x0 x1 x2 x3 x4 x5 x6 x7 x8 x9 x10 x11 x12 x13 x14 x15 x16 x17 : Value} (h : Blk w g t #[x0, x1, x2, x3, x4, x5, x6, x7, x8, x9, x10, x11, x12, x13, x14, x15, x16, x17]) : g < w.heap.size ∧ w.cell? ⟨g, 0, none⟩ = some x0 ∧ w.cell? ⟨g, 1, none⟩ = some x1 ∧ w.cell? ⟨g, 2, none⟩ = some x2 ∧ w.cell? ⟨g, 3, none⟩ = some x3 ∧ w.cell? ⟨g, 4, none⟩ = some x4 ∧ w.cell? ⟨g, 5, none⟩ = some x5 ∧ w.cell? ⟨g, 6, none⟩ = some x6 ∧ w.cell? ⟨g, 7, none⟩ = some x7 ∧ w.cell? ⟨g, 8, none⟩ = some x8 ∧ w.cell? ⟨g, 9, none⟩ = some x9 ∧ w.cell? ⟨g, 10, none⟩ = some x10 ∧ w.cell? ⟨g, 11, none⟩ = some x11 ∧ w.cell? ⟨g, 12, none⟩ = some x12 ∧ w.cell? ⟨g, 13, none⟩ = some x13 ∧ w.cell? ⟨g, 14, none⟩ = some x14 ∧ w.cell? ⟨g, 15, none⟩ = some x15 ∧ w.cell? ⟨g, 16, none⟩ = some x16 ∧ w.cell? ⟨g, 17, none⟩ = some x17 :=
  ⟨h.lt, by rw [h.cell]; rfl, by rw [h.cell]; rfl, by rw [h.cell]; rfl, by rw [h.cell]; rfl, by rw [h.cell]; rfl, by rw [h.cell]; rfl, by rw [h.cell]; rfl, by rw [h.cell]; rfl, by rw [h.cell]; rfl, by rw [h.cell]; rfl, by rw [h.cell]; rfl, by rw [h.cell]; rfl, by rw [h.cell]; rfl, by rw [h.cell]; rfl, by rw [h.cell]; rfl, by rw [h.cell]; rfl, by rw [h.cell]; rfl, by rw [h.cell]; rfl⟩
theorem Blk.c21 {w : World} {g : Nat} {t : TypeId} {x0 x1 x2 x3 x4 x5 x6 x7 x8 x9 x10 x11 x12 x13 x14 x15 x16 x17 x18 x19 x20 : Value} (h : Blk w g t #[x0, x1, x2, x3, x4, x5, x6, x7, x8, x9, x10, x11, x12, x13, x14, x15, x16, x17, x18, x19, x20]) : g < w.heap.size ∧ w.cell? ⟨g, 0, none⟩ = some x0 ∧ w.cell? ⟨g, 1, none⟩ = some x1 ∧ w.cell? ⟨g, 2, none⟩ = some x2 ∧ w.cell? ⟨g, 3, none⟩ = some x3 ∧ w.cell? ⟨g, 4, none⟩ = some x4 ∧ w.cell? ⟨g, 5, none⟩ = some x5 ∧ w.cell? ⟨g, 6, none⟩ = some x6 ∧ w.cell? ⟨g, 7, none⟩ = some x7 ∧ w.cell? ⟨g, 8, none⟩ = some x8 ∧ w.cell? ⟨g, 9, none⟩ = some x9 ∧ w.cell? ⟨g, 10, none⟩ = some x10 ∧ w.cell? ⟨g, 11, none⟩ = some x11 ∧ w.cell? ⟨g, 12, none⟩ = some x12 ∧ w.cell? ⟨g, 13, none⟩ = some x13 ∧ w.cell? ⟨g, 14, none⟩ = some x14 ∧ w.cell? ⟨g, 15, none⟩ = some x15 ∧ w.cell? ⟨g, 16, none⟩ = some x16 ∧ w.cell? ⟨g, 17, none⟩ = some x17 ∧ w.cell? ⟨g, 18, none⟩ = some x18 ∧ w.cell? ⟨g, 19, none⟩ = some x19 ∧ w.cell? ⟨g, 20, none⟩ = some x20 :=
  ⟨h.lt, by rw [h.cell]; rfl, by rw [h.cell]; rfl, by rw [h.cell]; rfl, by rw [h.cell]; rfl, by rw [h.cell]; rfl, by rw [h.cell]; rfl, by rw [h.cell]; rfl, by rw [h.cell]; rfl, by rw [h.cell]; rfl, by rw [h.cell]; rfl, by rw [h.cell]; rfl, by rw [h.cell]; rfl, by rw [h.cell]; rfl, by rw [h.cell]; rfl, by rw [h.cell]; rfl, by rw [h.cell]; rfl, by rw [h.cell]; rfl, by rw [h.cell]; rfl, by rw [h.cell]; rfl, by rw [h.cell]; rfl, by rw [h.cell]; rfl⟩
theorem Blk.c24 {w : World} {g : Nat} {t : TypeId} {x0 x1 x2 x3 x4 x5 x6 x7 x8 x9 x10 x11 x12 x13 x14 x15 x16 x17 x18 x19 x20 x21 x22 x23 : Value} (h : Blk w g t #[x0, x1, x2, x3, x4, x5, x6, x7, x8, x9, x10, x11, x12, x13, x14, x15, x16, x17, x18, x19, x20, x21, x22, x23]) : g < w.heap.size ∧ w.cell? ⟨g, 0, none⟩ = some x0 ∧ w.cell? ⟨g, 1, none⟩ = some x1 ∧ w.cell? ⟨g, 2, none⟩ = some x2 ∧ w.cell? ⟨g, 3, none⟩ = some x3 ∧ w.cell? ⟨g, 4, none⟩ = some x4 ∧ w.cell? ⟨g, 5, none⟩ = some x5 ∧ w.cell? ⟨g, 6, none⟩ = some x6 ∧ w.cell? ⟨g, 7, none⟩ = some x7 ∧ w.cell? ⟨g, 8, none⟩ = some x8 ∧ w.cell? ⟨g, 9, none⟩ = some x9 ∧ w.cell? ⟨g, 10, none⟩ = some x10 ∧ w.cell? ⟨g, 11, none⟩ = some x11 ∧ w.cell? ⟨g, 12, none⟩ = some x12 ∧ w.cell? ⟨g, 13, none⟩ = some x13 ∧ w.cell? ⟨g, 14, none⟩ = some x14 ∧ w.cell? ⟨g, 15, none⟩ = some x15 ∧ w.cell? ⟨g, 16, none⟩ = some x16 ∧ w.cell? ⟨g, 17, none⟩ = some x17 ∧ w.cell? ⟨g, 18, none⟩ = some x18 ∧ w.cell? ⟨g, 19, none⟩ = some x19 ∧ w.cell? ⟨g, 20, none⟩ = some x20 ∧ w.cell? ⟨g, 21, none⟩ = some x21 ∧ w.cell? ⟨g, 22, none⟩ = some x22 ∧ w.cell? ⟨g, 23, none⟩ = some x23 :=
  ⟨h.lt, by rw [h.cell]; rfl, by rw [h.cell]; rfl, by rw [h.cell]; rfl, by rw [h.cell]; rfl, by rw [h.cell]; rfl, by rw [h.cell]; rfl, by rw [h.cell]; rfl, by rw [h.cell]; rfl, by rw [h.cell]; rfl, by rw [h.cell]; rfl, by rw [h.cell]; rfl, by rw [h.cell]; rfl, by rw [h.cell]; rfl, by rw [h.cell]; rfl, by rw [h.cell]; rfl, by rw [h.cell]; rfl, by rw [h.cell]; rfl, by rw [h.cell]; rfl, by rw [h.cell]; rfl, by rw [h.cell]; rfl, by rw [h.cell]; rfl, by rw [h.cell]; rfl, by rw [h.cell]; rfl, by rw [h.cell]; rfl⟩
theorem Blk.c29 {w : World} {g : Nat} {t : TypeId} {x0 x1 x2 x3 x4 x5 x6 x7 x8 x9 x10 x11 x12 x13 x14 x15 x16 x17 x18 x19 x20 x21 x22 x23 x24 x25 x26 x27 x28 : Value} (h : Blk w g t #[x0, x1, x2, x3, x4, x5, x6, x7, x8, x9, x10, x11, x12, x13, x14, x15, x16, x17, x18, x19, x20, x21, x22, x23, x24, x25, x26, x27, x28]) : g < w.heap.size ∧ w.cell? ⟨g, 0, none⟩ = some x0 ∧ w.cell? ⟨g, 1, none⟩ = some x1 ∧ w.cell? ⟨g, 2, none⟩ = some x2 ∧ w.cell? ⟨g, 3, none⟩ = some x3 ∧ w.cell? ⟨g, 4, none⟩ = some x4 ∧ w.cell? ⟨g, 5, none⟩ = some x5 ∧ w.cell? ⟨g, 6, none⟩ = some x6 ∧ w.cell? ⟨g, 7, none⟩ = some x7 ∧ w.cell? ⟨g, 8, none⟩ = some x8 ∧ w.cell? ⟨g, 9, none⟩ = some x9 ∧ w.cell? ⟨g, 10, none⟩ = some x10 ∧ w.cell? ⟨g, 11, none⟩ = some x11 ∧ w.cell? ⟨g, 12, none⟩ = some x12 ∧ w.cell? ⟨g, 13, none⟩ = some x13 ∧ w.cell? ⟨g, 14, none⟩ = some x14 ∧ w.cell? ⟨g, 15, none⟩ = some x15 ∧ w.cell? ⟨g, 16, none⟩ = some x16 ∧ w.cell? ⟨g, 17, none⟩ = some x17 ∧ w.cell? ⟨g, 18, none⟩ = some x18 ∧ w.cell? ⟨g, 19, none⟩ = some x19 ∧ w.cell? ⟨g, 20, none⟩ = some x20 ∧ w.cell? ⟨g, 21, none⟩ = some x21 ∧ w.cell? ⟨g, 22, none⟩ = some x22 ∧ w.cell? ⟨g, 23, none⟩ = some x23 ∧ w.cell? ⟨g, 24, none⟩ = some x24 ∧ w.cell? ⟨g, 25, none⟩ = some x25 ∧ w.cell? ⟨g, 26, none⟩ = some x26 ∧ w.cell? ⟨g, 27, none⟩ = some x27 ∧ w.cell? ⟨g, 28, none⟩ = some x28 :=
  ⟨h.lt, by rw [h.cell]; rfl, by rw [h.cell]; rfl, by rw [h.cell]; rfl, by rw [h.cell]; rfl, by rw [h.cell]; rfl, by rw [h.cell]; rfl, by rw [h.cell]; rfl, by rw [h.cell]; rfl, by rw [h.cell]; rfl, by rw [h.cell]; rfl, by rw [h.cell]; rfl, by rw [h.cell]; rfl, by rw [h.cell]; rfl, by rw [h.cell]; rfl, by rw [h.cell]; rfl, by rw [h.cell]; rfl, by rw [h.cell]; rfl, by rw [h.cell]; rfl, by rw [h.cell]; rfl, by rw [h.cell]; rfl, by rw [h.cell]; rfl, by rw [h.cell]; rfl, by rw [h.cell]; rfl, by rw [h.cell]; rfl, by rw [h.cell]; rfl, by rw [h.cell]; rfl, by rw [h.cell]; rfl, by rw [h.cell]; rfl, by rw [h.cell]; rfl⟩
theorem Blk.c30 {w : World} {g : Nat} {t : TypeId} {x0 x1 x2 x3 x4 x5 x6 x7 x8 x9 x10 x11 x12 x13 x14 x15 x16 x17 x18 x19 x20 x21 x22 x23 x24 x25 x26 x27 x28 x29 : Value} (h : Blk w g t #[x0, x1, x2, x3, x4, x5, x6, x7, x8, x9, x10, x11, x12, x13, x14, x15, x16, x17, x18, x19, x20, x21, x22, x23, x24, x25, x26, x27, x28, x29]) : g < w.heap.size ∧ w.cell? ⟨g, 0, none⟩ = some x0 ∧ w.cell? ⟨g, 1, none⟩ = some x1 ∧ w.cell? ⟨g, 2, none⟩ = some x2 ∧ w.cell? ⟨g, 3, none⟩ = some x3 ∧ w.cell? ⟨g, 4, none⟩ = some x4 ∧ w.cell? ⟨g, 5, none⟩ = some x5 ∧ w.cell? ⟨g, 6, none⟩ = some x6 ∧ w.cell? ⟨g, 7, none⟩ = some x7 ∧ w.cell? ⟨g, 8, none⟩ = some x8 ∧ w.cell? ⟨g, 9, none⟩ = some x9 ∧ w.cell? ⟨g, 10, none⟩ = some x10 ∧ w.cell? ⟨g, 11, none⟩ = some x11 ∧ w.cell? ⟨g, 12, none⟩ = some x12 ∧ w.cell? ⟨g, 13, none⟩ = some x13 ∧ w.cell? ⟨g, 14, none⟩ = some x14 ∧ w.cell? ⟨g, 15, none⟩ = some x15 ∧ w.cell? ⟨g, 16, none⟩ = some x16 ∧ w.cell? ⟨g, 17, none⟩ = some x17 ∧ w.cell? ⟨g, 18, none⟩ = some x18 ∧ w.cell? ⟨g, 19, none⟩ = some x19 ∧ w.cell? ⟨g, 20, none⟩ = some x20 ∧ w.cell? ⟨g, 21, none⟩ = some x21 ∧ w.cell? ⟨g, 22, none⟩ = some x22 ∧ w.cell? ⟨g, 23, none⟩ = some x23 ∧ w.cell? ⟨g, 24, none⟩ = some x24 ∧ w.cell? ⟨g, 25, none⟩ = some x25 ∧ w.cell? ⟨g, 26, none⟩ = some x26 ∧ w.cell? ⟨g, 27, none⟩ = some x27 ∧ w.cell? ⟨g, 28, none⟩ = some x28 ∧ w.cell? ⟨g, 29, none⟩ = some x29 :=
  ⟨h.lt, by rw [h.cell]; rfl, by rw [h.cell]; rfl, by rw [h.cell]; rfl, by rw [h.cell]; rfl, by rw [h.cell]; rfl, by rw [h.cell]; rfl, by rw [h.cell]; rfl, by rw [h.cell]; rfl, by rw [h.cell]; rfl, by rw [h.cell]; rfl, by rw [h.cell]; rfl, by rw [h.cell]; rfl, by rw [h.cell]; rfl, by rw [h.cell]; rfl, by rw [h.cell]; rfl, by rw [h.cell]; rfl, by rw [h.cell]; rfl, by rw [h.cell]; rfl, by rw [h.cell]; rfl, by rw [h.cell]; rfl, by rw [h.cell]; rfl, by rw [h.cell]; rfl, by rw [h.cell]; rfl, by rw [h.cell]; rfl, by rw [h.cell]; rfl, by rw [h.cell]; rfl, by rw [h.cell]; rfl, by rw [h.cell]; rfl, by rw [h.cell]; rfl, by rw [h.cell]; rfl⟩
theorem u8_infoQ : (Tryz.prog.info? 5).map (fun i => (i.zero, i.size, i.bytes)) = some (some (.int .u8 0), 1, 1) := by kernel_rfl
theorem Blk.newF {w : World} {t : TypeId} {cs : Array Value} {H : Nat} (hH : w.heap.size = H) : Blk (w.alloc (.cells cs t)) H t cs := by subst hH; exact Blk.new _ _ _
end Go.Proofs.YtbcagdjfegobnaaGreat
/- Packets: their bytes (plain); the contract of gate.Packet, where its head and frames may be. -/
namespace Go.Proofs.YtbcagdjfegobnaaGreat
open Go.ChangeShapes Go.WideShapes Go.ChangeAt Go.RowKit
set_option linter.unusedVariables false

theorem encB_leP (n : Nat) : (encB n).length ≤ 8 := by
  rw [encB_length]; unfold sizeI; split <;> (try split) <;> (try split) <;> (try split) <;> decide
theorem encRs_lenP (p : Int) (l : List Rng) : (encRs p l).length ≤ 16 * l.length := by
  induction l generalizing p with
  | nil => simp [encRs]
  | cons x l ih =>
    have h1 := encB_leP (p - x.2 - 2).toNat
    have h2 := encB_leP (x.2 - x.1).toNat
    have h3 := ih x.1
    simp only [encRs, List.length_append, List.length_cons]; omega
theorem encRng_lenP (l : List Rng) : (encRng l).length ≤ 24 + 16 * l.length := by
  cases l with
  | nil => simp [encRng]
  | cons x l =>
    have h1 := encB_leP x.2.toNat
    have h2 := encB_leP l.length
    have h3 := encB_leP (x.2 - x.1).toNat
    have h4 := encRs_lenP x.1 l
    simp only [encRng, List.length_append, List.length_cons]; omega
theorem fenc_posP (f : FrD) (ok : FrOk f) : 1 ≤ (fenc f).length := by
  unfold fenc; have := (encB_le8 (fkind f) (by have := (fkind_cases f ok).1; omega)).2; simp only [List.length_append]; omega
theorem fenc_lenP (f : FrD) (ok : FrOk f) : (fenc f).length ≤ 300 := by
  have h1 := encB_leP (fkind f)
  have h2 := encRng_lenP f.rngs
  have h3 : (encIf (pId f.kind) f.id).length ≤ 8 := by unfold encIf; split; exact encB_leP _; simp
  have h4 : (encIf (pOff f.kind) f.off).length ≤ 8 := by unfold encIf; split; exact encB_leP _; simp
  have h5 : (encC (pWord f.kind) (pCode f.kind) f.code).length ≤ 8 := by
    unfold encC encIf; split
    · rw [beB_length]; exact Nat.le_refl _
    · split; exact encB_leP _; simp
  have h6 : (encD (pData f.kind) f.data).length ≤ 8 + f.data.length := by
    unfold encD; split
    · have := encB_leP f.data.length; rw [List.length_append]; omega
    · simp
  have := ok.many
  have := ok.len
  unfold fenc
  simp only [List.length_append]; omega

theorem henc_len (h : HeadD) (ok : HeadOk h) : (henc h).length ≤ 140 := by
  obtain ⟨h1, h2, h3, h4, h5, h6, h7, h8⟩ := ok
  have hs : h.size ≤ 4 := by
    by_cases e : h.kind = 1
    · have := (h5 e).1; omega
    · exact (h6 e).2
  have he := encB_leP h.tok.length
  unfold henc hfront
  by_cases e : h.kind = 2
  · rw [if_pos e]; simp only [List.length_append, List.length_cons, List.length_nil, beB_length]; omega
  · rw [if_neg e]; simp only [List.length_append, List.length_cons, List.length_nil, beB_length]; omega
/-- The head of a packet whose number has K bytes. -/
def pktHead (h : HeadD) (K n : Nat) : HeadD := ⟨h.kind, h.to, h.from_, h.tok, n % 256 ^ K, K⟩
def pktHd (h : HeadD) (K n : Nat) : List UInt8 := henc (pktHead h K n)
/-- The bytes of a packet. -/
def pktB (key : Int) (h : HeadD) (K n : Nat) (fs : List FrD) : List UInt8 := pktHd h K n ++ sealB key n (pktHd h K n) (fs.flatMap fenc)
/-- A head that a packet may have, but for its number. -/
structure PkHead (h : HeadD) : Prop where
  kind : h.kind = 0 ∨ h.kind = 2
  tok : h.tok.length ≤ 120
  to_ : h.to ≤ 255
  from_ : h.from_ ≤ 255
  short : h.kind = 2 → h.from_ = 0 ∧ h.tok = []
theorem cutK_le (d : Nat) : 1 ≤ cutK d ∧ cutK d ≤ 4 := by
  rcases cutK_cases d with ⟨e, _⟩ | ⟨e, _⟩ | ⟨e, _⟩ | ⟨e, _⟩ <;> rw [e] <;> decide
theorem PkHead.ok {h : HeadD} (hh : PkHead h) {K n : Nat} (h1 : 1 ≤ K) (h4 : K ≤ 4) : HeadOk (pktHead h K n) := by
  refine ⟨?_, hh.tok, hh.to_, hh.from_, ?_, fun _ => ⟨h1, h4⟩, Nat.mod_lt _ (Nat.pow_pos (by decide)), hh.short⟩
  · rcases hh.kind with e | e <;> simp [pktHead, e]
  · intro e
    rcases hh.kind with e' | e' <;> simp [pktHead, e'] at e
theorem valB_take_mod (K n j : Nat) (h : j < K) : valB ((beB K n).take (j + 1)) 0 = valB ((beB K n).take j) 0 * 256 + ((beB K n).getD j 0).toNat := valB_take _ _ _ (by rw [beB_length]; exact h)
theorem valB_take_ltP (K n j : Nat) (h : K ≤ 4) : valB ((beB K n).take j) 0 < 4294967296 := by
  have := valB_lt ((beB K n).take j) 0 1 (by decide)
  have hl : ((beB K n).take j).length ≤ 4 := by rw [List.length_take, beB_length]; omega
  have : 256 ^ ((beB K n).take j).length ≤ 256 ^ 4 := Nat.pow_le_pow_right (by decide) hl
  omega
theorem valB_all (K n : Nat) : valB ((beB K n).take K) 0 = n % 256 ^ K := by
  rw [List.take_of_length_le (by rw [beB_length]; exact Nat.le_refl _), beB_low, valB_beB _ _ _ (Nat.mod_lt _ (Nat.pow_pos (by decide)))]
  omega
theorem takeF (l : List FrM) (k : Nat) (h : k < l.length) : ((l.take (k + 1)).map (·.f)).flatMap fenc = ((l.take k).map (·.f)).flatMap fenc ++ fenc (l.getD k fmn).f := by
  rw [takeD l k fmn h, List.map_append, List.flatMap_append]; simp

/-- What Packet answers. -/
def PktOut (w : World) (B : List UInt8) (e : Ending) (w' : World) : Prop :=
  (400 < B.length ∧ e = .returned (.tuple #[.slice none 0 0, .int .i64 1]) ∨ B.length ≤ 400 ∧ ∃ A k c, e = .returned (.tuple #[.slice A k c, .int .i64 0]) ∧ B.length = k ∧ OwnB w' w.heap.size 5 A c B) ∧ Below w.heap.size w w'

set_option maxRecDepth 100000 in
set_option maxHeartbeats 4000000 in
theorem packet_any (key : Int) (hk0 : 0 ≤ key) (hk1 : key < 18446744073709551616) (h : HeadD) (hh : PkHead h) (T : Option Addr) (tn tc : Nat) (htn : h.tok.length = tn) (nu si : Int) (n : Nat) (h1 : (n : Int) ≤ 4611686018427387903) (a : Int) (ha : -1 ≤ a) (han : a < n) (hd : n - a ≤ 2147483648)
    (L : Option Addr) (m c : Nat) (xs : List FrM) (hm : xs.length = m) (hm13 : m ≤ 100) (hmc : m ≤ c) (hcm : c ≤ 9223372036854775807) (hx : ∀ x ∈ xs, FrOk x.f) (w : World) (hT : RdB w T h.tok) (hL : FrRd w L xs) :
    Calls Tryz.prog 23 #[.int .u64 key, .agg #[.int .i64 h.kind, .int .i64 h.to, .int .i64 h.from_, .slice T tn tc, .int .i64 nu, .int .i64 si], .int .i64 n, .int .i64 a, .slice L m c] w
      (PktOut w (pktB key h (cutK (n - a).toNat) n (xs.map (·.f)))) := by
  obtain ⟨K, hK⟩ : ∃ K, cutK (n - a).toNat = K := ⟨_, rfl⟩
  have hK4 := cutK_le (n - a).toNat
  rw [hK] at hK4 ⊢
  obtain ⟨hK1, hK4⟩ := hK4
  have HCUT := Lib.hid (fun W => cut_any n a h1 ha han hd W)
  rw [hK] at HCUT
  have HHO := Lib.hid (hh.ok (n := n) hK1 hK4)
  have HTN := Lib.hid htn
  have HM := Lib.hid hm
  have HX := Lib.hid hx
  have HT := Lib.hid hT
  have HL := Lib.hid hL
  clear hh htn hm hx hT hL hK
  go_enter Tryz.func23, Tryz.ntmps23
  go_upto_region 1 with (fail)
  refine wp_world (fun w' => Blk w' w.heap.size 61 #[.int .i64 h.kind, .int .i64 h.to, .int .i64 h.from_, .slice T tn tc, .int .i64 nu, .int .i64 si] ∧ Below w.heap.size w w') ⟨Blk.new _ _ _, (Below.refl _ _).alloc (Nat.le_refl _) _⟩ ?_
  rintro w1 ⟨hH, hb1⟩
  have hg := hH.lt
  go_wp2_with fail
  refine (HCUT.out w1).mono ?_
  rintro e w2 ⟨C, cc, rfl, hO, hb2⟩
  have hH := hH.carry hb2
  have hb := hb1.trans (hb2.mono hb1.size)
  have HO := Lib.hid hO.x
  have FH := hH.facts6
  clear hb1 hb2 hO HCUT
  have hKi : (K : Int) ≤ 4 := by omega
  go_upto_region 5 with (fail)
  refine wp_world (fun w' => Blk w' w.heap.size 61 #[.int .i64 h.kind, .int .i64 h.to, .int .i64 h.from_, .slice T tn tc, .int .i64 ((0 : Nat) : Int), .int .i64 K] ∧ OwnX u8c 1 w' w1.heap.size 5 C cc (beB K n) ∧ Below w.heap.size w w')
    ⟨((hH.set_ 5 _).set_ 4 _).as (by rfl), (HO.out.set_below hg _).set_below hg _, by (repeat (first | with_reducible exact hb | with_reducible refine Below.drew ?_ | (with_reducible refine Below.set4 ?_ ?side _ _ _ _; case side => (first | omega | (simp; omega) | (simp; done))) | (with_reducible refine Below.setCell ?_ ?side _; case side => (first | omega | (simp; omega) | (simp; done))) | (with_reducible refine Below.alloc ?_ ?side _; case side => (first | omega | (simp; omega) | (simp; done)))))⟩ ?_
  clear hH hb HO FH
  rintro w3 ⟨hH, hO, hb3⟩
  have HO := Lib.hid hO
  clear hO
  -- [[loop1
  go_wp2_with fail
  go_loopw [38] (fun s38 wr => ∃ j : Nat, j ≤ K ∧ s38 = .int .i64 j ∧ Blk wr w.heap.size 61 #[.int .i64 h.kind, .int .i64 h.to, .int .i64 h.from_, .slice T tn tc, .int .i64 (valB ((beB K n).take j) 0 : Nat), .int .i64 K] ∧ OwnX u8c 1 wr w1.heap.size 5 C cc (beB K n) ∧ Below w.heap.size w wr) (fun s38 _ => K - (intOf s38).toNat)
  case atStart => exact ⟨0, Nat.zero_le _, rfl, hH, HO.out, hb3⟩
  case round =>
    obtain ⟨j, hj, rfl, hHr, hOr, hbr⟩ := hrel
    clear hH HO
    by_cases hlt : j < K
    -- [[round1
    · obtain ⟨bc, oc, rfl, hcell⟩ := hOr.rd.b.cell (by rw [beB_length]; omega)
      have c0 := hcell j (by rw [beB_length]; omega)
      have HS := Lib.hid (valB_take_mod K n j hlt)
      have h10 := valB_take_ltP K n j hK4
      have HOr := Lib.hid hOr
      have hblt : w.heap.size < w1.heap.size := hg
      generalize (beB K n).getD j 0 = b1 at *
      generalize valB ((beB K n).take j) 0 = N at *
      have h9 : (b1.toNat : Int) < 256 := by have := b1.toNat_lt; omega
      have HOB := Lib.hid (or_byte N b1.toNat (by omega) (by omega))
      have FH := hHr.facts6
      have HHr := Lib.hid hHr
      have HBr := Lib.hid hbr
      clear hcell hOr hHr hbr
      have hNN : (N : Int) < 4294967296 := by omega
      go_wp2_with fail
      go_roundw
      case rel => exact ⟨j + 1, by omega, by go_num, (HHr.out.set_ 4 _).as (by rw [HOB.out, HS.out]; rfl), HOr.out.set_below hg _, HBr.out.setCell (p := ⟨w.heap.size, 4, none⟩) (Nat.le_refl _) _⟩
      case measure => simp [intOf]; omega
      -- ]]round1
    · obtain rfl : j = K := by omega
      rw [valB_all] at hHr
      have hH := hHr
      have HO := Lib.hid hOr
      have HT3 := Lib.hid (HT.out.below hbr)
      have HL3 := Lib.hid (HL.out.below hbr)
      have hb3 := hbr
      clear hHr hOr hbr
      obtain ⟨Hb, hHb⟩ : ∃ b, henc (pktHead h j n) = b := ⟨_, rfl⟩
      have HENC := Lib.hid (hEnc_any (pktHead h j n) HHO.out T tc wr HT3.out)
      rw [hHb] at HENC
      simp only [hcells, pktHead, HTN.out] at HENC
      have HHB := Lib.hid hHb
      clear hHb
      have FH := hH.facts6
      have hgr := hH.lt
      clear hlt hj
      go_wp2_with fail
      refine HENC.out.mono ?_
      rintro e w4 ⟨A4, k4, c4, rfl, hk4, hO4, hkc4, hc4m, hb4⟩
      have HL4 := Lib.hid (HL3.out.below hb4)
      have HK4 := Lib.hid hk4
      have HO4 := Lib.hid hO4.x
      have HB4 := Lib.hid (hb3.trans (hb4.mono hb3.size))
      have hrs : wr.heap.size ≤ w4.heap.size := hb4.size
      have hws : w.heap.size ≤ wr.heap.size := hb3.size
      have hk4b : k4 ≤ 140 := by
        rw [← HK4.out, ← HHB.out]; exact henc_len _ HHO.out
      clear FH hH hk4 hO4 hb4 HENC HL3 HT3 HO hb3
      -- [[loop2
      go_wp2_with fail
      go_loopw [17, 60] (fun s17 s60 wr => ∃ (i : Nat) (Bo : Option Addr) (nb cb : Nat), i ≤ m ∧ s60 = .int .i64 i ∧ s17 = .slice Bo nb cb ∧ (((xs.take i).map (·.f)).flatMap fenc).length = nb ∧ nb ≤ 300 * i ∧ OwnX u8c 1 wr w4.heap.size 5 Bo cb (((xs.take i).map (·.f)).flatMap fenc) ∧ Below w4.heap.size w4 wr) (fun _ s60 _ => m - (intOf s60).toNat)
      case atStart => exact ⟨0, none, 0, 0, Nat.zero_le _, rfl, rfl, rfl, Nat.le_refl _, OwnX.nil _ _ _, Below.refl _ _⟩
      case round =>
        obtain ⟨i, Bo, nb, cb, hi, rfl, rfl, hnb, hnb3, hBo, hbr⟩ := hrel
        have HNB := Lib.hid hnb
        have HBO := Lib.hid hBo
        clear hnb hBo
        by_cases hlt : i < m
        -- [[round2
        · have hix : i < xs.length := by rw [HM.out]; exact hlt
          have hmem : xs.getD i fmn ∈ xs := by simp [List.getD, hix]
          have hok := HX.out _ hmem
          have hLr := HL4.out.below hbr
          obtain ⟨bl, ol, rfl, hcell⟩ := hLr.at_ (by omega)
          have hXr := hLr.2 _ hmem
          have cc0 := hcell i hix
          have HTK := Lib.hid (takeF xs i hix)
          have HLL := Lib.hid hLr
          generalize xs.getD i fmn = x at *
          obtain ⟨f, xA, xc, xB, xd⟩ := x
          have p0 := cc0 0 _ (by decide) rfl
          have p1 := cc0 1 _ (by decide) rfl
          have p2 := cc0 2 _ (by decide) rfl
          have p3 := cc0 3 _ (by decide) rfl
          have p4 := cc0 4 _ (by decide) rfl
          have p5 := cc0 5 _ (by decide) rfl
          have p6 := cc0 6 _ (by decide) rfl
          have HXR := Lib.hid hXr
          have HOK := Lib.hid hok
          have HBR := Lib.hid hbr
          simp only [Nat.add_zero] at p0
          have hwr := hbr.size
          have him : (i : Int) < (m : Int) := by omega
          clear hcell cc0 hXr hok hbr hLr hmem hix
          go_upto_region 17 with (fail)
          obtain ⟨gF, hgF⟩ : ∃ q, wr.heap.size = q := ⟨_, rfl⟩
          refine wp_world (fun w' => Blk w' gF 68 #[.int .i64 f.kind, .int .i64 f.id, .int .i64 f.off, .bool f.fin, .int .i64 f.code, .slice xA f.rngs.length xc, .slice xB f.data.length xd] ∧ FrX w' ⟨f, xA, xc, xB, xd⟩ ∧ OwnX u8c 1 w' w4.heap.size 5 Bo cb (((xs.take i).map (·.f)).flatMap fenc) ∧ Below w4.heap.size w4 w') ⟨Blk.newF hgF, HXR.out.below ((Below.refl _ _).alloc (Nat.le_refl _) _), HBO.out.alloc _, HBR.out.alloc hwr _⟩ ?_
          try rw [hgF]
          clear p0 p1 p2 p3 p4 p5 p6 HXR HBO HBR hgF
          rintro w5 ⟨hF, hX5, hB5, hb5⟩
          have FF := hF.c7
          have HE := Lib.hid (fEnc_any f HOK.out xA xc xB xd w5 hX5.1 hX5.2.1 hX5.2.2.1 hX5.2.2.2.1)
          simp only [frcells] at HE
          have HB5 := Lib.hid hB5
          have HBB := Lib.hid hb5
          have h45 := hb5.size
          clear hF hX5 hB5 hb5
          go_wp2_with fail
          refine HE.out.mono ?_
          rintro e w6 ⟨A6, k6, c6, rfl, hk6, hO6, hkc6, hc6m, hb6⟩
          have hk6b : k6 ≤ 300 := by rw [← hk6]; exact fenc_lenP f HOK.out
          have HK6 := Lib.hid hk6
          have HR6 := Lib.hid hO6.rd.x
          have HB6 := Lib.hid (HB5.out.carry hb6)
          have HBB6 := Lib.hid (HBB.out.trans (hb6.mono h45))
          have h46 := HBB6.out.size
          clear hk6 hO6 hb6 FF HE HB5 HBB
          go_wp2_with (at_builtin
                       refine wpList_appL u8c 1 u8c_one _ rfl (.tmp 72) (.tmp 73) _ rfl w4.heap.size 5 _ 1 Tryz.underlying30 u8_infoQ rfl (by decide) (by decide) Bo nb cb _ rfl HNB.out HB6.out A6 k6 c6 (fenc f) rfl HK6.out HR6.out _ HTK.out.symm (nb + k6) rfl (by omega) h46 ?_
                       intro A7 c7 w7 hO7 hc7 hm7 hb7 hg7 ha7)
          go_roundw
          case rel => exact ⟨i + 1, A7, nb + k6, c7, by omega, by go_num, rfl, by rw [HTK.out, List.length_append, HNB.out, HK6.out], by omega, hO7, HBB6.out.trans hb7⟩
          case measure => simp [intOf]; omega
          -- ]]round2
        -- [[end2
        · obtain rfl : i = m := by omega
          rw [List.take_of_length_le (by rw [HM.out]; exact Nat.le_refl _)] at HNB HBO
          have HOb := Lib.hid (HO4.out.carry hbr)
          have hbs := hbr.size
          have hbt := HB4.out.trans (hbr.mono HB4.out.size)
          have HBT := Lib.hid hbt
          have HTX := Lib.hid (HBO.out.rd.b)
          have HHX := Lib.hid (HOb.out.rd.b)
          have hpk : pktB key h j n (xs.map (·.f)) = Hb ++ sealB key n Hb ((xs.map (·.f)).flatMap fenc) := by unfold pktB pktHd; rw [HHB.out]
          have HPK := Lib.hid hpk
          have HSL : Hid ((sealB key n Hb ((xs.map (·.f)).flatMap fenc)).length = nb + 8) := by
            show _ = _
            unfold sealB
            rw [List.length_append, turnB_length, tagB_length, HNB.out]
          have HSE := Lib.hid (seal_any key n hk0 hk1 A4 Bo Hb ((xs.map (·.f)).flatMap fenc) k4 c4 nb cb HK4.out HNB.out wr HHX.out HTX.out (by omega) (by omega) (nb + 8) rfl)
          clear hbr hbt hpk
          go_wp2_with fail
          refine HSE.out.mono ?_
          rintro e w5 ⟨A5, c5, rfl, hO5, hc5, hb5⟩
          have HR5 := Lib.hid hO5.rd.x
          have HO5 := Lib.hid (HOb.out.carry hb5)
          have HB5 := Lib.hid (HBT.out.trans (hb5.mono HBT.out.size))
          have h5s := hb5.size
          clear hO5 hb5 HSE
          go_wp2_with (at_builtin
                       refine wpList_appL u8c 1 u8c_one _ rfl (.tmp 76) (.tmp 81) _ rfl _ 5 _ 1 Tryz.underlying30 u8_infoQ rfl (by decide) (by decide) A4 k4 c4 _ rfl HK4.out HO5.out A5 (nb + 8) c5 _ rfl HSL.out HR5.out _ HPK.out.symm (k4 + (nb + 8)) rfl (by omega) (by omega) ?_
                       intro A7 c7 w7 hO7 hc7 hm7 hb7 hg7 ha7)
          all_goals
            have HLEN : Hid ((pktB key h j n (xs.map (·.f))).length = k4 + (nb + 8)) := by show _ = _; rw [HPK.out, List.length_append, HK4.out, HSL.out]
            by_cases h400 : k4 + (nb + 8) ≤ 400
            · first
                | (exfalso; omega)
                | (go_wp2_with fail
                   go_ret2
                   exact ⟨.inr ⟨by rw [HLEN.out]; exact h400, A7, k4 + (nb + 8), c7, by rfl, HLEN.out, (hO7.mono (by omega)).b⟩, HB5.out.trans (hb7.mono (by omega))⟩)
            · first
                | (exfalso; omega)
                | (go_wp2_with fail
                   go_ret2
                   exact ⟨.inl ⟨by rw [HLEN.out]; omega, by rfl⟩, HB5.out.trans (hb7.mono (by omega))⟩)
          -- ]]end2
      -- ]]loop2
  -- ]]loop1
end Go.Proofs.YtbcagdjfegobnaaGreat
