/- Texts of the proof, laid together: Own. -/
import Derived.Test.YtbcagdjfegobnaaGreatC00
import Derived.Deep.RegionLaw
import Derived.Deep.Cut
import Derived.Deep.CutBlock
import Derived.Deep.CutRange
import Derived.Outline
/- More words for memory: rows that are owned, blocks of some cells. -/
namespace Go.Proofs.YtbcagdjfegobnaaGreat
open Go.RowKit
set_option linter.unusedVariables false

/-- A block of four cells: what the walk asks of it. -/
theorem Blk.facts4 {w : World} {g : Nat} {t : TypeId} {x y z u : Value} (h : Blk w g t #[x, y, z, u]) : g < w.heap.size ∧ w.cell? ⟨g, 0, none⟩ = some x ∧ w.cell? ⟨g, 1, none⟩ = some y ∧ w.cell? ⟨g, 2, none⟩ = some z ∧ w.cell? ⟨g, 3, none⟩ = some u ∧
    w.frozen? ⟨g, 0, none⟩ = false ∧ w.frozen? ⟨g, 1, none⟩ = false ∧ w.frozen? ⟨g, 2, none⟩ = false ∧ w.frozen? ⟨g, 3, none⟩ = false :=
  ⟨h.lt, by rw [h.cell]; rfl, by rw [h.cell]; rfl, by rw [h.cell]; rfl, by rw [h.cell]; rfl, h.frozen 0, h.frozen 1, h.frozen 2, h.frozen 3⟩
theorem Blk.set4 {w : World} {g : Nat} {t : TypeId} {x y z r : Value} (h : Blk w g t #[x, y, z, r]) (u v s q : Value) : Blk ((((w.setCell ⟨g, 0, none⟩ u).setCell ⟨g, 1, none⟩ v).setCell ⟨g, 2, none⟩ s).setCell ⟨g, 3, none⟩ q) g t #[u, v, s, q] := (((h.set_ 0 u).set_ 1 v).set_ 2 s).set_ 3 q
theorem Blk.far4 {w : World} {g : Nat} {t : TypeId} {cs : Array Value} (h : Blk w g t cs) {g' : Nat} (hne : g ≠ g') (u v s q : Value) : Blk ((((w.setCell ⟨g', 0, none⟩ u).setCell ⟨g', 1, none⟩ v).setCell ⟨g', 2, none⟩ s).setCell ⟨g', 3, none⟩ q) g t cs :=
  (((h.far (p := ⟨g', 0, none⟩) hne u).far (p := ⟨g', 1, none⟩) hne v).far (p := ⟨g', 2, none⟩) hne s).far (p := ⟨g', 3, none⟩) hne q
theorem Below.set4 {B : Nat} {a w : World} (h : Below B a w) {g : Nat} (hg : B ≤ g) (u v s q : Value) : Below B a ((((w.setCell ⟨g, 0, none⟩ u).setCell ⟨g, 1, none⟩ v).setCell ⟨g, 2, none⟩ s).setCell ⟨g, 3, none⟩ q) :=
  (((h.setCell hg u).setCell hg v).setCell hg s).setCell hg q

theorem Rd.farc {w : World} {g size n : Nat} {xs : List Value} (h : Rd w size (some ⟨g, 0, none⟩) n xs) {p : Addr} (hp : g ≠ p.block) (u : Value) : Rd (w.setCell p u) size (some ⟨g, 0, none⟩) n xs :=
  ⟨h.1, fun hn => by
    obtain ⟨b, off, e, hc⟩ := h.2 hn
    injection e with e; injection e with e1 e2; subst e1
    exact ⟨_, off, by rw [e2], fun j u hu => (World.cell?_of_block (w := w) (Below.heap_setCell w p _ _ hp)).trans (hc j u hu)⟩⟩
theorem cell_keep {w w' : World} {p : Addr} {v : Value} (hb : Below w.heap.size w w') (h : w.cell? p = some v) : w'.cell? p = some v := (hb.cell (World.block_lt_of_cell? w _ h)).trans h
theorem own_carry {w0 w' : World} {base : Nat} {e : TypeId} {size n : Nat} {v : Value} {xs : List Value} (h : w0.ownsRow base e size v n xs) (hb : Below w0.heap.size w0 w') : w'.ownsRow base e size v n xs := by
  refine ⟨h.1, ?_⟩
  rcases h.2 with h2 | ⟨g, cap, cur, hv, hg, hh, r⟩
  · exact .inl h2
  · exact .inr ⟨g, cap, cur, hv, hg, (hb.block g (Array.getElem?_eq_some_iff.1 hh).1).trans hh, r⟩
theorem own_block_lt {w0 : World} {base : Nat} {e : TypeId} {size n : Nat} {v : Value} {xs : List Value} (h : w0.ownsRow base e size v n xs) : ∀ k, v.ownBlock = some k → base ≤ k ∧ k < w0.heap.size := h.lt
theorem own_cap {w0 : World} {base : Nat} {e : TypeId} {size n : Nat} {A : Option Addr} {c : Nat} {xs : List Value} (h : w0.ownsRow base e size (.slice A n c) n xs) : n ≤ c ∧ c ≤ 9223372036854775807 := by
  obtain ⟨A', c', e, h1, h2⟩ := own_shape _ h
  injection e with _ _ e; subst e; exact ⟨h1, h2⟩
theorem own_mono {w0 : World} {base base' : Nat} {e : TypeId} {size n : Nat} {v : Value} {xs : List Value} (h : w0.ownsRow base e size v n xs) (hb : base' ≤ base) : w0.ownsRow base' e size v n xs := by
  refine ⟨h.1, ?_⟩
  rcases h.2 with h2 | ⟨g, cap, cur, hv, hg, r⟩
  · exact .inl h2
  · exact .inr ⟨g, cap, cur, hv, Nat.le_trans hb hg, r⟩
theorem own_far {w0 : World} {base : Nat} {e : TypeId} {size n : Nat} {v : Value} {xs : List Value} (h : w0.ownsRow base e size v n xs) {p : Addr} (hp : ∀ k, v.ownBlock = some k → k ≠ p.block) (u : Value) : (w0.setCell p u).ownsRow base e size v n xs := by
  refine ⟨h.1, ?_⟩
  rcases h.2 with h2 | ⟨g, cap, cur, hv, hg, hh, r⟩
  · exact .inl h2
  · exact .inr ⟨g, cap, cur, hv, hg, (Below.heap_setCell w0 p u g (hp g (by rw [hv]; rfl))).trans hh, r⟩

/-- A slice of the call's own whose elements are things, some cells each. -/
def OwnX {α : Type} (f : α → List Value) (m : Nat) (w : World) (base : Nat) (E : TypeId) (A : Option Addr) (c : Nat) (xs : List α) : Prop := w.ownsRow base E m (.slice A xs.length c) xs.length (xs.flatMap f)
section
variable {α : Type} {f : α → List Value} {m : Nat} {w w' : World} {base : Nat} {E : TypeId} {A : Option Addr} {c : Nat} {xs : List α}
theorem OwnX.rd (h : OwnX f m w base E A c xs) : RdX f m w A xs := Rd.of_own h
theorem OwnX.nil (w : World) (base : Nat) (E : TypeId) : OwnX f m w base E none 0 [] := by unfold OwnX; exact World.ownsRow_nil w base E m
theorem OwnX.alloc (h : OwnX f m w base E A c xs) (o : Obj) : OwnX f m (w.alloc o) base E A c xs := World.ownsRow.alloc h o
theorem OwnX.carry (h : OwnX f m w base E A c xs) (hb : Below w.heap.size w w') : OwnX f m w' base E A c xs := own_carry h hb
theorem OwnX.mono {base' : Nat} (h : OwnX f m w base E A c xs) (hb : base' ≤ base) : OwnX f m w base' E A c xs := own_mono h hb
theorem OwnX.cap (h : OwnX f m w base E A c xs) : xs.length ≤ c ∧ c ≤ 9223372036854775807 := own_cap h
theorem OwnX.lt (h : OwnX f m w base E A c xs) {n : Nat} : ∀ k, (Value.slice A n c).ownBlock = some k → base ≤ k ∧ k < w.heap.size := fun k hk => own_block_lt h k (by rw [← hk]; cases A <;> rfl)
theorem OwnX.set_below (h : OwnX f m w base E A c xs) {p : Addr} (hp : p.block < base) (u : Value) : OwnX f m (w.setCell p u) base E A c xs := ownsRow_setCell_below h hp u
theorem OwnX.made (f : α → List Value) (m : Nat) (w : World) (base : Nat) (E : TypeId) (hb : base ≤ w.heap.size) : OwnX f m (w.alloc (.cells #[] E)) base E (some ⟨w.heap.size, 0, none⟩) 0 [] := by
  unfold OwnX; exact World.ownsRow_made w #[] 0 hb (by decide) (by simp)
theorem RdX.alloc (h : RdX f m w A xs) (o : Obj) : RdX f m (w.alloc o) A xs := Rd.alloc h o
theorem RdX.one (w : World) (E : TypeId) (x : α) (cs : Array Value) (h : cs.toList = f x) (hm : cs.size = m) : RdX f m (w.alloc (.cells cs E)) (some ⟨w.heap.size, 0, none⟩) [x] := by
  have := Rd.new w E cs m hm
  rw [h] at this
  simpa [RdX] using this
end
theorem RdX.oneH {α : Type} {f : α → List Value} {m : Nat} (w : World) (E : TypeId) (x : α) (cs : Array Value) (h : cs.toList = f x) (hm : cs.size = m) {H : Nat} (hH : w.heap.size = H) : RdX f m (w.alloc (.cells cs E)) (some ⟨H, 0, none⟩) [x] := by
  subst hH; exact RdX.one w E x cs h hm
/-- append of things onto things of the call's own. -/
theorem wpList_appX {P : Program} {α : Type} (f : α → List Value) (size : Nat) (hone : ∀ (xs : List α), ∀ u ∈ xs.flatMap f, u.oneCell' = true) (w : World) {ops : Array Oper} {rest : List Oper} {o : Oper} {a : Act} {Q : Exit → Act → World → Prop} (hgd : o.guard = none) (s x : Operand) (t : TypeId)
    (ho : o.op = .call { callee := .builtin .append, args := #[s, x], argTypes := #[t, t] })
    (base : Nat) (E : TypeId) (z : Value) (bytes : Nat) (ht : P.underlying t = some (.slice E)) (hinfo : (P.info? E).map (fun i => (i.zero, i.size, i.bytes)) = some (some z, size, bytes)) (hzs : z.cells.size = size) (hsz : 0 < size) (hb1 : 1 ≤ bytes)
    (A0 : Option Addr) (n0 c0 : Nat) (as_v : List α) (hs : a.eval s = .slice A0 n0 c0) (hn0 : as_v.length = n0) (hown : OwnX f size w base E A0 c0 as_v)
    (A : Option Addr) (m0 c : Nat) (bs : List α) (hx : a.eval x = .slice A m0 c) (hm0 : bs.length = m0) (hr : RdX f size w A bs)
    (zs : List α) (hz : as_v ++ bs = zs) (k : Nat) (hk : n0 + m0 = k) (hbytes : (n0 + m0) * bytes ≤ 140737488355328) (hbase : base ≤ w.heap.size)
    (h : ∀ A' c' w', OwnX f size w' base E A' c' zs → k ≤ c' → c' ≤ 9223372036854775807 → Below base w w' → w.grownBy w' (Value.slice A0 n0 c0).ownBlock → wpList P ops Q rest (a.put o.dst (.slice A' k c')) w') : wpList P ops Q (o :: rest) a w := by
  subst hz; subst hn0; subst hm0; subst hk
  refine wpList_plain hgd fun _ hK => wp_app2 w s x t ho base E z size bytes ht hinfo hzs hsz A0 c0 as_v.length (as_v.flatMap f) hs hown A bs.length c (bs.flatMap f) hx hr (hone bs) (by omega) hb1 hbase fun A' c' w' h2 h3 h4 h5 h6 => hK _ _ ?_
  rw [← List.flatMap_append, ← List.length_append] at h2
  exact h A' c' w' h2 h3 (by unfold maxLen at h4; omega) h5 h6
end Go.Proofs.YtbcagdjfegobnaaGreat
