/- Texts of the proof, laid together: OwnGrown AppL Big Facts Begun. -/
import Derived.Test.YtbcagdjfegobnaaGreatC01
import Derived.Test.YtbcagdjfegobnaaGreatC00
import Derived.Laws.CopyRow
import Derived.Laws.Rows
import Derived.Test.YtbcagdjfegobnaaGreatC05
import Derived.Test.YtbcagdjfegobnaaGreatC07
import Derived.Test.YtbcagdjfegobnaaGreatC08
/- A row of the call's own, where another row grew. -/
namespace Go.Proofs.YtbcagdjfegobnaaGreat
open Go.RowKit
set_option linter.unusedVariables false

theorem own_grown {w0 w' : World} {base : Nat} {e : TypeId} {size n : Nat} {v : Value} {xs : List Value} {row : Option Nat} (h : w0.ownsRow base e size v n xs) (hb : w0.grownBy w' row) (hne : ∀ k, v.ownBlock = some k → some k ≠ row) : w'.ownsRow base e size v n xs := by
  refine ⟨h.1, ?_⟩
  rcases h.2 with h2 | ⟨g, cap, cur, hv, hg, hh, r⟩
  · exact .inl h2
  · exact .inr ⟨g, cap, cur, hv, hg, (hb.block g (Array.getElem?_eq_some_iff.1 hh).1 (hne g (by rw [hv]; rfl))).trans hh, r⟩

end Go.Proofs.YtbcagdjfegobnaaGreat
/- append of things onto things of the call's own: where the new slice lies. -/
namespace Go.Proofs.YtbcagdjfegobnaaGreat
open Go.RowKit
set_option linter.unusedVariables false


theorem slice_own (X : Option Addr) (n c : Nat) : (Value.slice X n c).ownBlock = X.map (·.block) := by cases X <;> rfl
theorem takeD {α : Type} (l : List α) (k : Nat) (d : α) (h : k < l.length) : l.take (k + 1) = l.take k ++ [l.getD k d] := by
  rw [List.take_succ_eq_append_getElem h]; simp [List.getD, h]
theorem OwnX.grown {α : Type} {f : α → List Value} {m : Nat} {w w' : World} {base : Nat} {E : TypeId} {A : Option Addr} {c : Nat} {xs : List α} {row : Option Nat} (h : OwnX f m w base E A c xs) (hb : w.grownBy w' row) (hne : A.map (·.block) = none ∨ A.map (·.block) ≠ row) : OwnX f m w' base E A c xs :=
  own_grown h hb fun k hk e => by
    have ob : ∀ (X : Option Addr) (n c : Nat), (Value.slice X n c).ownBlock = X.map (·.block) := fun X n c => by cases X <;> rfl
    rw [ob] at hk
    rcases hne with h1 | h1
    · rw [h1] at hk; cases hk
    · exact h1 (hk.trans e)

/-- append of things; where the new slice lies. -/
theorem wpList_appL {P : Program} {α : Type} (f : α → List Value) (size : Nat) (hone : ∀ (xs : List α), ∀ u ∈ xs.flatMap f, u.oneCell' = true) (w : World) {ops : Array Oper} {rest : List Oper} {o : Oper} {a : Act} {Q : Exit → Act → World → Prop} (hgd : o.guard = none) (s x : Operand) (t : TypeId)
    (ho : o.op = .call { callee := .builtin .append, args := #[s, x], argTypes := #[t, t] })
    (base : Nat) (E : TypeId) (z : Value) (bytes : Nat) (ht : P.underlying t = some (.slice E)) (hinfo : (P.info? E).map (fun i => (i.zero, i.size, i.bytes)) = some (some z, size, bytes)) (hzs : z.cells.size = size) (hsz : 0 < size) (hb1 : 1 ≤ bytes)
    (A0 : Option Addr) (n0 c0 : Nat) (us : List α) (hs : a.eval s = .slice A0 n0 c0) (hn0 : us.length = n0) (hown : OwnX f size w base E A0 c0 us)
    (A : Option Addr) (m0 c : Nat) (bs : List α) (hx : a.eval x = .slice A m0 c) (hm0 : bs.length = m0) (hr : RdX f size w A bs)
    (zs : List α) (hz : us ++ bs = zs) (k : Nat) (hk : n0 + m0 = k) (hbytes : (n0 + m0) * bytes ≤ 140737488355328) (hbase : base ≤ w.heap.size)
    (h : ∀ A' c' w', OwnX f size w' base E A' c' zs → k ≤ c' → c' ≤ 9223372036854775807 → Below base w w' → w.grownBy w' (A0.map (·.block)) → (A'.map (·.block) = A0.map (·.block) ∨ A'.map (·.block) = some w.heap.size) → wpList P ops Q rest (a.put o.dst (.slice A' k c')) w') : wpList P ops Q (o :: rest) a w := by
  subst hz; subst hn0; subst hm0; subst hk
  refine wpList_plain hgd fun _ hK => ?_
  obtain ⟨i, hi, hz, hsize, hby⟩ := info_parts hinfo
  have h63 : us.length + bs.length ≤ maxLen := by
    have : (us.length + bs.length) * 1 ≤ (us.length + bs.length) * bytes := Nat.mul_le_mul_left _ hb1
    unfold maxLen; omega
  obtain ⟨v', w', hrun, h2, h3, h4⟩ := run_append_any (P := P) w base t o.type E i z size bytes ht hi hz hsize hby hzs hsz _ us.length (us.flatMap f) hown A bs.length c (bs.flatMap f) hr (hone bs) h63 hbytes hbase
  obtain ⟨A', c', rfl, hc1, hc2⟩ := own_shape _ h2
  have ob : ∀ (X : Option Addr) (n c : Nat), (Value.slice X n c).ownBlock = X.map (·.block) := fun X n c => by cases X <;> rfl
  have h2' : OwnX f size w' base E A' c' (us ++ bs) := by unfold OwnX; rw [List.flatMap_append, List.length_append]; exact h2
  unfold Oper.wp execOp
  simp only [ho, resolve, invoke, builtin, Sem.run_bind, Sem.run_pure, Result.andThen_ok, List.map_toArray, List.map_cons, List.map_nil, hs, hx, hrun]
  refine hK _ _ (h A' c' w' h2' hc1 (by unfold maxLen at hc2; omega) ((Below.refl _ _).grown h3 hbase (fun k hk => (hown.lt k hk).1)) (by rw [← ob A0 us.length c0]; exact h3) ?_)
  rw [ob, ob] at h4; exact h4

def u8c (b : UInt8) : List Value := [.int .u8 (b.toNat : Int)]
theorem u8c_flat (bs : List UInt8) : bs.flatMap u8c = u8s bs := by
  induction bs with
  | nil => rfl
  | cons b bs ih => rw [List.flatMap_cons, ih]; rfl
theorem u8c_one (xs : List UInt8) : ∀ u ∈ xs.flatMap u8c, u.oneCell' = true := by rw [u8c_flat]; exact u8s_one xs
theorem OwnB.x {w : World} {base : Nat} {E : TypeId} {A : Option Addr} {c : Nat} {bs : List UInt8} (h : OwnB w base E A c bs) : OwnX u8c 1 w base E A c bs := by unfold OwnX; rw [u8c_flat]; exact h
theorem OwnX.b {w : World} {base : Nat} {E : TypeId} {A : Option Addr} {c : Nat} {bs : List UInt8} (h : OwnX u8c 1 w base E A c bs) : OwnB w base E A c bs := by unfold OwnX at h; rw [u8c_flat] at h; exact h
theorem RdB.x {w : World} {A : Option Addr} {bs : List UInt8} (h : RdB w A bs) : RdX u8c 1 w A bs := by unfold RdX; rw [u8c_flat]; exact h
theorem RdX.b {w : World} {A : Option Addr} {bs : List UInt8} (h : RdX u8c 1 w A bs) : RdB w A bs := by unfold RdX at h; rw [u8c_flat] at h; exact h

theorem Blk.newR {w : World} {t : TypeId} {cs : Array Value} {H : Nat} (hH : w.heap.size = H) : Blk (w.alloc (.cells cs t)) H t cs := by subst hH; exact Blk.new _ _ _
end Go.Proofs.YtbcagdjfegobnaaGreat
/- Laws for great structs: one load, one store of all their cells, whole or within a block; a world in which one block was written. -/
namespace Go.Proofs.YtbcagdjfegobnaaGreat
open Go.RowKit
set_option linter.unusedVariables false

/-- Nothing has turned but the block g. -/
structure Wr (g : Nat) (w w' : World) : Prop where
  os : w'.os = w.os
  tape : w'.tape = w.tape
  output : w'.output = w.output
  size : w'.heap.size = w.heap.size
  other : ∀ q, q ≠ g → w'.heap[q]? = w.heap[q]?
section
variable {g : Nat} {w w' w'' : World}
theorem Wr.refl (g : Nat) (w : World) : Wr g w w := ⟨rfl, rfl, rfl, rfl, fun _ _ => rfl⟩
theorem Wr.trans (h : Wr g w w') (k : Wr g w' w'') : Wr g w w'' := ⟨k.os.trans h.os, k.tape.trans h.tape, k.output.trans h.output, k.size.trans h.size, fun q hq => (k.other q hq).trans (h.other q hq)⟩
theorem Wr.below (h : Wr g w w') {B : Nat} (hB : B ≤ g) : Below B w w' := ⟨h.os, h.tape, h.output, Nat.le_of_eq h.size.symm, fun k hk => h.other k (by omega)⟩
theorem Wr.set (w : World) (g i : Nat) (v : Value) : Wr g w (w.setCell ⟨g, i, none⟩ v) := ⟨rfl, rfl, rfl, by simp [World.setCell], fun q hq => Below.heap_setCell w ⟨g, i, none⟩ v q hq⟩
theorem Wr.row (w : World) (g : Nat) (cs : Array Value) : Wr g w (w.setRow g cs) := ⟨rfl, rfl, rfl, by simp [World.setRow], fun q hq => by simp [World.setRow, Array.getElem?_modify, Ne.symm hq]⟩
theorem Wr.drew (h : Wr g w w') : Wr g w w'.drew := ⟨h.os, h.tape, h.output, h.size, h.other⟩
theorem Wr.cell (h : Wr g w w') {p : Addr} (hp : p.block ≠ g) : w'.cell? p = w.cell? p := World.cell?_of_block (h.other _ hp)
theorem Blk.wr {q : Nat} {t : TypeId} {cs : Array Value} (h : Blk w q t cs) (hw : Wr g w w') (hq : q ≠ g) : Blk w' q t cs := (hw.other q hq).trans h
theorem Rd.wr {size n : Nat} {A : Option Addr} {xs : List Value} (h : Rd w size A n xs) (hw : Wr g w w') (hA : ∀ a, A = some a → a.block ≠ g) : Rd w' size A n xs :=
  ⟨h.1, fun hn => by
    obtain ⟨b, off, e, hc⟩ := h.2 hn
    exact ⟨b, off, e, fun j u hu => (hw.cell (p := ⟨b, off + j, none⟩) (by have h9 := hA _ e; exact h9)).trans (hc j u hu)⟩⟩
theorem own_wr {base : Nat} {e : TypeId} {size n : Nat} {v : Value} {xs : List Value} (h : w.ownsRow base e size v n xs) (hw : Wr g w w') (hv : ∀ k, v.ownBlock = some k → k ≠ g) : w'.ownsRow base e size v n xs := by
  refine ⟨h.1, ?_⟩
  rcases h.2 with h2 | ⟨q, cap, cur, rfl, hq, hh, r⟩
  · exact .inl h2
  · exact .inr ⟨q, cap, cur, rfl, hq, (hw.other q (hv q rfl)).trans hh, r⟩
theorem OwnX.wr {α : Type} {f : α → List Value} {m base : Nat} {E : TypeId} {A : Option Addr} {c : Nat} {xs : List α} (h : OwnX f m w base E A c xs) (hw : Wr g w w') (hA : ∀ a, A = some a → a.block ≠ g) : OwnX f m w' base E A c xs :=
  own_wr h hw fun k hk => by
    rw [slice_own] at hk
    cases A with
    | none => cases hk
    | some a => have e : a.block = k := Option.some.inj hk; subst e; exact hA a rfl
theorem Wr.trans_below (h : Wr g w w') {B : Nat} {w0 : World} (hb : Below B w0 w) (hB : B ≤ g) : Below B w0 w' := hb.trans (h.below hB)
end


section
variable {P : Program} {ops : Array Oper} {rest : List Oper} {o : Oper} {a : Act} {w : World} {K : Act → World → Prop} {Q : Exit → Act → World → Prop}
theorem run_loadVar_cells (ty : TypeId) (b off : Nat) (p : Array Value) (d : TypeDesc) (hu : P.underlying ty = some d) (hd : (match d with | .struct _ | .array _ _ => true | _ => false) = true) (hi : (P.info? ty).map (·.size) = some p.size)
    (hc : ∀ j v, p[j]? = some v → w.cell? ⟨b, off + j, none⟩ = some v) : (loadVar ty ⟨b, off, none⟩).run P w = .ok (.agg p) w := by
  have hl : (loadCells ⟨b, off, none⟩ p.toList.length).run P w = .ok p.toList.toArray w :=
    run_loadCells_list (P := P) w ⟨b, off, none⟩ p.toList (fun j v hv => by rw [add_none]; exact hc j v (by simpa using hv))
  cases hq : P.info? ty with
  | none => simp [hq] at hi
  | some i =>
    have hs : i.size = p.size := by simpa [hq] using hi
    have hagg : (isAgg ty).run P w = .ok true w := by
      unfold isAgg
      rw [Sem.run_bind, run_underlying hu w]
      cases d <;> simp_all
    simp only [Array.length_toList, Array.toArray_toList] at hl
    simp [loadVar, Sem.run_bind, hagg, sizeOf, typeInfo, hq, hs, hl]
/-- A load of a struct whose cells are known, wherever it lies. -/
theorem wp_loadR (ty : TypeId) (x : Operand) (ho : o.op = .load ty x) (b off : Nat) (hx : a.eval x = .pointer (some ⟨b, off, none⟩)) (p : Array Value) (d : TypeDesc)
    (hu : P.underlying ty = some d) (hd : (match d with | .struct _ | .array _ _ => true | _ => false) = true) (hi : (P.info? ty).map (·.size) = some p.size) (hc : ∀ j v, p[j]? = some v → w.cell? ⟨b, off + j, none⟩ = some v)
    (h : K (a.put o.dst (.agg p)) w) : o.wp P a w K Q := by
  unfold Oper.wp execOp
  simp only [ho, hx, Instr.loadAt, Instr.sureAddr, Sem.run_bind, Sem.run_pure, Result.andThen_ok, run_loadVar_cells ty b off p d hu hd hi hc]
  exact h
theorem wpList_loadR (hgd : o.guard = none) (ty : TypeId) (x : Operand) (ho : o.op = .load ty x) (b off : Nat) (hx : a.eval x = .pointer (some ⟨b, off, none⟩)) (p : Array Value) (d : TypeDesc)
    (hu : P.underlying ty = some d) (hd : (match d with | .struct _ | .array _ _ => true | _ => false) = true) (hi : (P.info? ty).map (·.size) = some p.size) (hc : ∀ j v, p[j]? = some v → w.cell? ⟨b, off + j, none⟩ = some v)
    (h : wpList P ops Q rest (a.put o.dst (.agg p)) w) : wpList P ops Q (o :: rest) a w :=
  wpList_plain hgd fun _ hK => wp_loadR ty x ho b off hx p d hu hd hi hc (hK _ _ h)
/-- .. behind a guard that stands. -/
theorem wpList_loadG (hw : Region.wanted o (yielded ops a.tmps) = true) (ty : TypeId) (x : Operand) (ho : o.op = .load ty x) (b off : Nat) (hx : a.eval x = .pointer (some ⟨b, off, none⟩)) (p : Array Value) (d : TypeDesc)
    (hu : P.underlying ty = some d) (hd : (match d with | .struct _ | .array _ _ => true | _ => false) = true) (hi : (P.info? ty).map (·.size) = some p.size) (hc : ∀ j v, p[j]? = some v → w.cell? ⟨b, off + j, none⟩ = some v)
    (h : wpList P ops Q rest (a.put o.dst (.agg p)) w) : wpList P ops Q (o :: rest) a w :=
  wpList_step fun K hK => by
    rw [if_pos hw]
    exact wp_loadR ty x ho b off hx p d hu hd hi hc (hK _ _ h)
/-- .. of a part of a block that is known whole. -/
theorem Blk.part {g : Nat} {t : TypeId} {cs : Array Value} (h : Blk w g t cs) (off : Nat) (p : Array Value) (hp : ∀ j v, p[j]? = some v → cs[off + j]? = some v) : ∀ j v, p[j]? = some v → w.cell? ⟨g, off + j, none⟩ = some v :=
  fun j v hv => by rw [h.cell]; exact hp j v hv
theorem Blk.whole {g : Nat} {t : TypeId} {cs : Array Value} (h : Blk w g t cs) : ∀ j v, cs[j]? = some v → w.cell? ⟨g, 0 + j, none⟩ = some v :=
  fun j v hv => by rw [h.cell, Nat.zero_add]; exact hv

theorem run_storeVar_part (ty : TypeId) (g off : Nat) (t : TypeId) (cs p : Array Value) (hg : w.heap[g]? = some (.cells cs t (0, 0))) (hi : (P.info? ty).map (·.size) = some p.size) (hs : off + p.size ≤ cs.size) (h1 : ∀ v ∈ p.toList, v.oneCell' = true)
    (cs' : Array Value) (hcs : (cs.toList.take off ++ p.toList ++ cs.toList.drop (off + p.size)).toArray = cs') : (storeVar ty ⟨g, off, none⟩ (.agg p)).run P w = .ok () (w.setRow g cs') := by
  subst hcs
  have := run_storeCells_at (P := P) g off t p.toList 0 cs w hg (by simpa using hs) h1
  cases hq : P.info? ty with
  | none => simp [hq] at hi
  | some i =>
    have hs' : p.size = i.size := by simp [hq] at hi; omega
    simp [storeVar, sizeOf, typeInfo, hq, Value.cells, hs'] at this ⊢
    rw [this]
theorem wp_storeP (ty : TypeId) (x y : Operand) (ho : o.op = .store ty x y) (g off : Nat) (hx : a.eval x = .pointer (some ⟨g, off, none⟩)) (p : Array Value) (hy : a.eval y = .agg p)
    (t : TypeId) (cs : Array Value) (hg : Blk w g t cs) (hi : (P.info? ty).map (·.size) = some p.size) (hs : off + p.size ≤ cs.size) (h1 : ∀ v ∈ p.toList, v.oneCell' = true) (cs' : Array Value) (hcs : (cs.toList.take off ++ p.toList ++ cs.toList.drop (off + p.size)).toArray = cs')
    (h : ∀ w', Blk w' g t cs' → Wr g w w' → K (a.put o.dst undef) w') : o.wp P a w K Q := by
  unfold Oper.wp execOp
  simp only [ho, hx, hy, Instr.storeAt, Instr.sureAddr, Sem.run_bind, Sem.run_pure, Result.andThen_ok, run_storeVar_part ty g off t cs p hg hi hs h1 cs' hcs]
  exact h _ (setRow_heap w g cs cs' t (0, 0) hg) (Wr.row w g cs')
/-- A store of a struct into a block that is known whole. -/
theorem wpList_storeP (hgd : o.guard = none) (ty : TypeId) (x y : Operand) (ho : o.op = .store ty x y) (g off : Nat) (hx : a.eval x = .pointer (some ⟨g, off, none⟩)) (p : Array Value) (hy : a.eval y = .agg p)
    (t : TypeId) (cs : Array Value) (hg : Blk w g t cs) (hi : (P.info? ty).map (·.size) = some p.size) (hs : off + p.size ≤ cs.size) (h1 : ∀ v ∈ p.toList, v.oneCell' = true) (cs' : Array Value) (hcs : (cs.toList.take off ++ p.toList ++ cs.toList.drop (off + p.size)).toArray = cs')
    (h : ∀ w', Blk w' g t cs' → Wr g w w' → wpList P ops Q rest (a.put o.dst undef) w') : wpList P ops Q (o :: rest) a w :=
  wpList_plain hgd fun _ hK => wp_storeP ty x y ho g off hx p hy t cs hg hi hs h1 cs' hcs fun w' hb hw => hK _ _ (h w' hb hw)
end
/-- A whole block is written anew. -/
theorem splice_all (cs p : Array Value) (h : cs.size = p.size) : (cs.toList.take 0 ++ p.toList ++ cs.toList.drop (0 + p.size)).toArray = p := by
  rw [List.take_zero, List.nil_append, Nat.zero_add, List.drop_of_length_le (by simp [h])]; simp
section
variable {P : Program} {fn : Func} {p q r s : Tmp} {ty : TypeId} (tmps : Array Value) (w : World) (g : Nat) (t : TypeId) (cs : Array Value) (d : TypeDesc)
/-- Results that lie in a block: a struct alone, or with values behind it. -/
theorem results_c1 (h : fn.results = #[.cell p ty]) (hp : tmps.getD p undef = .pointer (some ⟨g, 0, none⟩)) (hg : Blk w g t cs) (hu : P.underlying ty = some d) (hd : (match d with | .struct _ | .array _ _ => true | _ => false) = true) (hi : (P.info? ty).map (·.size) = some cs.size) :
    (results fn tmps).run P w = .ok (.agg cs) w := by
  have hp' : tmps[p]?.getD undef = .pointer (some ⟨g, 0, none⟩) := by simpa using hp
  simp [results, h, hp', asAddr, run_loadVar_cells (w := w) ty g 0 cs d hu hd hi hg.whole]
theorem results_c2 (h : fn.results = #[.cell p ty, .tmp q]) (hp : tmps.getD p undef = .pointer (some ⟨g, 0, none⟩)) (hg : Blk w g t cs) (hu : P.underlying ty = some d) (hd : (match d with | .struct _ | .array _ _ => true | _ => false) = true) (hi : (P.info? ty).map (·.size) = some cs.size) {x : Value} (hx : tmps.getD q undef = x) :
    (results fn tmps).run P w = .ok (.tuple #[.agg cs, x]) w := by
  have hp' : tmps[p]?.getD undef = .pointer (some ⟨g, 0, none⟩) := by simpa using hp
  have hx' : tmps[q]?.getD undef = x := by simpa using hx
  simp [results, h, hp', hx', asAddr, run_loadVar_cells (w := w) ty g 0 cs d hu hd hi hg.whole]
theorem results_c3 (h : fn.results = #[.cell p ty, .tmp q, .tmp r]) (hp : tmps.getD p undef = .pointer (some ⟨g, 0, none⟩)) (hg : Blk w g t cs) (hu : P.underlying ty = some d) (hd : (match d with | .struct _ | .array _ _ => true | _ => false) = true) (hi : (P.info? ty).map (·.size) = some cs.size) {x y : Value} (hx : tmps.getD q undef = x) (hy : tmps.getD r undef = y) :
    (results fn tmps).run P w = .ok (.tuple #[.agg cs, x, y]) w := by
  have hp' : tmps[p]?.getD undef = .pointer (some ⟨g, 0, none⟩) := by simpa using hp
  have hx' : tmps[q]?.getD undef = x := by simpa using hx
  have hy' : tmps[r]?.getD undef = y := by simpa using hy
  simp [results, h, hp', hx', hy', asAddr, run_loadVar_cells (w := w) ty g 0 cs d hu hd hi hg.whole]
theorem results_c4 (h : fn.results = #[.cell p ty, .tmp q, .tmp r, .tmp s]) (hp : tmps.getD p undef = .pointer (some ⟨g, 0, none⟩)) (hg : Blk w g t cs) (hu : P.underlying ty = some d) (hd : (match d with | .struct _ | .array _ _ => true | _ => false) = true) (hi : (P.info? ty).map (·.size) = some cs.size) {x y z : Value} (hx : tmps.getD q undef = x) (hy : tmps.getD r undef = y) (hz : tmps.getD s undef = z) :
    (results fn tmps).run P w = .ok (.tuple #[.agg cs, x, y, z]) w := by
  have hp' : tmps[p]?.getD undef = .pointer (some ⟨g, 0, none⟩) := by simpa using hp
  have hx' : tmps[q]?.getD undef = x := by simpa using hx
  have hy' : tmps[r]?.getD undef = y := by simpa using hy
  have hz' : tmps[s]?.getD undef = z := by simpa using hz
  simp [results, h, hp', hx', hy', hz', asAddr, run_loadVar_cells (w := w) ty g 0 cs d hu hd hi hg.whole]
end
end Go.Proofs.YtbcagdjfegobnaaGreat
/- What a block that is known whole says of its cells. -/
namespace Go.Proofs.YtbcagdjfegobnaaGreat
open Go.RowKit
set_option linter.unusedVariables false

theorem Blk.zs {w : World} {g : Nat} {t : TypeId} {cs : Array Value} (h : Blk w g t cs) : ∀ i, w.frozen? ⟨g, i, none⟩ = false := fun i => h.frozen i
theorem Blk.c1 {w : World} {g : Nat} {t : TypeId} {x0 : Value} (h : Blk w g t #[x0]) : g < w.heap.size ∧ w.cell? ⟨g, 0, none⟩ = some x0 :=
  ⟨h.lt, by rw [h.cell]; rfl⟩
theorem Blk.c2 {w : World} {g : Nat} {t : TypeId} {x0 x1 : Value} (h : Blk w g t #[x0, x1]) : g < w.heap.size ∧ w.cell? ⟨g, 0, none⟩ = some x0 ∧ w.cell? ⟨g, 1, none⟩ = some x1 :=
  ⟨h.lt, by rw [h.cell]; rfl, by rw [h.cell]; rfl⟩
theorem Blk.c3 {w : World} {g : Nat} {t : TypeId} {x0 x1 x2 : Value} (h : Blk w g t #[x0, x1, x2]) : g < w.heap.size ∧ w.cell? ⟨g, 0, none⟩ = some x0 ∧ w.cell? ⟨g, 1, none⟩ = some x1 ∧ w.cell? ⟨g, 2, none⟩ = some x2 :=
  ⟨h.lt, by rw [h.cell]; rfl, by rw [h.cell]; rfl, by rw [h.cell]; rfl⟩
theorem Blk.c4 {w : World} {g : Nat} {t : TypeId} {x0 x1 x2 x3 : Value} (h : Blk w g t #[x0, x1, x2, x3]) : g < w.heap.size ∧ w.cell? ⟨g, 0, none⟩ = some x0 ∧ w.cell? ⟨g, 1, none⟩ = some x1 ∧ w.cell? ⟨g, 2, none⟩ = some x2 ∧ w.cell? ⟨g, 3, none⟩ = some x3 :=
  ⟨h.lt, by rw [h.cell]; rfl, by rw [h.cell]; rfl, by rw [h.cell]; rfl, by rw [h.cell]; rfl⟩
theorem Blk.c5 {w : World} {g : Nat} {t : TypeId} {x0 x1 x2 x3 x4 : Value} (h : Blk w g t #[x0, x1, x2, x3, x4]) : g < w.heap.size ∧ w.cell? ⟨g, 0, none⟩ = some x0 ∧ w.cell? ⟨g, 1, none⟩ = some x1 ∧ w.cell? ⟨g, 2, none⟩ = some x2 ∧ w.cell? ⟨g, 3, none⟩ = some x3 ∧ w.cell? ⟨g, 4, none⟩ = some x4 :=
  ⟨h.lt, by rw [h.cell]; rfl, by rw [h.cell]; rfl, by rw [h.cell]; rfl, by rw [h.cell]; rfl, by rw [h.cell]; rfl⟩
theorem Blk.c6 {w : World} {g : Nat} {t : TypeId} {x0 x1 x2 x3 x4 x5 : Value} (h : Blk w g t #[x0, x1, x2, x3, x4, x5]) : g < w.heap.size ∧ w.cell? ⟨g, 0, none⟩ = some x0 ∧ w.cell? ⟨g, 1, none⟩ = some x1 ∧ w.cell? ⟨g, 2, none⟩ = some x2 ∧ w.cell? ⟨g, 3, none⟩ = some x3 ∧ w.cell? ⟨g, 4, none⟩ = some x4 ∧ w.cell? ⟨g, 5, none⟩ = some x5 :=
  ⟨h.lt, by rw [h.cell]; rfl, by rw [h.cell]; rfl, by rw [h.cell]; rfl, by rw [h.cell]; rfl, by rw [h.cell]; rfl, by rw [h.cell]; rfl⟩
theorem Blk.c7 {w : World} {g : Nat} {t : TypeId} {x0 x1 x2 x3 x4 x5 x6 : Value} (h : Blk w g t #[x0, x1, x2, x3, x4, x5, x6]) : g < w.heap.size ∧ w.cell? ⟨g, 0, none⟩ = some x0 ∧ w.cell? ⟨g, 1, none⟩ = some x1 ∧ w.cell? ⟨g, 2, none⟩ = some x2 ∧ w.cell? ⟨g, 3, none⟩ = some x3 ∧ w.cell? ⟨g, 4, none⟩ = some x4 ∧ w.cell? ⟨g, 5, none⟩ = some x5 ∧ w.cell? ⟨g, 6, none⟩ = some x6 :=
  ⟨h.lt, by rw [h.cell]; rfl, by rw [h.cell]; rfl, by rw [h.cell]; rfl, by rw [h.cell]; rfl, by rw [h.cell]; rfl, by rw [h.cell]; rfl, by rw [h.cell]; rfl⟩
theorem Blk.c8 {w : World} {g : Nat} {t : TypeId} {x0 x1 x2 x3 x4 x5 x6 x7 : Value} (h : Blk w g t #[x0, x1, x2, x3, x4, x5, x6, x7]) : g < w.heap.size ∧ w.cell? ⟨g, 0, none⟩ = some x0 ∧ w.cell? ⟨g, 1, none⟩ = some x1 ∧ w.cell? ⟨g, 2, none⟩ = some x2 ∧ w.cell? ⟨g, 3, none⟩ = some x3 ∧ w.cell? ⟨g, 4, none⟩ = some x4 ∧ w.cell? ⟨g, 5, none⟩ = some x5 ∧ w.cell? ⟨g, 6, none⟩ = some x6 ∧ w.cell? ⟨g, 7, none⟩ = some x7 :=
  ⟨h.lt, by rw [h.cell]; rfl, by rw [h.cell]; rfl, by rw [h.cell]; rfl, by rw [h.cell]; rfl, by rw [h.cell]; rfl, by rw [h.cell]; rfl, by rw [h.cell]; rfl, by rw [h.cell]; rfl⟩
theorem Blk.c18 {w : World} {g : Nat} {t : TypeId} {x0 x1 x2 x3 x4 x5 x6 x7 x8 x9 x10 x11 x12 x13 x14 x15 x16 x17 : Value} (h : Blk w g t #[x0, x1, x2, x3, x4, x5, x6, x7, x8, x9, x10, x11, x12, x13, x14, x15, x16, x17]) : g < w.heap.size ∧ w.cell? ⟨g, 0, none⟩ = some x0 ∧ w.cell? ⟨g, 1, none⟩ = some x1 ∧ w.cell? ⟨g, 2, none⟩ = some x2 ∧ w.cell? ⟨g, 3, none⟩ = some x3 ∧ w.cell? ⟨g, 4, none⟩ = some x4 ∧ w.cell? ⟨g, 5, none⟩ = some x5 ∧ w.cell? ⟨g, 6, none⟩ = some x6 ∧ w.cell? ⟨g, 7, none⟩ = some x7 ∧ w.cell? ⟨g, 8, none⟩ = some x8 ∧ w.cell? ⟨g, 9, none⟩ = some x9 ∧ w.cell? ⟨g, 10, none⟩ = some x10 ∧ w.cell? ⟨g, 11, none⟩ = some x11 ∧ w.cell? ⟨g, 12, none⟩ = some x12 ∧ w.cell? ⟨g, 13, none⟩ = some x13 ∧ w.cell? ⟨g, 14, none⟩ = some x14 ∧ w.cell? ⟨g, 15, none⟩ = some x15 ∧ w.cell? ⟨g, 16, none⟩ = some x16 ∧ w.cell? ⟨g, 17, none⟩ = some x17 :=
  ⟨h.lt, by rw [h.cell]; rfl, by rw [h.cell]; rfl, by rw [h.cell]; rfl, by rw [h.cell]; rfl, by rw [h.cell]; rfl, by rw [h.cell]; rfl, by rw [h.cell]; rfl, by rw [h.cell]; rfl, by rw [h.cell]; rfl, by rw [h.cell]; rfl, by rw [h.cell]; rfl, by rw [h.cell]; rfl, by rw [h.cell]; rfl, by rw [h.cell]; rfl, by rw [h.cell]; rfl, by rw [h.cell]; rfl, by rw [h.cell]; rfl, by rw [h.cell]; rfl⟩
theorem Blk.c24 {w : World} {g : Nat} {t : TypeId} {x0 x1 x2 x3 x4 x5 x6 x7 x8 x9 x10 x11 x12 x13 x14 x15 x16 x17 x18 x19 x20 x21 x22 x23 : Value} (h : Blk w g t #[x0, x1, x2, x3, x4, x5, x6, x7, x8, x9, x10, x11, x12, x13, x14, x15, x16, x17, x18, x19, x20, x21, x22, x23]) : g < w.heap.size ∧ w.cell? ⟨g, 0, none⟩ = some x0 ∧ w.cell? ⟨g, 1, none⟩ = some x1 ∧ w.cell? ⟨g, 2, none⟩ = some x2 ∧ w.cell? ⟨g, 3, none⟩ = some x3 ∧ w.cell? ⟨g, 4, none⟩ = some x4 ∧ w.cell? ⟨g, 5, none⟩ = some x5 ∧ w.cell? ⟨g, 6, none⟩ = some x6 ∧ w.cell? ⟨g, 7, none⟩ = some x7 ∧ w.cell? ⟨g, 8, none⟩ = some x8 ∧ w.cell? ⟨g, 9, none⟩ = some x9 ∧ w.cell? ⟨g, 10, none⟩ = some x10 ∧ w.cell? ⟨g, 11, none⟩ = some x11 ∧ w.cell? ⟨g, 12, none⟩ = some x12 ∧ w.cell? ⟨g, 13, none⟩ = some x13 ∧ w.cell? ⟨g, 14, none⟩ = some x14 ∧ w.cell? ⟨g, 15, none⟩ = some x15 ∧ w.cell? ⟨g, 16, none⟩ = some x16 ∧ w.cell? ⟨g, 17, none⟩ = some x17 ∧ w.cell? ⟨g, 18, none⟩ = some x18 ∧ w.cell? ⟨g, 19, none⟩ = some x19 ∧ w.cell? ⟨g, 20, none⟩ = some x20 ∧ w.cell? ⟨g, 21, none⟩ = some x21 ∧ w.cell? ⟨g, 22, none⟩ = some x22 ∧ w.cell? ⟨g, 23, none⟩ = some x23 :=
  ⟨h.lt, by rw [h.cell]; rfl, by rw [h.cell]; rfl, by rw [h.cell]; rfl, by rw [h.cell]; rfl, by rw [h.cell]; rfl, by rw [h.cell]; rfl, by rw [h.cell]; rfl, by rw [h.cell]; rfl, by rw [h.cell]; rfl, by rw [h.cell]; rfl, by rw [h.cell]; rfl, by rw [h.cell]; rfl, by rw [h.cell]; rfl, by rw [h.cell]; rfl, by rw [h.cell]; rfl, by rw [h.cell]; rfl, by rw [h.cell]; rfl, by rw [h.cell]; rfl, by rw [h.cell]; rfl, by rw [h.cell]; rfl, by rw [h.cell]; rfl, by rw [h.cell]; rfl, by rw [h.cell]; rfl, by rw [h.cell]; rfl⟩
theorem u8_infoQ : (Tryz.prog.info? 5).map (fun i => (i.zero, i.size, i.bytes)) = some (some (.int .u8 0), 1, 1) := by kernel_rfl
theorem Blk.newF {w : World} {t : TypeId} {cs : Array Value} {H : Nat} (hH : w.heap.size = H) : Blk (w.alloc (.cells cs t)) H t cs := by subst hH; exact Blk.new _ _ _
end Go.Proofs.YtbcagdjfegobnaaGreat
/- A connection that has just begun: its cells; the contracts of conn.Begin, Check. -/
namespace Go.Proofs.YtbcagdjfegobnaaGreat
open Go.ChangeShapes Go.WideShapes Go.ChangeAt Go.RowKit
set_option linter.unusedVariables false

/-- Its cells: the ranges heard of and the numbers left out may lie in any empty slice. -/
def bg0 (cl : Bool) (A : Option Addr) (c : Nat) (B : Option Addr) (d : Nat) (last ids grant : Int) : Array Value :=
  #[.bool cl, .int .i64 0, .slice none 0 0, .int .i64 (-1), .slice A 0 c, .slice B 0 d, .int .i64 400, .int .i64 0, .int .i64 0, .int .i64 (-1), .int .i64 700, .int .i64 0, .int .i64 700, .int .i64 0,
    .int .i64 ids, .int .i64 grant, .int .i64 0, .slice none 0 0, .bool false, .slice none 0 0, .int .i64 last, .int .i64 0, .bool false, .int .i64 0]

theorem bg0_one (cl : Bool) (A : Option Addr) (c : Nat) (B : Option Addr) (d : Nat) (last ids grant : Int) : ∀ u ∈ (bg0 cl A c B d last ids grant).toList, u.oneCell' = true := by
  intro u hu
  simp only [bg0, List.mem_cons, List.not_mem_nil, or_false] at hu
  rcases hu with rfl | rfl | rfl | rfl | rfl | rfl | rfl | rfl | rfl | rfl | rfl | rfl | rfl | rfl | rfl | rfl | rfl | rfl | rfl | rfl | rfl | rfl | rfl | rfl <;> rfl
def bgc (cl : Bool) (A : Option Addr) (c : Nat) (B : Option Addr) (d : Nat) (last : Int) : Array Value := bg0 cl A c B d last (if cl then 4 else 0) (if cl then 0 else 4)

theorem spBegin_begun (w : World) : Calls Tryz.prog 107 #[] w fun e w' => e = .returned (.agg #[.int .i64 0, .slice none 0 0, .int .i64 (-1), .slice none 0 0, .slice none 0 0]) ∧ Below w.heap.size w w' := by
  go_enter Tryz.func107, Tryz.ntmps107
  go_wp2_with fail
  refine bodyPost_ret (v := .agg #[.int .i64 0, .slice none 0 0, .int .i64 (-1), .slice none 0 0, .slice none 0 0]) ?_ rfl ⟨rfl, ?_⟩
  · simp [results, Tryz.results107, go_sem] <;> rfl
  · exact (Below.refl _ _).alloc (Nat.le_refl _) _

set_option maxRecDepth 100000 in
set_option maxHeartbeats 4000000 in
theorem connBegin_ok (cl : Bool) (now : Int) (h0 : 0 ≤ now) (h1 : now ≤ 1099511627776) (w : World) :
    Calls Tryz.prog 69 #[.bool cl, .int .i64 now] w fun e w' => e = .returned (.tuple #[.agg (bgc cl none 0 none 0 now), .int .i64 0]) ∧ Below w.heap.size w w' := by
  go_enter Tryz.func69, Tryz.ntmps69
  go_upto_region 1 with (fail)
  refine wp_world (fun w' => (∃ cs, cs.size = 24 ∧ Blk w' w.heap.size 43 cs) ∧ Below w.heap.size w w') ⟨⟨_, rfl, Blk.new _ _ _⟩, (Below.refl _ _).alloc (Nat.le_refl _) _⟩ ?_
  rintro w1 ⟨⟨z, hz, hZ⟩, hb1⟩
  go_wp2_with fail
  refine (spBegin_begun _).mono ?_
  rintro e w2 ⟨rfl, hb2⟩
  have hZ := hZ.carry hb2
  have hb := hb1.trans (hb2.mono hb1.size)
  clear hb1 hb2
  go_wp2_with fail
  refine (paceBegin_any _).mono ?_
  rintro e w3 ⟨rfl, hb3⟩
  have hZ := hZ.carry hb3
  have hb := hb.trans (hb3.mono hb.size)
  have hs3 := hb.size
  have hz3 := hZ.lt
  clear hb3
  go_upto_region 4 with (first
    | (refine wpList_storeP rfl 43 (.tmp 6) (.tmp 20) rfl w3.heap.size 0 rfl (bg0 cl none 0 none 0 now 0 0) rfl 43 _ (Blk.new _ _ _) (by kernel_rfl) (by simp [bg0]) (bg0_one _ _ _ _ _ _ _ _) _ (splice_all _ _ (by simp [bg0])) ?_
       intro w4 hB4 hw4
       have hZ4 := (hZ.alloc _).wr hw4 (by omega)
       have hb4 := hw4.trans_below (hb.alloc (by omega) _) (by omega)
       have s4 : w3.heap.size < w4.heap.size := hB4.lt))
  clear hw4
  unfold bg0 at hB4
  have HZ4 := Lib.hid hZ4
  have HB4 := Lib.hid hb4
  clear hZ hb hZ4 hb4 hs3
  obtain ⟨g4, hg4⟩ : ∃ q, w3.heap.size = q := ⟨_, rfl⟩
  rw [hg4] at hB4 s4 ⊢
  have hne : w.heap.size ≠ g4 := by omega
  have hlt : w.heap.size < g4 := by omega
  clear hg4 hz3
  cases cl
  · have F4 := hB4.c24
    have z4 := hB4.zs
    go_upto_region 7 with (fail)
    refine wp_world (fun w' => Blk w' g4 43 (bg0 false none 0 none 0 now 0 4) ∧ Blk w' w.heap.size 43 z ∧ Below w.heap.size w w') ⟨(hB4.set_ 15 _).as (by rfl), HZ4.out.far hne _, by (repeat (first | with_reducible exact HB4.out | with_reducible refine Below.drew ?_ | (with_reducible refine Below.set4 ?_ ?side _ _ _ _; case side => (first | omega | (simp; omega) | (simp; done))) | (with_reducible refine Below.setCell ?_ ?side _; case side => (first | omega | (simp; omega) | (simp; done))) | (with_reducible refine Below.alloc ?_ ?side _; case side => (first | omega | (simp; omega) | (simp; done)))))⟩ ?_
    clear F4 z4 hB4 HZ4 HB4 s4
    rintro w5 ⟨hB5, hZ5, hb5⟩
    have h5 := hB5.lt
    go_wp2_with (first
      | refine wpList_loadR rfl 43 (.tmp 6) rfl g4 0 rfl (bg0 false none 0 none 0 now 0 4) _ Tryz.underlying43 rfl (by kernel_rfl) hB5.whole ?_
      | (refine wpList_storeP rfl 43 (.tmp 4) (.tmp 24) rfl w.heap.size 0 rfl (bg0 false none 0 none 0 now 0 4) rfl 43 _ hZ5 (by kernel_rfl) (by simp [bg0, hz]) (bg0_one _ _ _ _ _ _ _ _) _ (splice_all _ _ (by simp [bg0, hz])) ?_
         intro w6 hB6 hw6))
    exact bodyPost_ret (results_c2 _ _ w.heap.size _ (bg0 false none 0 none 0 now 0 4) _ Tryz.results69 rfl hB6 Tryz.underlying43 rfl (by kernel_rfl) rfl) rfl ⟨rfl, hw6.trans_below hb5 (Nat.le_refl _)⟩
  · have F4 := hB4.c24
    have z4 := hB4.zs
    go_upto_region 7 with (fail)
    refine wp_world (fun w' => Blk w' g4 43 (bg0 true none 0 none 0 now 4 0) ∧ Blk w' w.heap.size 43 z ∧ Below w.heap.size w w') ⟨(hB4.set_ 14 _).as (by rfl), HZ4.out.far hne _, by (repeat (first | with_reducible exact HB4.out | with_reducible refine Below.drew ?_ | (with_reducible refine Below.set4 ?_ ?side _ _ _ _; case side => (first | omega | (simp; omega) | (simp; done))) | (with_reducible refine Below.setCell ?_ ?side _; case side => (first | omega | (simp; omega) | (simp; done))) | (with_reducible refine Below.alloc ?_ ?side _; case side => (first | omega | (simp; omega) | (simp; done)))))⟩ ?_
    clear F4 z4 hB4 HZ4 HB4 s4
    rintro w5 ⟨hB5, hZ5, hb5⟩
    have h5 := hB5.lt
    go_wp2_with (first
      | refine wpList_loadR rfl 43 (.tmp 6) rfl g4 0 rfl (bg0 true none 0 none 0 now 4 0) _ Tryz.underlying43 rfl (by kernel_rfl) hB5.whole ?_
      | (refine wpList_storeP rfl 43 (.tmp 4) (.tmp 24) rfl w.heap.size 0 rfl (bg0 true none 0 none 0 now 4 0) rfl 43 _ hZ5 (by kernel_rfl) (by simp [bg0, hz]) (bg0_one _ _ _ _ _ _ _ _) _ (splice_all _ _ (by simp [bg0, hz])) ?_
         intro w6 hB6 hw6))
    exact bodyPost_ret (results_c2 _ _ w.heap.size _ (bg0 true none 0 none 0 now 4 0) _ Tryz.results69 rfl hB6 Tryz.underlying43 rfl (by kernel_rfl) rfl) rfl ⟨rfl, hw6.trans_below hb5 (Nat.le_refl _)⟩

theorem spCheck_begun (A : Option Addr) (c : Nat) (B : Option Addr) (d : Nat) (hc : c ≤ 9223372036854775807) (hd : d ≤ 9223372036854775807) (w : World) :
    Calls Tryz.prog 79 #[.agg #[.int .i64 0, .slice none 0 0, .int .i64 (-1), .slice A 0 c, .slice B 0 d]] w fun e w' => e = .returned (.int .i64 0) ∧ Below w.heap.size w w' :=
  spCheck_ok 0 none 0 0 (-1) A 0 c B 0 d [] [] [] rfl rfl rfl (Nat.le_refl _) (by decide) (Nat.zero_le _) hc (Nat.zero_le _) hd
    ⟨by decide, by decide, by decide, by decide, by decide, by decide, by decide, trivial, ⟨List.Pairwise.nil, fun p hp => absurd hp List.not_mem_nil⟩, ⟨List.Pairwise.nil, fun p hp => absurd hp List.not_mem_nil⟩, rfl⟩ w Rd.nil Rd.nil Rd.nil

set_option maxRecDepth 100000 in
set_option maxHeartbeats 4000000 in
theorem connCheck_bg0 (cl : Bool) (A : Option Addr) (c : Nat) (B : Option Addr) (d : Nat) (last ids grant : Int) (hig : ids = 4 ∧ grant = 0 ∨ ids = 0 ∧ grant = 4) (hc : c ≤ 9223372036854775807) (hd : d ≤ 9223372036854775807) (h0 : 0 ≤ last) (h1 : last ≤ 1099511627776) (w : World) :
    Calls Tryz.prog 49 #[.agg (bg0 cl A c B d last ids grant)] w fun e w' => e = .returned (.int .i64 0) ∧ Below w.heap.size w w' := by
  go_enter Tryz.func49, Tryz.ntmps49
  go_upto_region 1 with (fail)
  refine wp_world (fun w' => Blk w' w.heap.size 43 (bg0 cl A c B d last ids grant) ∧ Below w.heap.size w w') ⟨Blk.new _ _ _, (Below.refl _ _).alloc (Nat.le_refl _) _⟩ ?_
  rintro w1 ⟨hS, hb⟩
  have HF : ∀ W, Blk W w.heap.size 43 (bg0 cl A c B d last ids grant) → _ := fun W h => Blk.c24 (by unfold bg0 at h; exact h)
  have HF := Lib.hid HF
  have F := HF.out _ hS
  go_wp2_with fail
  refine (spCheck_begun A c B d hc hd _).mono ?_
  rintro e w2 ⟨rfl, hb2⟩
  have hS := hS.carry hb2
  have hb := hb.trans (hb2.mono hb.size)
  clear F hb2
  have F := HF.out _ hS
  go_wp2_with fail
  refine (paceCheck_ok 400 0 0 (-1) (by decide) (by decide) (by decide) (by decide) (by decide) (by decide) (by decide) (by decide) _).mono ?_
  rintro e w3 ⟨rfl, hb3⟩
  have hS := hS.carry hb3
  have hb := hb.trans (hb3.mono hb.size)
  clear F hb3
  have F := HF.out _ hS
  go_wp2_with fail
  refine (flowCheck_ok 700 0 (by decide) (by decide) (by decide) _).mono ?_
  rintro e w4 ⟨rfl, hb4⟩
  have hS := hS.carry hb4
  have hb := hb.trans (hb4.mono hb.size)
  clear F hb4
  have F := HF.out _ hS
  go_wp2_with fail
  refine (flowCheck_ok 700 0 (by decide) (by decide) (by decide) _).mono ?_
  rintro e w5 ⟨rfl, hb5⟩
  have hS := hS.carry hb5
  have hb := hb.trans (hb5.mono hb.size)
  clear F hb5
  have F := HF.out _ hS
  rcases hig with ⟨rfl, rfl⟩ | ⟨rfl, rfl⟩
  all_goals
    go_wp2_with fail
    refine wp_loop_rounds 1 ?_
    rw [rounds_succ]
    go_wp2_with fail
    refine wp_loop_rounds 1 ?_
    rw [rounds_succ]
    go_wp2_with fail
    refine wp_loop_rounds 1 ?_
    rw [rounds_succ]
    go_wp2_with fail
    go_ret
    exact ⟨rfl, hb⟩

end Go.Proofs.YtbcagdjfegobnaaGreat
