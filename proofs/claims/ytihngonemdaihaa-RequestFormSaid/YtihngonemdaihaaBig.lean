/- Laws for great structs: one load, one store of all their cells, whole or within a block; a world in which one block was written. -/
import Derived.Test.YtihngonemdaihaaOwn
import Derived.Test.YtihngonemdaihaaAppL
import Derived.Test.YtihngonemdaihaaPickWalk
import Derived.Laws.CopyRow
import Derived.Laws.Rows
namespace Go.Proofs.Ytihngonemdaihaa
open Go.RowKit
set_option linter.unusedVariables false

/-- Nothing has turned but the block g. -/
structure Wr (g : Nat) (w w' : World) : Prop where
  os : w'.os = w.os
  tape : w'.tape = w.tape
  output : w'.output = w.output
  size : w'.heap.size = w.heap.size
  other : ∀ q, q ≠ g → w'.heap[q]? = w.heap[q]?
section
variable {g : Nat} {w w' w'' : World}
theorem Wr.refl (g : Nat) (w : World) : Wr g w w := ⟨rfl, rfl, rfl, rfl, fun _ _ => rfl⟩
theorem Wr.trans (h : Wr g w w') (k : Wr g w' w'') : Wr g w w'' := ⟨k.os.trans h.os, k.tape.trans h.tape, k.output.trans h.output, k.size.trans h.size, fun q hq => (k.other q hq).trans (h.other q hq)⟩
theorem Wr.below (h : Wr g w w') {B : Nat} (hB : B ≤ g) : Below B w w' := ⟨h.os, h.tape, h.output, Nat.le_of_eq h.size.symm, fun k hk => h.other k (by omega)⟩
theorem Wr.set (w : World) (g i : Nat) (v : Value) : Wr g w (w.setCell ⟨g, i, none⟩ v) := ⟨rfl, rfl, rfl, by simp [World.setCell], fun q hq => Below.heap_setCell w ⟨g, i, none⟩ v q hq⟩
theorem Wr.row (w : World) (g : Nat) (cs : Array Value) : Wr g w (w.setRow g cs) := ⟨rfl, rfl, rfl, by simp [World.setRow], fun q hq => by simp [World.setRow, Array.getElem?_modify, Ne.symm hq]⟩
theorem Wr.drew (h : Wr g w w') : Wr g w w'.drew := ⟨h.os, h.tape, h.output, h.size, h.other⟩
theorem Wr.cell (h : Wr g w w') {p : Addr} (hp : p.block ≠ g) : w'.cell? p = w.cell? p := World.cell?_of_block (h.other _ hp)
theorem Blk.wr {q : Nat} {t : TypeId} {cs : Array Value} (h : Blk w q t cs) (hw : Wr g w w') (hq : q ≠ g) : Blk w' q t cs := (hw.other q hq).trans h
theorem Rd.wr {size n : Nat} {A : Option Addr} {xs : List Value} (h : Rd w size A n xs) (hw : Wr g w w') (hA : ∀ a, A = some a → a.block ≠ g) : Rd w' size A n xs :=
  ⟨h.1, fun hn => by
    obtain ⟨b, off, e, hc⟩ := h.2 hn
    exact ⟨b, off, e, fun j u hu => (hw.cell (p := ⟨b, off + j, none⟩) (by have h9 := hA _ e; exact h9)).trans (hc j u hu)⟩⟩
theorem own_wr {base : Nat} {e : TypeId} {size n : Nat} {v : Value} {xs : List Value} (h : w.ownsRow base e size v n xs) (hw : Wr g w w') (hv : ∀ k, v.ownBlock = some k → k ≠ g) : w'.ownsRow base e size v n xs := by
  refine ⟨h.1, ?_⟩
  rcases h.2 with h2 | ⟨q, cap, cur, rfl, hq, hh, r⟩
  · exact .inl h2
  · exact .inr ⟨q, cap, cur, rfl, hq, (hw.other q (hv q rfl)).trans hh, r⟩
theorem OwnX.wr {α : Type} {f : α → List Value} {m base : Nat} {E : TypeId} {A : Option Addr} {c : Nat} {xs : List α} (h : OwnX f m w base E A c xs) (hw : Wr g w w') (hA : ∀ a, A = some a → a.block ≠ g) : OwnX f m w' base E A c xs :=
  own_wr h hw fun k hk => by
    rw [slice_own] at hk
    cases A with
    | none => cases hk
    | some a => have e : a.block = k := Option.some.inj hk; subst e; exact hA a rfl
theorem Wr.trans_below (h : Wr g w w') {B : Nat} {w0 : World} (hb : Below B w0 w) (hB : B ≤ g) : Below B w0 w' := hb.trans (h.below hB)
end

theorem add_noneB (b off j : Nat) : (⟨b, off, none⟩ : Addr).add j = ⟨b, off + j, none⟩ := add_none b off j

section
variable {P : Program} {ops : Array Oper} {rest : List Oper} {o : Oper} {a : Act} {w : World} {K : Act → World → Prop} {Q : Exit → Act → World → Prop}
theorem run_loadVar_cells (ty : TypeId) (b off : Nat) (p : Array Value) (d : TypeDesc) (hu : P.underlying ty = some d) (hd : (match d with | .struct _ | .array _ _ => true | _ => false) = true) (hi : (P.info? ty).map (·.size) = some p.size)
    (hc : ∀ j v, p[j]? = some v → w.cell? ⟨b, off + j, none⟩ = some v) : (loadVar ty ⟨b, off, none⟩).run P w = .ok (.agg p) w := by
  have hl : (loadCells ⟨b, off, none⟩ p.toList.length).run P w = .ok p.toList.toArray w :=
    run_loadCells_list (P := P) w ⟨b, off, none⟩ p.toList (fun j v hv => by rw [add_none]; exact hc j v (by simpa using hv))
  cases hq : P.info? ty with
  | none => simp [hq] at hi
  | some i =>
    have hs : i.size = p.size := by simpa [hq] using hi
    have hagg : (isAgg ty).run P w = .ok true w := by
      unfold isAgg
      rw [Sem.run_bind, run_underlying hu w]
      cases d <;> simp_all
    simp only [Array.length_toList, Array.toArray_toList] at hl
    simp [loadVar, Sem.run_bind, hagg, sizeOf, typeInfo, hq, hs, hl]
/-- A load of a struct whose cells are known, wherever it lies. -/
theorem wp_loadR (ty : TypeId) (x : Operand) (ho : o.op = .load ty x) (b off : Nat) (hx : a.eval x = .pointer (some ⟨b, off, none⟩)) (p : Array Value) (d : TypeDesc)
    (hu : P.underlying ty = some d) (hd : (match d with | .struct _ | .array _ _ => true | _ => false) = true) (hi : (P.info? ty).map (·.size) = some p.size) (hc : ∀ j v, p[j]? = some v → w.cell? ⟨b, off + j, none⟩ = some v)
    (h : K (a.put o.dst (.agg p)) w) : o.wp P a w K Q := by
  unfold Oper.wp execOp
  simp only [ho, hx, Instr.loadAt, Instr.sureAddr, Sem.run_bind, Sem.run_pure, Result.andThen_ok, run_loadVar_cells ty b off p d hu hd hi hc]
  exact h
theorem wpList_loadR (hgd : o.guard = none) (ty : TypeId) (x : Operand) (ho : o.op = .load ty x) (b off : Nat) (hx : a.eval x = .pointer (some ⟨b, off, none⟩)) (p : Array Value) (d : TypeDesc)
    (hu : P.underlying ty = some d) (hd : (match d with | .struct _ | .array _ _ => true | _ => false) = true) (hi : (P.info? ty).map (·.size) = some p.size) (hc : ∀ j v, p[j]? = some v → w.cell? ⟨b, off + j, none⟩ = some v)
    (h : wpList P ops Q rest (a.put o.dst (.agg p)) w) : wpList P ops Q (o :: rest) a w :=
  wpList_plain hgd fun _ hK => wp_loadR ty x ho b off hx p d hu hd hi hc (hK _ _ h)
/-- .. behind a guard that stands. -/
theorem wpList_loadG (hw : Region.wanted o (yielded ops a.tmps) = true) (ty : TypeId) (x : Operand) (ho : o.op = .load ty x) (b off : Nat) (hx : a.eval x = .pointer (some ⟨b, off, none⟩)) (p : Array Value) (d : TypeDesc)
    (hu : P.underlying ty = some d) (hd : (match d with | .struct _ | .array _ _ => true | _ => false) = true) (hi : (P.info? ty).map (·.size) = some p.size) (hc : ∀ j v, p[j]? = some v → w.cell? ⟨b, off + j, none⟩ = some v)
    (h : wpList P ops Q rest (a.put o.dst (.agg p)) w) : wpList P ops Q (o :: rest) a w :=
  wpList_step fun K hK => by
    rw [if_pos hw]
    exact wp_loadR ty x ho b off hx p d hu hd hi hc (hK _ _ h)
/-- .. of a part of a block that is known whole. -/
theorem Blk.part {g : Nat} {t : TypeId} {cs : Array Value} (h : Blk w g t cs) (off : Nat) (p : Array Value) (hp : ∀ j v, p[j]? = some v → cs[off + j]? = some v) : ∀ j v, p[j]? = some v → w.cell? ⟨g, off + j, none⟩ = some v :=
  fun j v hv => by rw [h.cell]; exact hp j v hv
theorem Blk.whole {g : Nat} {t : TypeId} {cs : Array Value} (h : Blk w g t cs) : ∀ j v, cs[j]? = some v → w.cell? ⟨g, 0 + j, none⟩ = some v :=
  fun j v hv => by rw [h.cell, Nat.zero_add]; exact hv

theorem run_storeVar_part (ty : TypeId) (g off : Nat) (t : TypeId) (cs p : Array Value) (hg : w.heap[g]? = some (.cells cs t (0, 0))) (hi : (P.info? ty).map (·.size) = some p.size) (hs : off + p.size ≤ cs.size) (h1 : ∀ v ∈ p.toList, v.oneCell' = true)
    (cs' : Array Value) (hcs : (cs.toList.take off ++ p.toList ++ cs.toList.drop (off + p.size)).toArray = cs') : (storeVar ty ⟨g, off, none⟩ (.agg p)).run P w = .ok () (w.setRow g cs') := by
  subst hcs
  have := run_storeCells_at (P := P) g off t p.toList 0 cs w hg (by simpa using hs) h1
  cases hq : P.info? ty with
  | none => simp [hq] at hi
  | some i =>
    have hs' : p.size = i.size := by simp [hq] at hi; omega
    simp [storeVar, sizeOf, typeInfo, hq, Value.cells, hs'] at this ⊢
    rw [this]
theorem wp_storeP (ty : TypeId) (x y : Operand) (ho : o.op = .store ty x y) (g off : Nat) (hx : a.eval x = .pointer (some ⟨g, off, none⟩)) (p : Array Value) (hy : a.eval y = .agg p)
    (t : TypeId) (cs : Array Value) (hg : Blk w g t cs) (hi : (P.info? ty).map (·.size) = some p.size) (hs : off + p.size ≤ cs.size) (h1 : ∀ v ∈ p.toList, v.oneCell' = true) (cs' : Array Value) (hcs : (cs.toList.take off ++ p.toList ++ cs.toList.drop (off + p.size)).toArray = cs')
    (h : ∀ w', Blk w' g t cs' → Wr g w w' → K (a.put o.dst undef) w') : o.wp P a w K Q := by
  unfold Oper.wp execOp
  simp only [ho, hx, hy, Instr.storeAt, Instr.sureAddr, Sem.run_bind, Sem.run_pure, Result.andThen_ok, run_storeVar_part ty g off t cs p hg hi hs h1 cs' hcs]
  exact h _ (setRow_heap w g cs cs' t (0, 0) hg) (Wr.row w g cs')
/-- A store of a struct into a block that is known whole. -/
theorem wpList_storeP (hgd : o.guard = none) (ty : TypeId) (x y : Operand) (ho : o.op = .store ty x y) (g off : Nat) (hx : a.eval x = .pointer (some ⟨g, off, none⟩)) (p : Array Value) (hy : a.eval y = .agg p)
    (t : TypeId) (cs : Array Value) (hg : Blk w g t cs) (hi : (P.info? ty).map (·.size) = some p.size) (hs : off + p.size ≤ cs.size) (h1 : ∀ v ∈ p.toList, v.oneCell' = true) (cs' : Array Value) (hcs : (cs.toList.take off ++ p.toList ++ cs.toList.drop (off + p.size)).toArray = cs')
    (h : ∀ w', Blk w' g t cs' → Wr g w w' → wpList P ops Q rest (a.put o.dst undef) w') : wpList P ops Q (o :: rest) a w :=
  wpList_plain hgd fun _ hK => wp_storeP ty x y ho g off hx p hy t cs hg hi hs h1 cs' hcs fun w' hb hw => hK _ _ (h w' hb hw)
end
/-- A whole block is written anew. -/
theorem splice_all (cs p : Array Value) (h : cs.size = p.size) : (cs.toList.take 0 ++ p.toList ++ cs.toList.drop (0 + p.size)).toArray = p := by
  rw [List.take_zero, List.nil_append, Nat.zero_add, List.drop_of_length_le (by simp [h])]; simp
section
variable {P : Program} {fn : Func} {p q r s : Tmp} {ty : TypeId} (tmps : Array Value) (w : World) (g : Nat) (t : TypeId) (cs : Array Value) (d : TypeDesc)
/-- Results that lie in a block: a struct alone, or with values behind it. -/
theorem results_c1 (h : fn.results = #[.cell p ty]) (hp : tmps.getD p undef = .pointer (some ⟨g, 0, none⟩)) (hg : Blk w g t cs) (hu : P.underlying ty = some d) (hd : (match d with | .struct _ | .array _ _ => true | _ => false) = true) (hi : (P.info? ty).map (·.size) = some cs.size) :
    (results fn tmps).run P w = .ok (.agg cs) w := by
  have hp' : tmps[p]?.getD undef = .pointer (some ⟨g, 0, none⟩) := by simpa using hp
  simp [results, h, hp', asAddr, run_loadVar_cells (w := w) ty g 0 cs d hu hd hi hg.whole]
theorem results_c2 (h : fn.results = #[.cell p ty, .tmp q]) (hp : tmps.getD p undef = .pointer (some ⟨g, 0, none⟩)) (hg : Blk w g t cs) (hu : P.underlying ty = some d) (hd : (match d with | .struct _ | .array _ _ => true | _ => false) = true) (hi : (P.info? ty).map (·.size) = some cs.size) {x : Value} (hx : tmps.getD q undef = x) :
    (results fn tmps).run P w = .ok (.tuple #[.agg cs, x]) w := by
  have hp' : tmps[p]?.getD undef = .pointer (some ⟨g, 0, none⟩) := by simpa using hp
  have hx' : tmps[q]?.getD undef = x := by simpa using hx
  simp [results, h, hp', hx', asAddr, run_loadVar_cells (w := w) ty g 0 cs d hu hd hi hg.whole]
theorem results_c3 (h : fn.results = #[.cell p ty, .tmp q, .tmp r]) (hp : tmps.getD p undef = .pointer (some ⟨g, 0, none⟩)) (hg : Blk w g t cs) (hu : P.underlying ty = some d) (hd : (match d with | .struct _ | .array _ _ => true | _ => false) = true) (hi : (P.info? ty).map (·.size) = some cs.size) {x y : Value} (hx : tmps.getD q undef = x) (hy : tmps.getD r undef = y) :
    (results fn tmps).run P w = .ok (.tuple #[.agg cs, x, y]) w := by
  have hp' : tmps[p]?.getD undef = .pointer (some ⟨g, 0, none⟩) := by simpa using hp
  have hx' : tmps[q]?.getD undef = x := by simpa using hx
  have hy' : tmps[r]?.getD undef = y := by simpa using hy
  simp [results, h, hp', hx', hy', asAddr, run_loadVar_cells (w := w) ty g 0 cs d hu hd hi hg.whole]
theorem results_c4 (h : fn.results = #[.cell p ty, .tmp q, .tmp r, .tmp s]) (hp : tmps.getD p undef = .pointer (some ⟨g, 0, none⟩)) (hg : Blk w g t cs) (hu : P.underlying ty = some d) (hd : (match d with | .struct _ | .array _ _ => true | _ => false) = true) (hi : (P.info? ty).map (·.size) = some cs.size) {x y z : Value} (hx : tmps.getD q undef = x) (hy : tmps.getD r undef = y) (hz : tmps.getD s undef = z) :
    (results fn tmps).run P w = .ok (.tuple #[.agg cs, x, y, z]) w := by
  have hp' : tmps[p]?.getD undef = .pointer (some ⟨g, 0, none⟩) := by simpa using hp
  have hx' : tmps[q]?.getD undef = x := by simpa using hx
  have hy' : tmps[r]?.getD undef = y := by simpa using hy
  have hz' : tmps[s]?.getD undef = z := by simpa using hz
  simp [results, h, hp', hx', hy', hz', asAddr, run_loadVar_cells (w := w) ty g 0 cs d hu hd hi hg.whole]
end
end Go.Proofs.Ytihngonemdaihaa
