/- Texts of the proof, laid together: RawOpen. -/
import Derived.Test.YtbcagdjfegobnaaGreatRows
import Derived.Deep.Slices
import Derived.Deep.Fields
import Derived.ChangeSame
import Derived.Test.YtbcagdjfegobnaaGreatC00
/- A slice of raw things that came in, opened (the general part after the guide's block on slices of structs). -/
namespace Go.Proofs.YtbcagdjfegobnaaGreat
open Go.ChangeShapes Go.WideShapes Go.Deep Go.RowKit
set_option linter.unusedVariables false
section
variable {H : Type} {enc : TypeId × Value → H} {P : Program} {w : World} {base : Nat} {spare : Nat → Bool} {held : Bool}
theorem open_slice_fields {t e : TypeId} {fs : Array Field} {fuel : Nat} {cs : List Value} {x : DataW H × List MemPlace} (ht : P.underlying t = some (.slice e)) (he : P.underlying e = some (.struct fs))
    (hone : oneCellFields P fs = true) (hC : P.cellsOf e = fs.size) (h : DataW.trod enc P w base spare held fuel t cs = some x) :
    (cs = [.slice none 0 0] ∧ x = (.nil, [])) ∨
    ∃ (a : Addr) (len cap m : Nat) (D : Nat → DataW H) (Pl : Nat → List MemPlace), cs = [.slice (some a) len cap] ∧ base ≤ a.block ∧ len ≤ cap ∧ cap ≤ maxLen ∧ m = (if spare a.block then cap else len) ∧
      x = (.slice ((List.range len).map D) ((List.range (m - len)).map fun j => D (len + j)), MemPlace.row a (m * fs.size) ++ (List.range m).flatMap Pl) ∧
      ∀ i, i < m → ∃ (ys : List (DataW H × List MemPlace)) (n : Nat), D i = .agg (ys.map (·.1)) ∧ Pl i = ys.flatMap (·.2) ∧ ys.length = fs.size ∧
        ∀ (j : Nat) (f : Field), fs[j]? = some f → ∃ (v : Value) (y : DataW H × List MemPlace), w.cell? (a.add (i * fs.size + j)) = some v ∧ ys[j]? = some y ∧ DataW.trod enc P w base spare held n f.type [v] = some y := by
  rcases open_slice ht h with h0 | ⟨a, len, cap, m, n, D, Pl, hcs, hb, hl, hm, hmm, hx, hi⟩
  · exact .inl h0
  · refine .inr ⟨a, len, cap, m, D, Pl, hcs, hb, hl, hm, hmm, by rw [hC] at hx; exact hx, fun i him => ?_⟩
    obtain ⟨cs', hc, ht'⟩ := hi i him
    rw [hC] at hc
    obtain ⟨ys, n', hn', hy, hlen, hyl, hf⟩ := DataW.trod_struct he ht'
    obtain ⟨_, hcl, hat⟩ := World.cells?_some hc
    simp only [Prod.mk.injEq] at hy
    refine ⟨ys, n', hy.1, hy.2, hyl, fun j f hj => ?_⟩
    obtain ⟨ho, hk⟩ := hone_of hone j f hj
    have hjl : j < fs.size := (Array.getElem?_eq_some_iff.1 hj).1
    have hcell := hat j hjl
    have hv : cs'[j]? = some (cs'[j]'(by omega)) := List.getElem?_eq_getElem (by omega)
    have h1 := hf j f hj
    rw [ho, hk] at h1
    have hone' : (cs'.drop j).take 1 = [cs'[j]'(by omega)] := by
      rw [List.drop_eq_getElem_cons (by omega)]
      rfl
    rw [hone'] at h1
    have hys : ys[j]? = some (ys[j]'(by omega)) := List.getElem?_eq_getElem (by omega)
    refine ⟨_, _, ?_, hys, h1.trans hys⟩
    rw [← Go.Deep.add_add, hcell, hv]
end

theorem raw_cells : Tryz.prog.cellsOf 59 = 4 := by kernel_rfl

theorem open_raws {H : Type} {enc : TypeId × Value → H} {w : World} {base : Nat} {spare : Nat → Bool} {held : Bool} {fuel : Nat} {A : Option Addr} {len cap : Nat} {x : DataW H × List MemPlace} (hs : ∀ b, spare b = true)
    (h : DataW.trod enc Tryz.prog w base spare held fuel 55 [.slice A len cap] = some x) : ∃ rs, IsRaws w A len cap rs := by
  rcases open_slice_fields Tryz.underlying55 Tryz.underlying59 (by kernel_rfl) raw_cells h with ⟨hcs, _⟩ | ⟨a, l, c, m, D, Pl, hcs, _, hl, hm, hmm, _, hi⟩
  · simp at hcs
    obtain ⟨rfl, rfl, rfl⟩ := hcs
    exact ⟨[], rfl, Rd.nil, Nat.le_refl _, by decide, fun k hk => absurd hk (by omega)⟩
  · simp at hcs
    obtain ⟨rfl, rfl, rfl⟩ := hcs
    rw [hs, if_pos rfl] at hmm
    rw [hmm] at hi
    have each : ∀ i, i < cap → ∃ r : RawD, RawOk r ∧ ∀ j v, (rawCells r)[j]? = some v → w.cell? (a.add (i * 4 + j)) = some v := by
      intro i hic
      obtain ⟨ys, n, _, _, _, hf⟩ := hi i hic
      obtain ⟨v0, y0, c0, _, t0⟩ := hf 0 _ rfl
      obtain ⟨v1, y1, c1, _, t1⟩ := hf 1 _ rfl
      obtain ⟨v2, y2, c2, _, t2⟩ := hf 2 _ rfl
      obtain ⟨v3, y3, c3, _, t3⟩ := hf 3 _ rfl
      obtain ⟨a0, e0, _, w0⟩ := DataW.trod_int Tryz.underlying3 t0
      obtain ⟨a1, e1, _, w1⟩ := DataW.trod_int Tryz.underlying3 t1
      obtain ⟨a2, e2, _, w2⟩ := DataW.trod_int Tryz.underlying3 t2
      obtain ⟨a3, e3, _, w3⟩ := DataW.trod_string Tryz.underlying9 t3
      simp at e0 e1 e2 e3
      subst e0 e1 e2 e3
      refine ⟨⟨a0, a1, a2, a3⟩, ⟨i64_bounds' w0, i64_bounds' w1, i64_bounds' w2, w3⟩, fun j v hj => ?_⟩
      match j, hj with
      | 0, hj => simp [rawCells] at hj; subst hj; exact c0
      | 1, hj => simp [rawCells] at hj; subst hj; exact c1
      | 2, hj => simp [rawCells] at hj; subst hj; exact c2
      | 3, hj => simp [rawCells] at hj; subst hj; exact c3
      | j + 4, hj => simp [rawCells] at hj
    obtain ⟨f, hf⟩ : ∃ f : Nat → RawD, ∀ i, i < cap → RawOk (f i) ∧ ∀ j v, (rawCells (f i))[j]? = some v → w.cell? (a.add (i * 4 + j)) = some v :=
      ⟨fun i => if h : i < cap then Classical.choose (each i h) else rawNone, fun i hic => by simp only [dif_pos hic]; exact Classical.choose_spec (each i hic)⟩
    refine ⟨(List.range len).map f, by simp, ⟨?_, fun hn => ?_⟩, hl, hm, fun k hk => ?_⟩
    · rw [List.length_flatMap]
      have : ∀ l : List RawD, (l.map fun r => (rawCells r).length).sum = l.length * 4 := fun l => by
        induction l with
        | nil => rfl
        | cons r l ih => rw [List.map_cons, List.sum_cons, ih]; simp [rawCells]; omega
      rw [this]; simp
    · obtain ⟨b, off, spot⟩ := a
      have h0 := (hf 0 (by omega)).2 0 _ rfl
      have hspot : spot = none := by simpa [Addr.add] using World.cell?_spot h0
      subst hspot
      refine ⟨b, off, rfl, fun j u hu => ?_⟩
      have hj : j < len * 4 := by
        have := (List.getElem?_eq_some_iff.1 hu).1
        rw [List.length_flatMap] at this
        have e : ∀ l : List RawD, (l.map fun r => (rawCells r).length).sum = l.length * 4 := fun l => by
          induction l with
          | nil => rfl
          | cons r l ih => rw [List.map_cons, List.sum_cons, ih]; simp [rawCells]; omega
        rw [e] at this; simpa using this
      have hd := flatMap_get ((List.range len).map f) rawCells 4 (fun _ => rfl) rawNone (j / 4) (j % 4) (by simp; omega) (by omega)
      rw [show j / 4 * 4 + j % 4 = j from by omega, hu] at hd
      have hg : ((List.range len).map f).getD (j / 4) rawNone = f (j / 4) := by simp [List.getD, show j / 4 < len by omega]
      rw [hg] at hd
      have := (hf (j / 4) (by omega)).2 (j % 4) u hd.symm
      rwa [add_none, show j / 4 * 4 + j % 4 = j from by omega] at this
    · have hg : ((List.range len).map f).getD k rawNone = f k := by simp [List.getD, hk]
      rw [hg]; exact (hf k (by omega)).1
end Go.Proofs.YtbcagdjfegobnaaGreat
