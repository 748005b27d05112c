/- A raw thing that came in as an argument, opened. -/
import Derived.Test.YtenlgfeldkfmiaaRawOpen
namespace Go.Proofs.Ytenlgfeldkfmiaa
open Go.ChangeShapes Go.WideShapes Go.Deep Go.RowKit
set_option linter.unusedVariables false

def rawV (r : RawD) : Value := .agg #[.int .i64 r.kind, .int .i64 r.a, .int .i64 r.b, .string r.text]

theorem open_fields {H : Type} {enc : TypeId × Value → H} {P : Program} {w : World} {base : Nat} {spare : Nat → Bool} {held : Bool} {t : TypeId} {fs : Array Field} {fuel : Nat} {cs : List Value} {x : DataW H × List MemPlace}
    (ht : P.underlying t = some (.struct fs)) (hone : oneCellFields P fs = true) (h : DataW.trod enc P w base spare held fuel t cs = some x) :
    ∃ n, ∀ (i : Nat) (f : Field), fs[i]? = some f → ∃ y, DataW.trod enc P w base spare held n f.type ((cs.drop i).take 1) = some y := by
  obtain ⟨ys, n, _, _, _, hyl, hf⟩ := DataW.trod_struct ht h
  refine ⟨n, fun i f hi => ?_⟩
  obtain ⟨ho, hk⟩ := hone_of hone i f hi
  have h1 := hf i f hi
  rw [ho, hk] at h1
  have hl : i < ys.length := by rw [hyl]; exact (Array.getElem?_eq_some_iff.1 hi).1
  exact ⟨_, h1.trans (List.getElem?_eq_getElem hl)⟩

theorem open_raw {H : Type} {enc : TypeId × Value → H} {w : World} {base : Nat} {spare : Nat → Bool} {held : Bool} {x : DataW H × List MemPlace} {v : Value} {W : World} {b : Nat}
    (hv : Value.okWide Try.prog W .any b 23 v) (h : ∃ fuel, DataW.trod enc Try.prog w base spare held fuel 23 v.cells.toList = some x) : ∃ r : RawD, RawOk r ∧ v = rawV r := by
  obtain ⟨cs, rfl, hsz⟩ := okWide_struct Try.underlying23 hv
  rw [raw_cells] at hsz
  obtain ⟨fuel, hf⟩ := h
  have hf' : DataW.trod enc Try.prog w base spare held fuel 23 cs.toList = some x := by simpa [Value.cells] using hf
  obtain ⟨n, hfl⟩ := open_fields Try.underlying23 (by kernel_rfl) hf'
  obtain ⟨l⟩ := cs
  match l, hsz, hfl with
  | [v0, v1, v2, v3], _, hfl =>
    obtain ⟨y0, t0⟩ := hfl 0 _ rfl
    obtain ⟨y1, t1⟩ := hfl 1 _ rfl
    obtain ⟨y2, t2⟩ := hfl 2 _ rfl
    obtain ⟨y3, t3⟩ := hfl 3 _ rfl
    obtain ⟨a0, h0, _, w0⟩ := DataW.trod_int Try.underlying3 t0
    obtain ⟨a1, h1, _, w1⟩ := DataW.trod_int Try.underlying3 t1
    obtain ⟨a2, h2, _, w2⟩ := DataW.trod_int Try.underlying3 t2
    obtain ⟨a3, h3, _, w3⟩ := DataW.trod_string Try.underlying9 t3
    simp at h0 h1 h2 h3
    subst h0 h1 h2 h3
    exact ⟨⟨a0, a1, a2, a3⟩, ⟨i64_bounds' w0, i64_bounds' w1, i64_bounds' w2, w3⟩, rfl⟩
end Go.Proofs.Ytenlgfeldkfmiaa
