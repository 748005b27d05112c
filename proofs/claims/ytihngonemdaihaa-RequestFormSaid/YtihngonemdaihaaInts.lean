/- Slices of integers that came in, read as lists. -/
import Derived.Test.YtihngonemdaihaaMem
namespace Go.Proofs.Ytihngonemdaihaa
open Go.RowKit
set_option linter.unusedVariables false

def i64s (zs : List Int) : List Value := zs.map (Value.int .i64)
theorem i64s_get (zs : List Int) (j : Nat) (h : j < zs.length) : (i64s zs)[j]? = some (.int .i64 (zs.getD j 0)) := by simp [i64s, List.getD, h]
/-- A slice of integers. -/
def RdI (w : World) (A : Option Addr) (zs : List Int) : Prop := Rd w 1 A zs.length (i64s zs)
section
variable {w w' : World} {A : Option Addr} {zs : List Int}
theorem RdI.below (h : RdI w A zs) (hb : Below w.heap.size w w') : RdI w' A zs := Rd.below h hb
theorem RdI.cell (h : RdI w A zs) (hn : 0 < zs.length) : ∃ b off, A = some ⟨b, off, none⟩ ∧ ∀ j, j < zs.length → w.cell? ⟨b, off + j, none⟩ = some (.int .i64 (zs.getD j 0)) := by
  obtain ⟨b, off, e, hc⟩ := h.2 hn
  exact ⟨b, off, e, fun j hj => hc j _ (i64s_get zs j hj)⟩
end
/-- A slice of integers that came in. -/
theorem IsRow.ints {w : World} {a : Option Addr} {len cap : Nat} {zs : List Int} (h : IsRow .i64 w a len cap zs) :
    ∃ ns : List Int, ns.length = len ∧ RdI w a ns ∧ (∀ j, j < len → -9223372036854775808 ≤ ns.getD j 0 ∧ ns.getD j 0 ≤ 9223372036854775807) ∧ len ≤ cap ∧ cap ≤ 9223372036854775807 := by
  rcases h with ⟨rfl, rfl, rfl, rfl⟩ | ⟨x, rfl, hl, hm, hz, hcell, hwz⟩
  · exact ⟨[], rfl, Rd.nil, fun j hj => absurd hj (by omega), Nat.le_refl _, by decide⟩
  · refine ⟨zs.take len, by simp; omega, ⟨by simp [i64s], fun hn => ?_⟩, fun j hj => ?_, hl, hm⟩
    · have hlen : 0 < len := by simp at hn; omega
      obtain ⟨b, off, spot⟩ := x
      have hc0 := hcell 0 (by omega)
      have hspot : spot = none := by simpa [Addr.add] using World.cell?_spot hc0
      subst hspot
      refine ⟨b, off, rfl, fun j u hu => ?_⟩
      have hj : j < len := by
        have := (List.getElem?_eq_some_iff.1 hu).1
        simp [i64s] at this; omega
      have hc := hcell j (by omega)
      rw [add_none] at hc
      rw [hc]
      have e : (i64s (zs.take len))[j]? = some (.int .i64 (zs.getD j 0)) := by
        rw [i64s_get _ _ (by simp; omega)]
        simp [List.getD, hj]
      rw [e] at hu
      exact hu
    · have e : (zs.take len).getD j 0 = zs.getD j 0 := by simp [List.getD, hj]
      rw [e]
      exact i64_bounds' (hwz _ (by simp [List.getD, show j < zs.length by omega]))
end Go.Proofs.Ytihngonemdaihaa
