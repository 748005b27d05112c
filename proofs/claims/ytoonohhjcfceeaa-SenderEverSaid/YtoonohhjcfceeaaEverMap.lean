/- Plain: a map whose keys are the numbers below N has N entries. -/
import Derived.Maps.OwnSet
import Derived.Test.YtoonohhjcfceeaaEverSt
namespace Go.Proofs.Ytoonohhjcfceeaa
open Go.RowKit Go.Maps
set_option linter.unusedVariables false

theorem keyLit64 (n : Int) : WideAt.IsKeyLit (.int .i64 n) := trivial
theorem litNe {a b : Int} (h : a ≠ b) : (Lit.int .i64 a) ≠ .int .i64 b := fun e => h (by injection e)
/-- The map's keys, counted. -/
def Cnt (D : DataW Unit) : Prop := ∃ xs : List Int, xs.Nodup ∧ Maps.size D = xs.length ∧ ∀ n : Int, Maps.has D (.int .i64 n) = true ↔ n ∈ xs
theorem Cnt.none : Cnt (.map []) := ⟨[], List.nodup_nil, rfl, fun n => by simp [Maps.has]⟩
theorem Cnt.put {D : DataW Unit} (h : Cnt D) (hD : Tidy D) (n : Int) (d : DataW Unit) : Cnt (D.put (.int .i64 n) d) := by
  obtain ⟨xs, h1, h2, h3⟩ := h
  have hput : ∀ m : Int, Maps.has (D.put (.int .i64 n) d) (.int .i64 m) = true ↔ m = n ∨ m ∈ xs := fun m => by
    by_cases e : m = n
    · subst e; rw [has_put_same hD.isMap (keyLit64 _)]; simp
    · rw [has_put_other (litNe e), h3]; simp [e]
  by_cases hn : Maps.has D (.int .i64 n) = true
  · refine ⟨xs, h1, by rw [size_put hD, if_pos hn, h2], fun m => ?_⟩
    rw [hput m]
    have := (h3 n).1 hn
    exact ⟨fun h => h.elim (fun e => e ▸ this) id, .inr⟩
  · have hx : n ∉ xs := fun h => hn ((h3 n).2 h)
    refine ⟨n :: xs, List.nodup_cons.2 ⟨hx, h1⟩, by rw [size_put hD, if_neg hn, h2]; rfl, fun m => ?_⟩
    rw [hput m, List.mem_cons]
theorem Cnt.size {D : DataW Unit} (h : Cnt D) (N : Nat) (hk : ∀ n : Int, Maps.has D (.int .i64 n) = true ↔ 0 ≤ n ∧ n < N) : Maps.size D = N := by
  obtain ⟨xs, h1, h2, h3⟩ := h
  have h4 : ((List.range N).map (fun k : Nat => (k : Int))).Nodup := by
    rw [List.Nodup, List.pairwise_map]
    exact (List.nodup_range (n := N)).imp fun h e => h (by omega)
  have hp : xs.Perm ((List.range N).map (fun k : Nat => (k : Int))) := (List.perm_ext_iff_of_nodup h1 h4).2 fun n => by
    rw [← h3 n, hk n, List.mem_map]
    constructor
    · rintro ⟨a, b⟩
      exact ⟨n.toNat, List.mem_range.2 (by omega), by omega⟩
    · rintro ⟨k, a, rfl⟩
      have := List.mem_range.1 a
      omega
  rw [h2, hp.length_eq, List.length_map, List.length_range]
end Go.Proofs.Ytoonohhjcfceeaa
