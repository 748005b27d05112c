/- Texts of the proof, laid together: Ints PickAt. -/
import Derived.Test.YtbcagdjfegobnaaGreatC00
import Derived.RowKit
import Derived.Below
import Derived.Lib.Hide
/- Slices of integers that came in, read as_v lists. -/
namespace Go.Proofs.YtbcagdjfegobnaaGreat
open Go.RowKit
set_option linter.unusedVariables false

def i64s (zs : List Int) : List Value := zs.map (Value.int .i64)
theorem i64s_get (zs : List Int) (j : Nat) (h : j < zs.length) : (i64s zs)[j]? = some (.int .i64 (zs.getD j 0)) := by simp [i64s, List.getD, h]
/-- A slice of integers. -/
def RdI (w : World) (A : Option Addr) (zs : List Int) : Prop := Rd w 1 A zs.length (i64s zs)
section
variable {w w' : World} {A : Option Addr} {zs : List Int}
theorem RdI.below (h : RdI w A zs) (hb : Below w.heap.size w w') : RdI w' A zs := Rd.below h hb
theorem RdI.cell (h : RdI w A zs) (hn : 0 < zs.length) : ∃ b off, A = some ⟨b, off, none⟩ ∧ ∀ j, j < zs.length → w.cell? ⟨b, off + j, none⟩ = some (.int .i64 (zs.getD j 0)) := by
  obtain ⟨b, off, e, hc⟩ := h.2 hn
  exact ⟨b, off, e, fun j hj => hc j _ (i64s_get zs j hj)⟩
end
end Go.Proofs.YtbcagdjfegobnaaGreat
/- picked, at a number that is known ahead. -/
namespace Go.Proofs.YtbcagdjfegobnaaGreat
open Go.ChangeShapes Go.WideShapes Go.ChangeAt Go.RowKit
set_option linter.unusedVariables false
theorem picked_at (n m y : Int) (h0 : -9223372036854775808 ≤ n) (h1 : n ≤ 9223372036854775807) (hm : 0 < m) (hm1 : m ≤ 9223372036854775807) (hy : Hid (n % m = y)) (w : World) :
    Calls Tryz.prog 15 #[.int .i64 n, .int .i64 m] w fun e w' => e = .returned (.int .i64 y) ∧ w = w' := by
  have := hy.out
  subst this
  exact picked_any n m h0 h1 hm hm1 w
theorem mod_ex (n m : Int) (hm : 0 < m) : ∃ y : Int, Hid (n % m = y) ∧ 0 ≤ y ∧ y < m := ⟨n % m, rfl, Int.emod_nonneg n (by omega), Int.emod_lt_of_pos n hm⟩
end Go.Proofs.YtbcagdjfegobnaaGreat
