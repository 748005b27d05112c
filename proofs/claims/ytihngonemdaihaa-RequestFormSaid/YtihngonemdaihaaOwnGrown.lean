/- A row of the call's own, where another row grew. -/
import Derived.Test.YtihngonemdaihaaOwn
namespace Go.Proofs.Ytihngonemdaihaa
open Go.RowKit
set_option linter.unusedVariables false

theorem own_grown {w0 w' : World} {base : Nat} {e : TypeId} {size n : Nat} {v : Value} {xs : List Value} {row : Option Nat} (h : w0.ownsRow base e size v n xs) (hb : w0.grownBy w' row) (hne : ∀ k, v.ownBlock = some k → some k ≠ row) : w'.ownsRow base e size v n xs := by
  refine ⟨h.1, ?_⟩
  rcases h.2 with h2 | ⟨g, cap, cur, hv, hg, hh, r⟩
  · exact .inl h2
  · exact .inr ⟨g, cap, cur, hv, hg, (hb.block g (Array.getElem?_eq_some_iff.1 hh).1 (hne g (by rw [hv]; rfl))).trans hh, r⟩

end Go.Proofs.Ytihngonemdaihaa
