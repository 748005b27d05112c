/- The bytes of a string, in a block of their own. -/
import Derived.Test.YtihngonemdaihaaStrApp
import Derived.Laws.IdiomStrings
namespace Go.Proofs.Ytihngonemdaihaa
open Go.RowKit
set_option linter.unusedVariables false

/-- The bytes of a string, in a block of their own. -/
theorem bytes_rd (w : World) (e : TypeId) (s : ByteArray) (cap : Nat) (fr : Nat × Nat) : RdB (w.drew.alloc (.cells (bytesRow s cap) e fr)) (some ⟨w.heap.size, 0, none⟩) (bts s) := by
  refine ⟨by simp [u8s], fun hn => ⟨w.heap.size, 0, rfl, fun j u hu => ?_⟩⟩
  have hj : j < s.data.size := by
    have := (List.getElem?_eq_some_iff.1 hu).1
    rw [u8s_length] at this; simpa [bts] using this
  have hb : (w.drew.alloc (.cells (bytesRow s cap) e fr)).heap[w.heap.size]? = some (.cells (bytesRow s cap) e fr) := heap_alloc_new w.drew _
  rw [cell_of_row _ w.heap.size _ _ e fr hb, Nat.zero_add, bytesRow_at s cap j hj]
  rw [u8s_get _ _ (by rw [bts_len]; exact hj)] at hu
  rw [← hu]
  simp only [bts, List.getD, Array.getElem?_toList, Array.getElem?_eq_getElem hj, Option.getD_some]

theorem bytes_rd2 (w : World) (e : TypeId) (s : ByteArray) (cap : Nat) (fr : Nat × Nat) {H : Nat} (hH : w.heap.size = H) : Rd (w.alloc (.cells (bytesRow s cap) e fr)) 1 (some ⟨H, 0, none⟩) (bts s).length (u8s (bts s)) := by
  subst hH; exact bytes_rd w e s cap fr
theorem RdB.as {w : World} {A : Option Addr} {n : Nat} {bs : List UInt8} (h : Rd w 1 A n (u8s bs)) (hn : bs.length = n) : RdB w A bs := by subst hn; exact h

end Go.Proofs.Ytihngonemdaihaa
