/- sameFrame of two frames that are the same and have no ranges. -/
import Derived.Test.YtoonohhjcfceeaaSenderSt
import Derived.Test.YtoonohhjcfceeaaSameRWalk
namespace Go.Proofs.Ytoonohhjcfceeaa
open Go.ChangeShapes Go.WideShapes Go.ChangeAt Go.RowKit
set_option linter.unusedVariables false

theorem Blk.facts7S {w : World} {g : Nat} {t : TypeId} {a b c d e f i : Value} (h : Blk w g t #[a, b, c, d, e, f, i]) : g < w.heap.size ∧ w.cell? ⟨g, 0, none⟩ = some a ∧ w.cell? ⟨g, 1, none⟩ = some b ∧ w.cell? ⟨g, 2, none⟩ = some c ∧ w.cell? ⟨g, 3, none⟩ = some d ∧ w.cell? ⟨g, 4, none⟩ = some e ∧ w.cell? ⟨g, 5, none⟩ = some f ∧ w.cell? ⟨g, 6, none⟩ = some i :=
  ⟨h.lt, by rw [h.cell]; rfl, by rw [h.cell]; rfl, by rw [h.cell]; rfl, by rw [h.cell]; rfl, by rw [h.cell]; rfl, by rw [h.cell]; rfl, by rw [h.cell]; rfl⟩

set_option maxRecDepth 100000 in
set_option maxHeartbeats 4000000 in
theorem sameFrame_nil (ki id off co : Int) (f : Bool) (D D' : Option Addr) (n c c' : Nat) (bs : List UInt8) (hn : bs.length = n) (w : World) (hB : RdB w D bs) (hB' : RdB w D' bs) :
    Calls Try.prog 23 #[.agg #[.int .i64 ki, .int .i64 id, .int .i64 off, .bool f, .int .i64 co, .slice none 0 0, .slice D n c], .agg #[.int .i64 ki, .int .i64 id, .int .i64 off, .bool f, .int .i64 co, .slice none 0 0, .slice D' n c']] w fun e w' => e = .returned (.bool true) ∧ Below w.heap.size w w' := by
  subst hn
  have HB := Lib.hid hB
  have HB' := Lib.hid hB'
  clear hB hB'
  go_enter Try.func23, Try.ntmps23
  go_upto_region 1 with (fail)
  refine wp_world (fun w' => Blk w' w.heap.size 59 #[.int .i64 ki, .int .i64 id, .int .i64 off, .bool f, .int .i64 co, .slice none 0 0, .slice D bs.length c] ∧ Blk w' (w.heap.size + 1) 59 #[.int .i64 ki, .int .i64 id, .int .i64 off, .bool f, .int .i64 co, .slice none 0 0, .slice D' bs.length c'] ∧ Below w.heap.size w w') ⟨(Blk.new _ _ _).alloc _, Blk.new1 _ _ _ _, ((Below.refl _ _).alloc (Nat.le_refl _) _).alloc (by simp) _⟩ ?_
  rintro w1 ⟨hF, hG, hb1⟩
  have FF := hF.facts7S
  have FG := hG.facts7S
  go_wp2_with fail
  refine (sameRanges_eq none none 0 0 0 [] rfl (Nat.le_refl _) (Nat.le_refl _) (by decide) (by decide) _ RdX.nil RdX.nil).mono ?_
  rintro e1 w2 ⟨rfl, hb2⟩
  have hF2 := hF.carry hb2
  have hG2 := hG.carry hb2
  have hbb := hb1.trans (hb2.mono hb1.size)
  clear FF FG hF hG hb1 hb2
  have FF := hF2.facts7S
  have FG := hG2.facts7S
  have hs1 := (HB.out.below hbb).str 52 9 5 c Try.underlying52 Try.underlying5 Try.underlying9
  have hs2 := (HB'.out.below hbb).str 52 9 5 c' Try.underlying52 Try.underlying5 Try.underlying9
  go_wp2_with fail
  go_ret
  exact ⟨by first | rfl | (simp; done), hbb⟩
end Go.Proofs.Ytoonohhjcfceeaa
