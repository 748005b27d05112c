/- The contract of gatherTells. -/
import Derived.Test.YtolhlgalhhdkmabGatherTwoWalk
import Derived.Lib.SlBytesConst
namespace Go.Proofs.Ytolhlgalhhdkmab
open Go.ChangeShapes Go.WideShapes Go.ChangeAt Go.RowKit
set_option linter.unusedVariables false

theorem str2 {w : World} {A : Option Addr} {bs : List UInt8} {n c : Nat} (h : RdB w A bs) (hn : bs.length = n) : (convert 43 9 (.slice A n c)).run Try.prog w = .ok (.string (byt bs)) w := by
  subst hn; exact h.str 43 9 5 c Try.underlying43 Try.underlying5 Try.underlying9

set_option maxRecDepth 100000 in
set_option maxHeartbeats 1000000 in
theorem gatherTells_any (w : World) : Calls Try.prog 28 #[] w fun e w' => e = .returned (.bool true) ∧ Below w.heap.size w w' := by
  go_enter Try.func28, Try.ntmps28
  go_wp2_with fail
  refine (gBegin_ok 9 (by decide) (by decide) _).mono ?_
  rintro e w1 ⟨rfl, hb1⟩
  go_upto_region 2 with (fail)
  refine wp_world (fun w' => Blk w' w1.heap.size 47 #[.int .i64 0, .slice none 0 0, .int .i64 (-1), .int .i64 9] ∧ Below w.heap.size w w') ⟨Blk.new _ _ _, hb1.alloc hb1.size _⟩ ?_
  have hz1 := hb1.size
  clear hb1
  rintro w2 ⟨hG, hb⟩
  have FG := hG.facts4
  have hcv := Lib.run_convert_bytes_const (P := Try.prog) w2 43 5 #[.int .u8 97, .int .u8 98] 2 2 Try.underlying43 Try.underlying5
  have hr : RdB (w2.alloc (.cells #[.int .u8 97, .int .u8 98] 5 (2, 3))) (some ⟨w2.heap.size, 0, none⟩) [97, 98] :=
    ⟨rfl, fun _ => ⟨w2.heap.size, 0, rfl, fun j u hu => by rw [cell_of_row _ _ _ _ _ (2, 3) (heap_alloc_new w2 _), Nat.zero_add]; simpa [u8s] using hu⟩⟩
  go_wp2_with fail
  refine (gPut_two 9 w2.heap.size 2 [97, 98] rfl (by decide) (by decide) (by decide) (by decide) _ (by simp) hr).mono ?_
  rintro e w3 ⟨A, c, D, d, rfl, hOne, hD, hd2, hdm, hc1, hcm, hb3⟩
  have hG3 := (hG.alloc (.cells #[.int .u8 97, .int .u8 98] 5 (2, 3))).carry hb3
  have hbz : Below w.heap.size w w3 := by
    have h1 := hb.alloc hb.size (.cells #[.int .u8 97, .int .u8 98] 5 (2, 3))
    exact h1.trans (hb3.mono h1.size)
  obtain ⟨gA, rfl, hgA, hgA3, hcA0, hcA1⟩ := hOne.at_
  have hz2 := hG.lt
  simp at hgA
  clear hr hcv FG hG hb hb3 hOne
  have FG := hG3.facts4
  have HD := Lib.hid hD
  clear hD
  go_upto_region 3 with (fail)
  refine wp_world (fun w' => Blk w' w1.heap.size 47 #[.int .i64 0, .slice (some ⟨gA, 0, none⟩) 1 c, .int .i64 2, .int .i64 9] ∧ w'.cell? ⟨gA, 0, none⟩ = some (.int .i64 0) ∧ w'.cell? ⟨gA, 1, none⟩ = some (.slice D 2 d) ∧ RdB w' D [97, 98] ∧ Below w.heap.size w w')
    ⟨by (apply Blk.as; (case h => (repeat (first | with_reducible exact hG3 | with_reducible apply Blk.drew | with_reducible apply Blk.set4 | with_reducible apply Blk.set_ | (with_reducible apply Blk.far4 (hne := ?side); case side => (first | omega | (simp; omega) | (simp; done))) | (with_reducible apply Blk.far (hp := ?side); case side => (first | omega | (simp; omega) | (simp; done))) | with_reducible apply Blk.alloc))); (case e => (first | with_reducible rfl | (simp; done) | rfl))), ?c0, ?c1, ?rd, by (repeat (first | with_reducible exact hbz | with_reducible refine Below.drew ?_ | (with_reducible refine Below.set4 ?_ ?side _ _ _ _; case side => (first | omega | (simp; omega) | (simp; done))) | (with_reducible refine Below.setCell ?_ ?side _; case side => (first | omega | (simp; omega) | (simp; done))) | (with_reducible refine Below.alloc ?_ ?side _; case side => (first | omega | (simp; omega) | (simp; done)))))⟩ ?_
  case c0 => go_simp
  case c1 => go_simp
  case rd =>
    refine rd_own1 (base := w2.heap.size + 1) (e := 5) (l := 2) (c := d) ?_ rfl
    have hD := HD.out
    simp only [World.size_alloc] at hD
    (repeat (first | with_reducible exact hD | with_reducible refine World.ownsRow.drew ?_ | (with_reducible refine ownsRow_setCell_below ?_ ?side _; case side => (first | omega | (simp; omega) | (simp; done))) | with_reducible refine World.ownsRow.alloc ?_ _))
  clear FG HD hG3 hbz hcA0 hcA1
  rintro w4 ⟨hG, hcA0, hcA1, hD, hb⟩
  have FG := hG.facts4
  have HD := Lib.hid hD
  clear hD
  go_wp2_with fail
  refine (gTake_two 9 gA c d D [97, 98] rfl (by decide) (by decide) w4 hc1 hcm hcA0 hcA1 HD.out).mono ?_
  rintro e w5 ⟨A5, c5, D5, d5, rfl, hD5, hd5, hdm5, hb5⟩
  have hst : ∀ o, (convert 43 9 (.slice D5 2 d5)).run Try.prog (w5.alloc o) = .ok (.string (byt [97, 98])) (w5.alloc o) := fun o => str2 (Rd.alloc hD5 o) rfl
  have hbz := hb.trans (hb5.mono hb.size)
  have hbz2 : ∀ o, Below w.heap.size w (w5.alloc o) := fun o => hbz.alloc hbz.size o
  clear hD5
  have hab : ((byt [97, 98]).toList == [97, 98]) = true := by rw [ByteArray.toList_eq]; rfl
  go_wp2_with fail
  go_ret
  exact ⟨by first | rfl | simp, hbz2 _⟩
end Go.Proofs.Ytolhlgalhhdkmab
