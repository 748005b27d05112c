/- The contract of senderTells. -/
import Derived.Test.YtpmgoediglmofaaSnWrite
import Derived.Test.YtpmgoediglmofaaSnPiece
import Derived.Lib.SlBytesConst
namespace Go.Proofs.Ytpmgoediglmofaa
open Go.ChangeShapes Go.WideShapes Go.ChangeAt Go.RowKit
set_option linter.unusedVariables false

theorem str2S {w : World} {A : Option Addr} {bs : List UInt8} {n c : Nat} (h : RdB w A bs) (hn : bs.length = n) : (convert 48 9 (.slice A n c)).run Try.prog w = .ok (.string (byt bs)) w := by
  subst hn; exact h.str 48 9 5 c Try.underlying48 Try.underlying5 Try.underlying9
theorem SnV.begin (w : World) (mx : Int) (h0 : 0 ≤ mx) (h1 : mx ≤ 4611686018427387903) : SnV w none 0 0 [] false 0 mx none 0 0 [] none 0 0 [] false false :=
  ⟨rfl, rfl, rfl, Nat.le_refl _, by decide, Nat.le_refl _, by decide, Nat.le_refl _, by decide, SnOk.begin mx h0 h1, RdB.nil, RdX.nil, RdX.nil⟩

set_option maxRecDepth 100000 in
set_option maxHeartbeats 4000000 in
theorem senderTells_any (w : World) : Calls Try.prog 22 #[] w fun e w' => e = .returned (.bool true) ∧ Below w.heap.size w w' := by
  have hcv := Lib.run_convert_bytes_const (P := Try.prog) w 48 5 #[.int .u8 97, .int .u8 98] 2 2 Try.underlying48 Try.underlying5
  have hr : RdB (w.alloc (.cells #[.int .u8 97, .int .u8 98] 5 (2, 3))) (some ⟨w.heap.size, 0, none⟩) [97, 98] :=
    ⟨rfl, fun _ => ⟨w.heap.size, 0, rfl, fun j u hu => by rw [cell_of_row _ _ _ _ _ (2, 3) (heap_alloc_new w _), Nat.zero_add]; simpa [u8s] using hu⟩⟩
  go_enter Try.func22, Try.ntmps22
  go_wp2_with fail
  refine (snWrite_ok _ none 0 0 [] 0 9 none 0 0 [] none 0 0 [] false false (SnV.begin _ 9 (by decide) (by decide)) (some ⟨w.heap.size, 0, none⟩) 2 2 [97, 98] rfl (by decide) (by decide) hr (by decide) true [97, 98] rfl 2 rfl).mono ?_
  rintro e1 w1 ⟨A', c', B', d', C', k', rfl, hK, hb1⟩
  have HV := Lib.hid hK.here
  have HB := Lib.hid ((((Below.refl _ _).alloc (Nat.le_refl _) _).trans (hb1.mono (by simp)) : Below w.heap.size w w1))
  clear hK hb1
  go_upto_region 2 with (fail)
  refine wp_world (fun w' => Blk w' w1.heap.size 50 #[.slice A' 2 c', .bool true, .int .i64 0, .int .i64 9, .slice B' 0 d', .slice C' 0 k', .bool false, .bool false] ∧ Below w1.heap.size w1 w') ⟨Blk.new _ _ _, (Below.refl _ _).alloc (Nat.le_refl _) _⟩ ?_
  rintro w2 ⟨hS2, hb2⟩
  have FS := hS2.facts8
  have HV2 := Lib.hid (HV.out.below hb2)
  have HB2 := Lib.hid (HB.out.trans (hb2.mono HB.out.size))
  clear HV HB hb2 hS2
  go_wp2_with fail
  refine (snPiece_ok _ A' 2 c' [97, 98] true 0 9 B' 0 d' [] C' 0 k' [] false false HV2.out 50 50 (by decide) (by decide) (by decide) (by decide) 0 2 (by decide) (by decide) true true (by decide) (by decide)).mono ?_
  rintro e3 w3 ⟨A3, c3, B3, m3, d3, C3, k3, D, nd, cd, rfl, hK, hnd, hcd, hcm, hb3⟩
  obtain rfl : nd = 2 := by simpa using hnd
  have hd3 := hK.here.2
  have HD := Lib.hid (show RdB w3 D [97, 98] from hd3)
  have HB3 := Lib.hid (HB2.out.trans (hb3.mono HB2.out.size))
  clear FS hK hd3 hb3 HV2 HB2
  have hst : ∀ o o', (convert 48 9 (.slice D 2 cd)).run Try.prog ((w3.alloc o).alloc o') = .ok (.string (byt [97, 98])) ((w3.alloc o).alloc o') := fun o o' => str2S (Rd.alloc (Rd.alloc HD.out o) o') rfl
  have hab : ((byt [97, 98]).toList == [97, 98]) = true := by rw [ByteArray.toList_eq]; rfl
  go_wp2_with fail
  go_ret
  exact ⟨by first | rfl | (simp; done), (HB3.out.alloc HB3.out.size _).alloc (HB3.out.alloc HB3.out.size _).size _⟩
end Go.Proofs.Ytpmgoediglmofaa
