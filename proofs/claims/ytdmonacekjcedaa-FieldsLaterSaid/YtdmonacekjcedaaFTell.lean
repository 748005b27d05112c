/- The contract of fieldsTell. -/
import Derived.Test.YtdmonacekjcedaaFEnc1
import Derived.Deep.QuietTactic
namespace Go.Proofs.Ytdmonacekjcedaa
open Go.ChangeShapes Go.WideShapes Go.ChangeAt Go.RowKit
set_option linter.unusedVariables false

set_option maxHeartbeats 1000000 in
theorem sameFields_eq (A B : Option Addr) (n c d : Nat) (l : List Fld) (hn : l.length = n) (hnc : n ≤ c) (hnd : n ≤ d) (hcm : c ≤ 9223372036854775807) (hdm : d ≤ 9223372036854775807) (w : World) (hA : RdX fcells 2 w A l) (hB : RdX fcells 2 w B l) :
    Calls Try.prog 15 #[.slice A n c, .slice B n d] w fun e w' => e = .returned (.bool true) ∧ Below w.heap.size w w' := by
  have HN := Lib.hid hn
  have HA := Lib.hid hA
  have HB := Lib.hid hB
  clear hn hA hB
  go_enter Try.func15, Try.ntmps15
  go_wp2_with fail
  go_loopw [5, 6] (fun ok i wr => ∃ k : Nat, k ≤ n ∧ i = .int .i64 k ∧ ok = .bool true ∧ Below w.heap.size w wr) (fun _ i _ => n - (intOf i).toNat)
  case atStart => exact ⟨0, Nat.zero_le _, rfl, by simp, Below.refl _ _⟩
  case round =>
    obtain ⟨k, hk, rfl, rfl, hb⟩ := hrel
    by_cases hlt : k < n
    · have hlen := HN.out
      obtain ⟨b, off, rfl, hcell⟩ := (RdX.below HA.out hb).fcell (by omega)
      obtain ⟨b', off', rfl, hcell'⟩ := (RdX.below HB.out hb).fcell (by omega)
      obtain ⟨c0, c1⟩ := hcell k (by omega)
      obtain ⟨d0, d1⟩ := hcell' k (by omega)
      obtain ⟨x1, x2, hx⟩ : ∃ x1 x2, l.getD k fnil = (x1, x2) := ⟨_, _, rfl⟩
      rw [hx] at c0 c1 d0 d1
      have hk0 : (0 : Int) ≤ (k : Int) := by omega
      have hk1 : (k : Int) < (n : Int) := by omega
      clear hx hlen hcell hcell'
      go_upto_region 5 with (fail)
      go_quiet (fail)
      have hb2 : Below w.heap.size w (wr.drewN nq) := ⟨hb.os, hb.tape, hb.output, hb.size, hb.block⟩
      go_wp2_with fail
      go_roundw
      case rel => exact ⟨k + 1, by omega, by go_num, by simp, hb2⟩
      case measure => simp [intOf]; omega
    · go_wp2_with fail
      go_ret
      exact ⟨rfl, hb⟩


def aStr : ByteArray := ⟨#[97]⟩
def bStr : ByteArray := ⟨#[98]⟩
theorem known_ab : knownR (aStr, bStr) = (0, false, false) := by decide +kernel
theorem dec_ab : fdecR 0 [] (enc1 aStr bStr 0 false) = ([(aStr, bStr)], 0) := by decide +kernel
theorem tab0 (w : World) (r : Nat) (hr : r ≤ 160) : TabV w (r : Int) 0 none 0 0 [] :=
  ⟨rfl, Nat.le_refl _, by decide, by omega, by omega, by decide, by decide, fun f hf => absurd hf List.not_mem_nil, by simp [tsz], RdX.nil⟩

set_option maxRecDepth 100000 in
set_option maxHeartbeats 4000000 in
theorem fieldsTell_any (w : World) : Calls Try.prog 14 #[] w fun e w' => e = .returned (.bool true) ∧ Below w.heap.size w w' := by
  go_enter Try.func14, Try.ntmps14
  go_upto_region 2 with (fail)
  refine wp_world (fun w' => Blk w' w.heap.size 39 #[.string aStr, .string bStr] ∧ Below w.heap.size w w') ⟨Blk.new _ _ _, (Below.refl _ _).alloc (Nat.le_refl _) _⟩ ?_
  rintro w1 ⟨hL1, hb1⟩
  have HRD1 := Lib.hid (show RdX fcells 2 w1 (some ⟨w.heap.size, 0, none⟩) [(aStr, bStr)] from Rd.of_blk (size := 2) (n := 1) hL1 rfl)
  have HB1 := Lib.hid hb1
  clear hL1 hb1
  go_wp2_with fail
  refine (fEncode_one _ 0 (by decide) aStr bStr ⟨by decide, by decide, by decide⟩ false 0 false false known_ab (.inr ⟨rfl, rfl, rfl⟩) (by decide) _ 1 (Nat.le_refl _) (by decide) HRD1.out).mono ?_
  rintro e w2 ⟨A', c', A2, n2, c2, rfl, hn2, hc2, hm2, hr2, hb2⟩
  have HRD2 := Lib.hid (RdX.below HRD1.out hb2)
  have HR2 := Lib.hid hr2
  have HN2 := Lib.hid hn2
  have HB2 := Lib.hid (HB1.out.trans (hb2.mono HB1.out.size))
  clear hb2 hr2 hn2 HRD1 HB1
  go_upto_region 3 with (fail)
  refine wp_world (fun w' => Below w2.heap.size w2 w') ((Below.refl _ _).alloc (Nat.le_refl _) _) ?_
  intro w3 hb3
  have HRD3 := Lib.hid (RdX.below HRD2.out hb3)
  have HR3 := Lib.hid (HR2.out.below hb3)
  have HB3 := Lib.hid (HB2.out.trans (hb3.mono HB2.out.size))
  clear hb3 HRD2 HR2 HB2
  go_wp2_with fail
  refine (fDecode_any _ 0 0 none 0 0 [] (tab0 _ 0 (by decide)) A2 _ n2 c2 HN2.out hc2 hm2 HR3.out _ _ dec_ab).mono ?_
  rintro e w4 ⟨B, m, d, rfl, hm, hmd, hdm, hrB, hb4⟩
  obtain rfl : m = 1 := by rw [← hm]; rfl
  have HRD4 := Lib.hid (RdX.below HRD3.out hb4)
  have HRB4 := Lib.hid hrB
  have HB4 := Lib.hid (HB3.out.trans (hb4.mono HB3.out.size))
  clear hb4 hrB hm HRD3 HR3 HB3
  go_wp2_with fail
  refine (sameFields_eq _ B 1 1 d [(aStr, bStr)] rfl (Nat.le_refl _) hmd (by decide) hdm _ HRD4.out HRB4.out).mono ?_
  rintro e w5 ⟨rfl, hb5⟩
  have HB5 := Lib.hid (HB4.out.trans (hb5.mono HB4.out.size))
  clear hb5 HB4
  go_wp2_with fail
  refine (fKnown_blk _).mono ?_
  rintro e w6 ⟨rfl, _, hb6⟩
  have HB6 := Lib.hid (HB5.out.trans (hb6.mono HB5.out.size))
  clear hb6 HB5
  go_wp2_with fail
  go_ret
  exact ⟨by first | rfl | (simp; done), HB6.out⟩
end Go.Proofs.Ytdmonacekjcedaa
