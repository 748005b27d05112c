/- The contract of fields.used: how much room a table's fields take. -/
import Derived.Test.YtihngonemdaihaaFLine
import Derived.Test.YtihngonemdaihaaTableWalk
namespace Go.Proofs.Ytihngonemdaihaa
open Go.ChangeShapes Go.WideShapes Go.ChangeAt Go.RowKit
set_option linter.unusedVariables false

set_option maxRecDepth 100000 in
set_option maxHeartbeats 1000000 in
theorem fUsed_any (room put : Int) (A : Option Addr) (n c : Nat) (l : List Fld) (hn : l.length = n) (hnc : n ≤ c) (hcm : c ≤ 9223372036854775807) (s : Nat) (hs : tsz l = s) (hs1 : s ≤ 1000000) (w : World) (hr : RdX fcells 2 w A l) :
    Calls Try.prog 27 #[.agg #[.int .i64 room, .int .i64 put, .slice A n c]] w fun e w' => e = .returned (.int .i64 (s : Int)) ∧ Below w.heap.size w w' := by
  have HN := Lib.hid hn
  have HR0 := Lib.hid hr
  have HS := Lib.hid hs
  clear hn hr hs
  go_enter Try.func27, Try.ntmps27
  go_upto_region 1 with (fail)
  refine wp_world (fun w' => Blk w' w.heap.size 29 #[.int .i64 room, .int .i64 put, .slice A n c] ∧ Below w.heap.size w w') ⟨Blk.new _ _ _, (Below.refl _ _).alloc (Nat.le_refl _) _⟩ ?_
  rintro w1 ⟨hT1, hb1⟩
  have FT := hT1.facts3
  have HR := Lib.hid (RdX.below HR0.out hb1)
  have HB1 := Lib.hid hb1
  clear hT1 hb1 HR0
  go_wp2_with fail
  clear FT
  go_loopw [3, 9] (fun t i wr => ∃ (k q : Nat), k ≤ n ∧ i = .int .i64 k ∧ t = .int .i64 (q : Int) ∧ Hid (tsz (l.take k) = q) ∧ q ≤ 1000000 ∧ Below w1.heap.size w1 wr) (fun _ i _ => n - (intOf i).toNat)
  case atStart => exact ⟨0, 0, Nat.zero_le _, rfl, rfl, rfl, by decide, Below.refl _ _⟩
  case round =>
    obtain ⟨k, q, hk, rfl, rfl, HQ, hq1, hb⟩ := hrel
    by_cases hlt : k < n
    · have hlen := HN.out
      obtain ⟨b, off, rfl, hcell⟩ := (RdX.below HR.out hb).fcell (by omega)
      obtain ⟨c0, c1⟩ := hcell k (by omega)
      have ht := tsz_take l k (by omega)
      have hle := tsz_take_le l (k + 1)
      rw [HS.out] at hle
      rw [HQ.out] at ht
      obtain ⟨x, y, hx⟩ : ∃ x y, l.getD k fnil = (x, y) := ⟨_, _, rfl⟩
      rw [hx] at c0 c1 ht
      obtain ⟨p, hp⟩ : ∃ p, x.size + y.size + 32 = p := ⟨_, rfl⟩
      have hf : fsz (x, y) = p := hp
      rw [hf] at ht
      have hp1 : p ≤ 1000000 := by omega
      have hqp : q + p ≤ 1000000 := by omega
      have HP := Lib.hid hp
      have HT := Lib.hid ht
      clear hx hlen hcell hp hf ht hle
      go_wp2_with fail
      refine (tSize_any x y p HP.out hp1 _).mono ?_
      rintro e w2 ⟨rfl, hb2⟩
      have hbz := (hb.alloc hb.size (.cells #[.string x, .string y] 47)).trans (hb2.mono (by have := hb.size; simp; omega))
      clear hb hb2 c0 c1
      go_wp2_with fail
      go_roundw
      case rel => exact ⟨k + 1, q + p, by omega, by go_num, by go_num, HT.out, hqp, hbz⟩
      case measure => simp [intOf]; omega
    · obtain rfl : k = n := by omega
      have : q = s := by rw [← HQ.out, ← HS.out, List.take_of_length_le (by have := HN.out; omega)]
      subst this
      have hz := HB1.out.trans (hb.mono HB1.out.size)
      go_wp2_with fail
      go_ret
      exact ⟨rfl, hz⟩
end Go.Proofs.Ytihngonemdaihaa
