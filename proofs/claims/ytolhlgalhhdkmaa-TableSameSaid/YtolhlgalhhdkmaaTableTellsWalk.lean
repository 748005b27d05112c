/- The contracts of sameFields and tableTells. -/
import Derived.Test.YtolhlgalhhdkmaaInsertWalk
import Derived.Test.YtolhlgalhhdkmaaGetWalk
import Derived.Deep.QuietTactic
import Derived.BigQuiet
namespace Go.Proofs.Ytolhlgalhhdkmaa
open Go.ChangeShapes Go.WideShapes Go.ChangeAt Go.RowKit
set_option linter.unusedVariables false

set_option maxHeartbeats 1000000 in
theorem sameFields_eq (A B : Option Addr) (n c d : Nat) (l : List Fld) (hn : l.length = n) (hnc : n ≤ c) (hnd : n ≤ d) (hcm : c ≤ 9223372036854775807) (hdm : d ≤ 9223372036854775807) (w : World) (hA : RdX fcells 2 w A l) (hB : RdX fcells 2 w B l) :
    Calls Try.prog 30 #[.slice A n c, .slice B n d] w fun e w' => e = .returned (.bool true) ∧ Below w.heap.size w w' := by
  have HN := Lib.hid hn
  have HA := Lib.hid hA
  have HB := Lib.hid hB
  clear hn hA hB
  go_enter Try.func30, Try.ntmps30
  go_wp2_with fail
  go_loopw [5, 6] (fun ok i wr => ∃ k : Nat, k ≤ n ∧ i = .int .i64 k ∧ ok = .bool true ∧ Below w.heap.size w wr) (fun _ i _ => n - (intOf i).toNat)
  case atStart => exact ⟨0, Nat.zero_le _, rfl, by simp, Below.refl _ _⟩
  case round =>
    obtain ⟨k, hk, rfl, rfl, hb⟩ := hrel
    by_cases hlt : k < n
    · have hlen := HN.out
      obtain ⟨b, off, rfl, hcell⟩ := (RdX.below HA.out hb).fcell (by omega)
      obtain ⟨b', off', rfl, hcell'⟩ := (RdX.below HB.out hb).fcell (by omega)
      obtain ⟨c0, c1⟩ := hcell k (by omega)
      obtain ⟨d0, d1⟩ := hcell' k (by omega)
      obtain ⟨x1, x2, hx⟩ : ∃ x1 x2, l.getD k fnil = (x1, x2) := ⟨_, _, rfl⟩
      rw [hx] at c0 c1 d0 d1
      have hk0 : (0 : Int) ≤ (k : Int) := by omega
      have hk1 : (k : Int) < (n : Int) := by omega
      clear hx hlen hcell hcell'
      go_upto_region 5 with (fail)
      go_quiet (fail)
      have hb2 : Below w.heap.size w (wr.drewN nq) := ⟨hb.os, hb.tape, hb.output, hb.size, hb.block⟩
      go_wp2_with fail
      go_roundw
      case rel => exact ⟨k + 1, by omega, by go_num, by simp, hb2⟩
      case measure => simp [intOf]; omega
    · go_wp2_with fail
      go_ret
      exact ⟨rfl, hb⟩

theorem tableTells_any (w : World) : Calls Try.prog 27 #[] w fun e w' => e = .returned (.bool true) ∧ Below w.heap.size w w' := by
  have HI : Hid (∀ w, Calls Try.prog 38 #[.agg #[.int .i64 100, .int .i64 0, .slice none 0 0], .agg #[.string ⟨#[97]⟩, .string ⟨#[98]⟩]] w fun e w' => ∃ A' c', e = .returned (.tuple #[.agg #[.int .i64 100, .int .i64 1, .slice A' 1 c'], .int .i64 0]) ∧ 1 ≤ c' ∧ c' ≤ 9223372036854775807 ∧ RdX fcells 2 w' A' [((⟨#[97]⟩ : ByteArray), (⟨#[98]⟩ : ByteArray))] ∧ Below w.heap.size w w') :=
    fun w => tInsert_ok 100 0 none 0 0 [] rfl (Nat.le_refl _) (by decide) (by decide) (by decide) (by decide) (fun f hf => (List.not_mem_nil hf).elim) (by decide) ⟨#[97]⟩ ⟨#[98]⟩ (by decide) (by decide) (by decide) 34 rfl (by decide) _ 1 rfl rfl w RdX.nil
  go_enter Try.func27, Try.ntmps27
  go_wp2_with fail
  refine (HI.out _).mono ?_
  rintro e w1 ⟨A1, c1, rfl, h1, h2, hrd, hb⟩
  clear HI
  have HRD := Lib.hid hrd
  clear hrd
  go_upto_region 2 with (fail)
  refine wp_world (fun w' => Blk w' w1.heap.size 55 #[.int .i64 100, .int .i64 1, .slice A1 1 c1] ∧ RdX fcells 2 w' A1 [((⟨#[97]⟩ : ByteArray), (⟨#[98]⟩ : ByteArray))] ∧ Below w.heap.size w w') ⟨Blk.new _ _ _, HRD.out.alloc _, hb.alloc hb.size _⟩ ?_
  clear HRD hb
  rintro w2 ⟨hB, hrd, hb⟩
  have HRD := Lib.hid hrd
  clear hrd
  have FB := hB.facts3
  go_wp2_with fail
  refine (tGet_ok 100 1 A1 1 c1 _ rfl h1 h2 (by decide) (by decide) (by decide) (by decide) (fun f hf => by obtain rfl := List.mem_singleton.1 hf; exact ⟨by decide, by decide, by decide⟩) (by decide) 0 0 (by decide) (by decide) ⟨#[97]⟩ ⟨#[98]⟩ rfl _ HRD.out).mono ?_
  rintro e w3 ⟨rfl, hb3⟩
  have hbz := hb.trans (hb3.mono hb.size)
  go_wp2_with fail
  go_ret
  exact ⟨rfl, hbz.alloc hbz.size _⟩
end Go.Proofs.Ytolhlgalhhdkmaa
