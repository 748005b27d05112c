/- Texts of the proof, laid together: EightWalk. -/
import Derived.Test.YtbcagdjfegobnaaGreatC15
import Derived.Test.YtbcagdjfegobnaaGreatC04
import Derived.Test.YtbcagdjfegobnaaGreatC00
/- The contract of token.eight. -/
namespace Go.Proofs.YtbcagdjfegobnaaGreat
open Go.ChangeShapes Go.WideShapes Go.ChangeAt Go.RowKit
set_option linter.unusedVariables false

theorem u8_info8 : (Tryz.prog.info? 5).map (fun i => (i.zero, i.size, i.bytes)) = some (some (.int .u8 0), 1, 1) := by kernel_rfl

set_option maxRecDepth 100000 in
set_option maxHeartbeats 1000000 in
theorem eight_nat (n : Nat) (h1 : n < 18446744073709551616) (w : World) :
    Calls Tryz.prog 163 #[.int .u64 n] w fun e w' =>
      e = .returned (.slice (some ⟨w.heap.size, 0, none⟩) 8 8) ∧ Blk w' w.heap.size 5 (u8s (beB 8 n)).toArray ∧ Below w.heap.size w w' := by
  have hmk : ∀ W, (Instr.makeSlice 30 (.int .i64 8) (.int .i64 8)).run Tryz.prog W = .ok (.slice (some ⟨W.heap.size, 0, none⟩) 8 8) (W.alloc (.cells (madeCells #[.int .u8 0] 8) 5)) :=
    fun W => run_make_row' 30 5 (.int .u8 0) 1 Tryz.underlying30 u8_info8 rfl .i64 .i64 8 (by omega) (by omega) W
  have hB0 : Blk (w.alloc (.cells (madeCells #[.int .u8 0] 8) 5)) w.heap.size 5 (u8s ((beB 8 n).take 0 ++ List.replicate (8 - 0) 0)).toArray := by
    have := Blk.new w 5 (madeCells #[.int .u8 0] 8)
    rw [zeros_u8] at this ⊢
    simpa using this
  have hb0 : Below w.heap.size w (w.alloc (.cells (madeCells #[.int .u8 0] 8) 5)) := (Below.refl _ _).alloc (Nat.le_refl _) _
  have HB0 := Lib.hid hB0
  clear hB0
  go_enter Tryz.func163, Tryz.ntmps163
  go_wp2_with fail
  go_loopw [8] (fun i wr => ∃ k : Nat, k ≤ 8 ∧ i = .int .i64 k ∧ Blk wr w.heap.size 5 (u8s ((beB 8 n).take k ++ List.replicate (8 - k) 0)).toArray ∧ Below w.heap.size w wr) (fun i _ => 8 - (intOf i).toNat)
  case atStart => exact ⟨0, Nat.zero_le _, rfl, HB0.out, hb0⟩
  case round =>
    obtain ⟨k, hk, rfl, hB, hb⟩ := hrel
    clear hb0 hmk HB0
    by_cases hlt : k < 8
    · have hl : ((beB 8 n).take k ++ List.replicate (8 - k) 0).length = 8 := by simp [beB_length]; omega
      have hc : wr.cell? ⟨w.heap.size, k, none⟩ = some (.int .u8 ((((beB 8 n).take k ++ List.replicate (8 - k) 0).getD k 0).toNat : Int)) := by
        rw [hB.cell]; exact u8s_at _ _ (by omega)
      have hf := hB.frozen k
      have HB := Lib.hid hB
      clear hB hl
      go_wp2_with fail
      go_roundw
      case rel =>
        refine ⟨k + 1, by omega, by go_num, ?_, hb.setCell (Nat.le_refl _) _⟩
        have := HB.out.set_ k (.int .u8 (((beB 8 n).getD k 0).toNat : Int))
        rw [u8s_set, fill_set _ 8 k (beB_length _ _) hlt, ← eight_byte n k hlt] at this
        exact this
      case measure => simp [intOf]; omega
    · obtain rfl : k = 8 := by omega
      rw [List.take_of_length_le (by simp [beB_length])] at hB
      simp only [Nat.sub_self, List.replicate_zero, List.append_nil] at hB
      have HB := Lib.hid hB
      clear hB
      go_wp2_with fail
      go_ret
      exact ⟨rfl, HB.out, hb⟩

theorem eight_any (x : Int) (h0 : 0 ≤ x) (h1 : x < 18446744073709551616) (w : World) :
    Calls Tryz.prog 163 #[.int .u64 x] w fun e w' =>
      e = .returned (.slice (some ⟨w.heap.size, 0, none⟩) 8 8) ∧ Blk w' w.heap.size 5 (u8s (beB 8 x.toNat)).toArray ∧ Below w.heap.size w w' := by
  have h := eight_nat x.toNat (by omega) w
  rwa [show ((x.toNat : Nat) : Int) = x from by omega] at h
end Go.Proofs.YtbcagdjfegobnaaGreat
