/- Texts of the proof, laid together: WholeWalk. -/
import Derived.Test.YtbcagdjfegobnaaGreatC08
import Derived.Test.YtbcagdjfegobnaaGreatC14
import Derived.Test.YtbcagdjfegobnaaGreatC00
/- The contract of packno.Whole. -/
namespace Go.Proofs.YtbcagdjfegobnaaGreat
open Go.ChangeShapes Go.WideShapes Go.ChangeAt Go.RowKit
set_option linter.unusedVariables false


set_option maxRecDepth 100000 in
set_option maxHeartbeats 1000000 in
theorem whole_1 (top : Int) (A : Option Addr) (bs : List UInt8) (c : Nat) (w : World) (h0 : -1 ≤ top) (h1 : top ≤ 4611686018427387903) (h : RdB w A bs) (hl : bs.length = 1) :
    Calls Tryz.prog 65 #[.int .i64 top, .slice A 1 c] w fun e w' => e = .returned (.tuple #[.int .i64 (wholeN (top + 1) 256 (valB bs 0)), .int .i64 0]) ∧ w = w' := by
  obtain ⟨b, off, rfl, hcell⟩ := h.cell (by omega)
  have HC := Lib.hid hcell
  have HL := Lib.hid hl
  have hA : bits .andNot .i64 (top + 1) (256 - 1) = top + 1 - (top + 1) % 256 := andNot_i64 (top + 1) 8 (by omega) (by omega) (by decide)
  have hlow := valB_lt bs 0 1 (by decide)
  rw [hl] at hlow
  have hO : bits .or .i64 (top + 1 - (top + 1) % 256) (valB bs 0 : Int) = top + 1 - (top + 1) % 256 + (valB bs 0 : Int) := clear_or (top + 1) 8 (valB bs 0) (by omega) (by omega) (by decide) (by simpa using hlow)
  simp only [Int.reduceSub] at hA
  have hm0 := Int.emod_nonneg (top + 1) (show (256 : Int) ≠ 0 by decide)
  have hm1 := Int.emod_lt_of_pos (top + 1) (show (0 : Int) < 256 by decide)
  have hlow' : (valB bs 0 : Int) < 256 := by have : valB bs 0 < 1 * 256 ^ 1 := hlow; simp at this; omega
  obtain ⟨N, hNn⟩ : ∃ N, N = top + 1 - (top + 1) % 256 + (valB bs 0 : Int) := ⟨_, rfl⟩
  rw [← hA] at hO
  rw [hA, ← hNn] at hO
  have hO' : bits .or .i64 (bits .andNot .i64 (top + 1) 255) (valB bs 0 : Int) = N := by rw [hA]; exact hO
  have HW : Hid (wholeN (top + 1) 256 (valB bs 0) = if N ≤ top + 1 - 256 / 2 ∧ N < 4611686018427387904 - 256 then N + 256 else if top + 1 + 256 / 2 < N ∧ 256 ≤ N then N - 256 else N) := by
    show wholeN _ _ _ = _
    rw [hNn]; rfl
  have hNlo : 0 ≤ N := by
    have := Int.emod_add_mul_ediv (top + 1) 256
    have : 0 ≤ (top + 1) / 256 := Int.ediv_nonneg (by omega) (by decide)
    omega
  have hNhi : N < 9223372036854775807 - 256 := by omega
  have HO := Lib.hid hO'
  clear hA hO hO' hcell h hl hNn hlow hm0 hm1 hlow'
  go_enter Tryz.func65, Tryz.ntmps65
  go_wp2_with fail
  go_loop [7, 32] (fun n i => ∃ k : Nat, k ≤ 1 ∧ i = .int .i64 k ∧ n = .int .i64 (valB (bs.take k) 0 : Nat)) (fun _ i => 1 - (intOf i).toNat)
  case atStart => exact ⟨0, Nat.zero_le _, rfl, rfl⟩
  case round =>
    obtain ⟨k, hk, rfl, rfl⟩ := hrel
    by_cases hlt : k < 1
    · have hcl := HC.out k (by rw [HL.out]; exact hlt)
      have HS := Lib.hid (valB_take bs 0 k (by rw [HL.out]; exact hlt))
      have hv : valB (bs.take k) 0 < 18014398509481984 := by
        have h1 := valB_lt (bs.take k) 0 1 (by decide)
        have h2 : 256 ^ (bs.take k).length ≤ 256 ^ 4 := Nat.pow_le_pow_right (by decide) (by simp; omega)
        omega
      generalize (bs.getD k 0) = b1 at *
      have hb1 : (b1.toNat : Int) < 256 := by have := b1.toNat_lt; omega
      have HB := Lib.hid (or_byte (valB (bs.take k) 0) b1.toNat hv (by omega))
      clear HW
      generalize valB (bs.take k) 0 = V at *
      go_wp2_with fail
      go_round
      case rel => exact ⟨k + 1, by omega, by go_num, by rw [HB.out, HS.out]⟩
      case measure => simp [intOf]; omega
    · obtain rfl : k = 1 := by omega
      rw [List.take_of_length_le (by rw [HL.out]; exact Nat.le_refl _)]
      by_cases c1 : N ≤ top + 1 - 256 / 2 ∧ N < 4611686018427387904 - 256
      · have HR : Hid (wholeN (top + 1) 256 (valB bs 0) = N + 256) := by rw [HW.out]; exact if_pos c1
        have c1a := c1.1
        have c1b := c1.2
        clear HW c1
        have hO := HO.out
        go_wp2_with fail
        go_ret2
        exact ⟨by rw [HR.out]; rfl, rfl⟩
      · by_cases c2 : top + 1 + 256 / 2 < N ∧ 256 ≤ N
        · have HR : Hid (wholeN (top + 1) 256 (valB bs 0) = N - 256) := by rw [HW.out, if_neg c1]; exact if_pos c2
          have c2a := c2.1
          have c2b := c2.2
          clear HW c1 c2
          have hO := HO.out
          go_wp2_with fail
          go_ret2
          exact ⟨by rw [HR.out]; rfl, rfl⟩
        · have HR : Hid (wholeN (top + 1) 256 (valB bs 0) = N) := by rw [HW.out, if_neg c1]; exact if_neg c2
          clear HW
          have hO := HO.out
          have HC1 := Lib.hid c1
          have HC2 := Lib.hid c2
          clear c1 c2
          by_cases d1 : N ≤ top + 1 - 256 / 2
          · have d2 : 4611686018427387904 - 256 ≤ N := by have := HC1.out; omega
            go_wp2_with fail
            go_ret2
            exact ⟨by rw [HR.out]; rfl, rfl⟩
          · by_cases d3 : top + 1 + 256 / 2 < N
            · have d4 : N < 256 := by have := HC2.out; omega
              go_wp2_with fail
              go_ret2
              exact ⟨by rw [HR.out]; rfl, rfl⟩
            · go_wp2_with fail
              go_ret2
              exact ⟨by rw [HR.out]; rfl, rfl⟩

set_option maxRecDepth 100000 in
set_option maxHeartbeats 1000000 in
theorem whole_2 (top : Int) (A : Option Addr) (bs : List UInt8) (c : Nat) (w : World) (h0 : -1 ≤ top) (h1 : top ≤ 4611686018427387903) (h : RdB w A bs) (hl : bs.length = 2) :
    Calls Tryz.prog 65 #[.int .i64 top, .slice A 2 c] w fun e w' => e = .returned (.tuple #[.int .i64 (wholeN (top + 1) 65536 (valB bs 0)), .int .i64 0]) ∧ w = w' := by
  obtain ⟨b, off, rfl, hcell⟩ := h.cell (by omega)
  have HC := Lib.hid hcell
  have HL := Lib.hid hl
  have hA : bits .andNot .i64 (top + 1) (65536 - 1) = top + 1 - (top + 1) % 65536 := andNot_i64 (top + 1) 16 (by omega) (by omega) (by decide)
  have hlow := valB_lt bs 0 1 (by decide)
  rw [hl] at hlow
  have hO : bits .or .i64 (top + 1 - (top + 1) % 65536) (valB bs 0 : Int) = top + 1 - (top + 1) % 65536 + (valB bs 0 : Int) := clear_or (top + 1) 16 (valB bs 0) (by omega) (by omega) (by decide) (by simpa using hlow)
  simp only [Int.reduceSub] at hA
  have hm0 := Int.emod_nonneg (top + 1) (show (65536 : Int) ≠ 0 by decide)
  have hm1 := Int.emod_lt_of_pos (top + 1) (show (0 : Int) < 65536 by decide)
  have hlow' : (valB bs 0 : Int) < 65536 := by have : valB bs 0 < 1 * 256 ^ 2 := hlow; simp at this; omega
  obtain ⟨N, hNn⟩ : ∃ N, N = top + 1 - (top + 1) % 65536 + (valB bs 0 : Int) := ⟨_, rfl⟩
  rw [← hA] at hO
  rw [hA, ← hNn] at hO
  have hO' : bits .or .i64 (bits .andNot .i64 (top + 1) 65535) (valB bs 0 : Int) = N := by rw [hA]; exact hO
  have HW : Hid (wholeN (top + 1) 65536 (valB bs 0) = if N ≤ top + 1 - 65536 / 2 ∧ N < 4611686018427387904 - 65536 then N + 65536 else if top + 1 + 65536 / 2 < N ∧ 65536 ≤ N then N - 65536 else N) := by
    show wholeN _ _ _ = _
    rw [hNn]; rfl
  have hNlo : 0 ≤ N := by
    have := Int.emod_add_mul_ediv (top + 1) 65536
    have : 0 ≤ (top + 1) / 65536 := Int.ediv_nonneg (by omega) (by decide)
    omega
  have hNhi : N < 9223372036854775807 - 65536 := by omega
  have HO := Lib.hid hO'
  clear hA hO hO' hcell h hl hNn hlow hm0 hm1 hlow'
  go_enter Tryz.func65, Tryz.ntmps65
  go_wp2_with fail
  go_loop [7, 32] (fun n i => ∃ k : Nat, k ≤ 2 ∧ i = .int .i64 k ∧ n = .int .i64 (valB (bs.take k) 0 : Nat)) (fun _ i => 2 - (intOf i).toNat)
  case atStart => exact ⟨0, Nat.zero_le _, rfl, rfl⟩
  case round =>
    obtain ⟨k, hk, rfl, rfl⟩ := hrel
    by_cases hlt : k < 2
    · have hcl := HC.out k (by rw [HL.out]; exact hlt)
      have HS := Lib.hid (valB_take bs 0 k (by rw [HL.out]; exact hlt))
      have hv : valB (bs.take k) 0 < 18014398509481984 := by
        have h1 := valB_lt (bs.take k) 0 1 (by decide)
        have h2 : 256 ^ (bs.take k).length ≤ 256 ^ 4 := Nat.pow_le_pow_right (by decide) (by simp; omega)
        omega
      generalize (bs.getD k 0) = b1 at *
      have hb1 : (b1.toNat : Int) < 256 := by have := b1.toNat_lt; omega
      have HB := Lib.hid (or_byte (valB (bs.take k) 0) b1.toNat hv (by omega))
      clear HW
      generalize valB (bs.take k) 0 = V at *
      go_wp2_with fail
      go_round
      case rel => exact ⟨k + 1, by omega, by go_num, by rw [HB.out, HS.out]⟩
      case measure => simp [intOf]; omega
    · obtain rfl : k = 2 := by omega
      rw [List.take_of_length_le (by rw [HL.out]; exact Nat.le_refl _)]
      by_cases c1 : N ≤ top + 1 - 65536 / 2 ∧ N < 4611686018427387904 - 65536
      · have HR : Hid (wholeN (top + 1) 65536 (valB bs 0) = N + 65536) := by rw [HW.out]; exact if_pos c1
        have c1a := c1.1
        have c1b := c1.2
        clear HW c1
        have hO := HO.out
        go_wp2_with fail
        go_ret2
        exact ⟨by rw [HR.out]; rfl, rfl⟩
      · by_cases c2 : top + 1 + 65536 / 2 < N ∧ 65536 ≤ N
        · have HR : Hid (wholeN (top + 1) 65536 (valB bs 0) = N - 65536) := by rw [HW.out, if_neg c1]; exact if_pos c2
          have c2a := c2.1
          have c2b := c2.2
          clear HW c1 c2
          have hO := HO.out
          go_wp2_with fail
          go_ret2
          exact ⟨by rw [HR.out]; rfl, rfl⟩
        · have HR : Hid (wholeN (top + 1) 65536 (valB bs 0) = N) := by rw [HW.out, if_neg c1]; exact if_neg c2
          clear HW
          have hO := HO.out
          have HC1 := Lib.hid c1
          have HC2 := Lib.hid c2
          clear c1 c2
          by_cases d1 : N ≤ top + 1 - 65536 / 2
          · have d2 : 4611686018427387904 - 65536 ≤ N := by have := HC1.out; omega
            go_wp2_with fail
            go_ret2
            exact ⟨by rw [HR.out]; rfl, rfl⟩
          · by_cases d3 : top + 1 + 65536 / 2 < N
            · have d4 : N < 65536 := by have := HC2.out; omega
              go_wp2_with fail
              go_ret2
              exact ⟨by rw [HR.out]; rfl, rfl⟩
            · go_wp2_with fail
              go_ret2
              exact ⟨by rw [HR.out]; rfl, rfl⟩

set_option maxRecDepth 100000 in
set_option maxHeartbeats 1000000 in
theorem whole_3 (top : Int) (A : Option Addr) (bs : List UInt8) (c : Nat) (w : World) (h0 : -1 ≤ top) (h1 : top ≤ 4611686018427387903) (h : RdB w A bs) (hl : bs.length = 3) :
    Calls Tryz.prog 65 #[.int .i64 top, .slice A 3 c] w fun e w' => e = .returned (.tuple #[.int .i64 (wholeN (top + 1) 16777216 (valB bs 0)), .int .i64 0]) ∧ w = w' := by
  obtain ⟨b, off, rfl, hcell⟩ := h.cell (by omega)
  have HC := Lib.hid hcell
  have HL := Lib.hid hl
  have hA : bits .andNot .i64 (top + 1) (16777216 - 1) = top + 1 - (top + 1) % 16777216 := andNot_i64 (top + 1) 24 (by omega) (by omega) (by decide)
  have hlow := valB_lt bs 0 1 (by decide)
  rw [hl] at hlow
  have hO : bits .or .i64 (top + 1 - (top + 1) % 16777216) (valB bs 0 : Int) = top + 1 - (top + 1) % 16777216 + (valB bs 0 : Int) := clear_or (top + 1) 24 (valB bs 0) (by omega) (by omega) (by decide) (by simpa using hlow)
  simp only [Int.reduceSub] at hA
  have hm0 := Int.emod_nonneg (top + 1) (show (16777216 : Int) ≠ 0 by decide)
  have hm1 := Int.emod_lt_of_pos (top + 1) (show (0 : Int) < 16777216 by decide)
  have hlow' : (valB bs 0 : Int) < 16777216 := by have : valB bs 0 < 1 * 256 ^ 3 := hlow; simp at this; omega
  obtain ⟨N, hNn⟩ : ∃ N, N = top + 1 - (top + 1) % 16777216 + (valB bs 0 : Int) := ⟨_, rfl⟩
  rw [← hA] at hO
  rw [hA, ← hNn] at hO
  have hO' : bits .or .i64 (bits .andNot .i64 (top + 1) 16777215) (valB bs 0 : Int) = N := by rw [hA]; exact hO
  have HW : Hid (wholeN (top + 1) 16777216 (valB bs 0) = if N ≤ top + 1 - 16777216 / 2 ∧ N < 4611686018427387904 - 16777216 then N + 16777216 else if top + 1 + 16777216 / 2 < N ∧ 16777216 ≤ N then N - 16777216 else N) := by
    show wholeN _ _ _ = _
    rw [hNn]; rfl
  have hNlo : 0 ≤ N := by
    have := Int.emod_add_mul_ediv (top + 1) 16777216
    have : 0 ≤ (top + 1) / 16777216 := Int.ediv_nonneg (by omega) (by decide)
    omega
  have hNhi : N < 9223372036854775807 - 16777216 := by omega
  have HO := Lib.hid hO'
  clear hA hO hO' hcell h hl hNn hlow hm0 hm1 hlow'
  go_enter Tryz.func65, Tryz.ntmps65
  go_wp2_with fail
  go_loop [7, 32] (fun n i => ∃ k : Nat, k ≤ 3 ∧ i = .int .i64 k ∧ n = .int .i64 (valB (bs.take k) 0 : Nat)) (fun _ i => 3 - (intOf i).toNat)
  case atStart => exact ⟨0, Nat.zero_le _, rfl, rfl⟩
  case round =>
    obtain ⟨k, hk, rfl, rfl⟩ := hrel
    by_cases hlt : k < 3
    · have hcl := HC.out k (by rw [HL.out]; exact hlt)
      have HS := Lib.hid (valB_take bs 0 k (by rw [HL.out]; exact hlt))
      have hv : valB (bs.take k) 0 < 18014398509481984 := by
        have h1 := valB_lt (bs.take k) 0 1 (by decide)
        have h2 : 256 ^ (bs.take k).length ≤ 256 ^ 4 := Nat.pow_le_pow_right (by decide) (by simp; omega)
        omega
      generalize (bs.getD k 0) = b1 at *
      have hb1 : (b1.toNat : Int) < 256 := by have := b1.toNat_lt; omega
      have HB := Lib.hid (or_byte (valB (bs.take k) 0) b1.toNat hv (by omega))
      clear HW
      generalize valB (bs.take k) 0 = V at *
      go_wp2_with fail
      go_round
      case rel => exact ⟨k + 1, by omega, by go_num, by rw [HB.out, HS.out]⟩
      case measure => simp [intOf]; omega
    · obtain rfl : k = 3 := by omega
      rw [List.take_of_length_le (by rw [HL.out]; exact Nat.le_refl _)]
      by_cases c1 : N ≤ top + 1 - 16777216 / 2 ∧ N < 4611686018427387904 - 16777216
      · have HR : Hid (wholeN (top + 1) 16777216 (valB bs 0) = N + 16777216) := by rw [HW.out]; exact if_pos c1
        have c1a := c1.1
        have c1b := c1.2
        clear HW c1
        have hO := HO.out
        go_wp2_with fail
        go_ret2
        exact ⟨by rw [HR.out]; rfl, rfl⟩
      · by_cases c2 : top + 1 + 16777216 / 2 < N ∧ 16777216 ≤ N
        · have HR : Hid (wholeN (top + 1) 16777216 (valB bs 0) = N - 16777216) := by rw [HW.out, if_neg c1]; exact if_pos c2
          have c2a := c2.1
          have c2b := c2.2
          clear HW c1 c2
          have hO := HO.out
          go_wp2_with fail
          go_ret2
          exact ⟨by rw [HR.out]; rfl, rfl⟩
        · have HR : Hid (wholeN (top + 1) 16777216 (valB bs 0) = N) := by rw [HW.out, if_neg c1]; exact if_neg c2
          clear HW
          have hO := HO.out
          have HC1 := Lib.hid c1
          have HC2 := Lib.hid c2
          clear c1 c2
          by_cases d1 : N ≤ top + 1 - 16777216 / 2
          · have d2 : 4611686018427387904 - 16777216 ≤ N := by have := HC1.out; omega
            go_wp2_with fail
            go_ret2
            exact ⟨by rw [HR.out]; rfl, rfl⟩
          · by_cases d3 : top + 1 + 16777216 / 2 < N
            · have d4 : N < 16777216 := by have := HC2.out; omega
              go_wp2_with fail
              go_ret2
              exact ⟨by rw [HR.out]; rfl, rfl⟩
            · go_wp2_with fail
              go_ret2
              exact ⟨by rw [HR.out]; rfl, rfl⟩

set_option maxRecDepth 100000 in
set_option maxHeartbeats 1000000 in
theorem whole_4 (top : Int) (A : Option Addr) (bs : List UInt8) (c : Nat) (w : World) (h0 : -1 ≤ top) (h1 : top ≤ 4611686018427387903) (h : RdB w A bs) (hl : bs.length = 4) :
    Calls Tryz.prog 65 #[.int .i64 top, .slice A 4 c] w fun e w' => e = .returned (.tuple #[.int .i64 (wholeN (top + 1) 4294967296 (valB bs 0)), .int .i64 0]) ∧ w = w' := by
  obtain ⟨b, off, rfl, hcell⟩ := h.cell (by omega)
  have HC := Lib.hid hcell
  have HL := Lib.hid hl
  have hA : bits .andNot .i64 (top + 1) (4294967296 - 1) = top + 1 - (top + 1) % 4294967296 := andNot_i64 (top + 1) 32 (by omega) (by omega) (by decide)
  have hlow := valB_lt bs 0 1 (by decide)
  rw [hl] at hlow
  have hO : bits .or .i64 (top + 1 - (top + 1) % 4294967296) (valB bs 0 : Int) = top + 1 - (top + 1) % 4294967296 + (valB bs 0 : Int) := clear_or (top + 1) 32 (valB bs 0) (by omega) (by omega) (by decide) (by simpa using hlow)
  simp only [Int.reduceSub] at hA
  have hm0 := Int.emod_nonneg (top + 1) (show (4294967296 : Int) ≠ 0 by decide)
  have hm1 := Int.emod_lt_of_pos (top + 1) (show (0 : Int) < 4294967296 by decide)
  have hlow' : (valB bs 0 : Int) < 4294967296 := by have : valB bs 0 < 1 * 256 ^ 4 := hlow; simp at this; omega
  obtain ⟨N, hNn⟩ : ∃ N, N = top + 1 - (top + 1) % 4294967296 + (valB bs 0 : Int) := ⟨_, rfl⟩
  rw [← hA] at hO
  rw [hA, ← hNn] at hO
  have hO' : bits .or .i64 (bits .andNot .i64 (top + 1) 4294967295) (valB bs 0 : Int) = N := by rw [hA]; exact hO
  have HW : Hid (wholeN (top + 1) 4294967296 (valB bs 0) = if N ≤ top + 1 - 4294967296 / 2 ∧ N < 4611686018427387904 - 4294967296 then N + 4294967296 else if top + 1 + 4294967296 / 2 < N ∧ 4294967296 ≤ N then N - 4294967296 else N) := by
    show wholeN _ _ _ = _
    rw [hNn]; rfl
  have hNlo : 0 ≤ N := by
    have := Int.emod_add_mul_ediv (top + 1) 4294967296
    have : 0 ≤ (top + 1) / 4294967296 := Int.ediv_nonneg (by omega) (by decide)
    omega
  have hNhi : N < 9223372036854775807 - 4294967296 := by omega
  have HO := Lib.hid hO'
  clear hA hO hO' hcell h hl hNn hlow hm0 hm1 hlow'
  go_enter Tryz.func65, Tryz.ntmps65
  go_wp2_with fail
  go_loop [7, 32] (fun n i => ∃ k : Nat, k ≤ 4 ∧ i = .int .i64 k ∧ n = .int .i64 (valB (bs.take k) 0 : Nat)) (fun _ i => 4 - (intOf i).toNat)
  case atStart => exact ⟨0, Nat.zero_le _, rfl, rfl⟩
  case round =>
    obtain ⟨k, hk, rfl, rfl⟩ := hrel
    by_cases hlt : k < 4
    · have hcl := HC.out k (by rw [HL.out]; exact hlt)
      have HS := Lib.hid (valB_take bs 0 k (by rw [HL.out]; exact hlt))
      have hv : valB (bs.take k) 0 < 18014398509481984 := by
        have h1 := valB_lt (bs.take k) 0 1 (by decide)
        have h2 : 256 ^ (bs.take k).length ≤ 256 ^ 4 := Nat.pow_le_pow_right (by decide) (by simp; omega)
        omega
      generalize (bs.getD k 0) = b1 at *
      have hb1 : (b1.toNat : Int) < 256 := by have := b1.toNat_lt; omega
      have HB := Lib.hid (or_byte (valB (bs.take k) 0) b1.toNat hv (by omega))
      clear HW
      generalize valB (bs.take k) 0 = V at *
      go_wp2_with fail
      go_round
      case rel => exact ⟨k + 1, by omega, by go_num, by rw [HB.out, HS.out]⟩
      case measure => simp [intOf]; omega
    · obtain rfl : k = 4 := by omega
      rw [List.take_of_length_le (by rw [HL.out]; exact Nat.le_refl _)]
      by_cases c1 : N ≤ top + 1 - 4294967296 / 2 ∧ N < 4611686018427387904 - 4294967296
      · have HR : Hid (wholeN (top + 1) 4294967296 (valB bs 0) = N + 4294967296) := by rw [HW.out]; exact if_pos c1
        have c1a := c1.1
        have c1b := c1.2
        clear HW c1
        have hO := HO.out
        go_wp2_with fail
        go_ret2
        exact ⟨by rw [HR.out]; rfl, rfl⟩
      · by_cases c2 : top + 1 + 4294967296 / 2 < N ∧ 4294967296 ≤ N
        · have HR : Hid (wholeN (top + 1) 4294967296 (valB bs 0) = N - 4294967296) := by rw [HW.out, if_neg c1]; exact if_pos c2
          have c2a := c2.1
          have c2b := c2.2
          clear HW c1 c2
          have hO := HO.out
          go_wp2_with fail
          go_ret2
          exact ⟨by rw [HR.out]; rfl, rfl⟩
        · have HR : Hid (wholeN (top + 1) 4294967296 (valB bs 0) = N) := by rw [HW.out, if_neg c1]; exact if_neg c2
          clear HW
          have hO := HO.out
          have HC1 := Lib.hid c1
          have HC2 := Lib.hid c2
          clear c1 c2
          by_cases d1 : N ≤ top + 1 - 4294967296 / 2
          · have d2 : 4611686018427387904 - 4294967296 ≤ N := by have := HC1.out; omega
            go_wp2_with fail
            go_ret2
            exact ⟨by rw [HR.out]; rfl, rfl⟩
          · by_cases d3 : top + 1 + 4294967296 / 2 < N
            · have d4 : N < 4294967296 := by have := HC2.out; omega
              go_wp2_with fail
              go_ret2
              exact ⟨by rw [HR.out]; rfl, rfl⟩
            · go_wp2_with fail
              go_ret2
              exact ⟨by rw [HR.out]; rfl, rfl⟩

theorem whole_n (top : Int) (A : Option Addr) (bs : List UInt8) (n c : Nat) (w : World) (hn : bs.length = n) (hn1 : 1 ≤ n) (hn4 : n ≤ 4) (h0 : -1 ≤ top) (h1 : top ≤ 4611686018427387903) (h : RdB w A bs) (r : Int) (hr : wholeN (top + 1) (256 ^ n : Nat) (valB bs 0) = r) :
    Calls Tryz.prog 65 #[.int .i64 top, .slice A n c] w fun e w' => e = .returned (.tuple #[.int .i64 r, .int .i64 0]) ∧ w = w' := by
  subst hr
  have : n = 1 ∨ n = 2 ∨ n = 3 ∨ n = 4 := by omega
  rcases this with rfl | rfl | rfl | rfl
  · exact whole_1 top A bs c w h0 h1 h hn
  · exact whole_2 top A bs c w h0 h1 h hn
  · exact whole_3 top A bs c w h0 h1 h hn
  · exact whole_4 top A bs c w h0 h1 h hn
end Go.Proofs.YtbcagdjfegobnaaGreat
