/- Texts of the proof, laid together: DecodeWalk. -/
import Derived.Test.YtbcagdjfegobnaaGreatC16
import Derived.Test.YtbcagdjfegobnaaGreatC00
import Derived.Lib.Hide
/- The contract of varint.Decode. -/
namespace Go.Proofs.YtbcagdjfegobnaaGreat
open Go.ChangeShapes Go.WideShapes Go.ChangeAt Go.RowKit
set_option linter.unusedVariables false

theorem dec_nil (A : Option Addr) (c : Nat) (w : World) :
    Calls Tryz.prog 64 #[.slice A 0 c] w fun e w' => e = .returned (.tuple #[.int .i64 0, .int .i64 0, .int .i64 4]) ∧ w = w' := by
  go_enter Tryz.func64, Tryz.ntmps64
  go_wp2_with fail
  go_ret3
  exact ⟨rfl, rfl⟩

set_option maxRecDepth 100000 in
theorem dec_short (A : Option Addr) (bs : List UInt8) (c K : Nat) (w : World) (h : RdB w A bs) (hc : bs.length ≤ c) (hm : c ≤ 9223372036854775807)
   (hn : 1 ≤ bs.length) (hK8 : K ≤ 8) (hnK : bs.length < K) (he : wrap64 (2 ^ ((bs.getD 0 0).toNat / 64)) = (K : Int)) :
    Calls Tryz.prog 64 #[.slice A bs.length c] w fun e w' => e = .returned (.tuple #[.int .i64 0, .int .i64 0, .int .i64 4]) ∧ w = w' := by
  obtain ⟨b, off, rfl, hcell⟩ := h.cell (by omega)
  have hc0 := hcell 0 (by omega)
  simp only [Nat.add_zero] at hc0
  generalize (bs.getD 0 0) = b0 at *
  have hb0 : (b0.toNat : Int) < 256 := by have := b0.toNat_lt; omega
  clear hcell h
  go_enter Tryz.func64, Tryz.ntmps64
  go_wp2_with fail
  go_ret3
  exact ⟨rfl, rfl⟩

set_option maxRecDepth 100000 in
theorem dec_one (A : Option Addr) (bs : List UInt8) (c : Nat) (w : World) (h : RdB w A bs) (hc : bs.length ≤ c) (hm : c ≤ 9223372036854775807)
   (hn : 1 ≤ bs.length) (he : wrap64 (2 ^ ((bs.getD 0 0).toNat / 64)) = 1) :
    Calls Tryz.prog 64 #[.slice A bs.length c] w fun e w' => e = .returned (.tuple #[.int .i64 (decN bs 0), .int .i64 1, .int .i64 0]) ∧ w = w' := by
  obtain ⟨b, off, rfl, hcell⟩ := h.cell (by omega)
  have hc0 := hcell 0 (by omega)
  have hz := decN_zero bs
  simp only [Nat.add_zero] at hc0
  generalize (bs.getD 0 0) = b0 at *
  have hb0 : (b0.toNat : Int) < 256 := by have := b0.toNat_lt; omega
  rw [hz]
  clear hcell h hz
  have e1 : (((b0.toNat % 64 : Nat)) : Int) = (b0.toNat : Int) % 64 := by omega
  rw [e1]
  clear e1
  by_cases h1 : c = 1
  all_goals
    go_enter Tryz.func64, Tryz.ntmps64
    go_wp2_with fail
    refine wp_loop_rounds 1 ?_
    rw [rounds_succ]
    go_wp2_with fail
    go_ret3
    exact ⟨by rw [he]; rfl, rfl⟩

set_option maxRecDepth 100000 in
set_option maxHeartbeats 400000 in
theorem dec_more (A : Option Addr) (bs : List UInt8) (c K : Nat) (w : World) (h : RdB w A bs) (hc : bs.length ≤ c) (hm : c ≤ 9223372036854775807)
   (hK : 2 ≤ K) (hK8 : K ≤ 8) (hnK : K ≤ bs.length) (he : wrap64 (2 ^ ((bs.getD 0 0).toNat / 64)) = (K : Int)) :
    Calls Tryz.prog 64 #[.slice A bs.length c] w fun e w' => e = .returned (.tuple #[.int .i64 (decN bs (K - 1)), .int .i64 K, .int .i64 0]) ∧ w = w' := by
  obtain ⟨b, off, rfl, hcell⟩ := h.cell (by omega)
  have hc0 := hcell 0 (by omega)
  have hz := decN_zero bs
  simp only [Nat.add_zero] at hc0
  have HC : Hid (∀ k, k < K - 1 → w.cell? ⟨b, off + 1 + k, none⟩ = some (.int .u8 ((bs.getD (1 + k) 0).toNat))) := by
    intro k hk; have := hcell (1 + k) (by omega); rwa [← Nat.add_assoc] at this
  generalize (bs.getD 0 0) = b0 at *
  have hb0 : (b0.toNat : Int) < 256 := by have := b0.toNat_lt; omega
  have HZ := Lib.hid hz
  clear hcell h hz
  go_enter Tryz.func64, Tryz.ntmps64
  go_wp2_with fail
  go_loop [2, 29] (fun n i => ∃ k : Nat, k ≤ K - 1 ∧ i = .int .i64 k ∧ n = .int .i64 (decN bs k : Nat)) (fun _ i => K - 1 - (intOf i).toNat)
  case atStart => exact ⟨0, Nat.zero_le _, rfl, by rw [HZ.out]; simp⟩
  case round =>
    obtain ⟨k, hk, rfl, rfl⟩ := hrel
    by_cases hlt : k < K - 1
    · have h1 := HC.out k hlt
      have h2 := decN_lt bs k (by omega)
      have HS := Lib.hid (decN_succ bs k (by omega))
      generalize (bs.getD (1 + k) 0) = b1 at *
      have h9 : (b1.toNat : Int) < 256 := by have := b1.toNat_lt; omega
      have h10 : decN bs k < 18014398509481984 := by
        have : 256 ^ k ≤ 256 ^ 6 := Nat.pow_le_pow_right (by omega) (by omega)
        omega
      clear h2
      have HO := Lib.hid (or_byte (decN bs k) b1.toNat h10 (by omega))
      go_wp2_with fail
      go_round
      case rel => exact ⟨k + 1, by omega, by go_num, by rw [HO.out, HS.out]⟩
      case measure => simp [intOf]; omega
    · obtain rfl : k = K - 1 := by omega
      go_wp2_with fail
      go_ret3
      exact ⟨rfl, rfl⟩

theorem decode_any (A : Option Addr) (bs : List UInt8) (c : Nat) (w : World) (h : RdB w A bs) (hc : bs.length ≤ c) (hm : c ≤ 9223372036854775807) :
    Calls Tryz.prog 64 #[.slice A bs.length c] w fun e w' => e = .returned (.tuple #[.int .i64 (decR bs).1, .int .i64 (decR bs).2.1, .int .i64 (decR bs).2.2]) ∧ w = w' := by
  by_cases h0 : bs.length = 0
  · obtain rfl := List.eq_nil_of_length_eq_zero h0
    exact dec_nil A c w
  · have hd := decLen_cases bs
    have he : wrap64 (2 ^ ((bs.getD 0 0).toNat / 64)) = (decLen bs : Int) := by
      have : ((decLen bs : Nat) : Int) = 2 ^ ((bs.getD 0 0).toNat / 64) := by unfold decLen; simp
      rw [← this]; unfold wrap64; omega
    by_cases hs : bs.length < decLen bs
    · have e : decR bs = (0, 0, 4) := if_pos hs
      rw [e]
      exact dec_short A bs c _ w h hc hm (by omega) (by omega) hs he
    · have e : decR bs = (((decN bs (decLen bs - 1) : Nat) : Int), ((decLen bs : Nat) : Int), 0) := if_neg hs
      rw [e]
      by_cases h1 : decLen bs = 1
      · rw [h1] at he ⊢
        exact dec_one A bs c w h hc hm (by omega) he
      · exact dec_more A bs c _ w h hc hm (by omega) (by omega) (by omega) he

theorem decode_n (A : Option Addr) (bs : List UInt8) (n c : Nat) (w : World) (hn : bs.length = n) (h : RdB w A bs) (hc : n ≤ c) (hm : c ≤ 9223372036854775807) (r : Int × Int × Int) (hr : decR bs = r) :
    Calls Tryz.prog 64 #[.slice A n c] w fun e w' => e = .returned (.tuple #[.int .i64 r.1, .int .i64 r.2.1, .int .i64 r.2.2]) ∧ w = w' := by
  subst hn; subst hr; exact decode_any A bs c w h hc hm
end Go.Proofs.YtbcagdjfegobnaaGreat
