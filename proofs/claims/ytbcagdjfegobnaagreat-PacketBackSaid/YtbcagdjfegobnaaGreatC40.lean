/- Texts of the proof, laid together: CheckWalk. -/
import Derived.Test.YtbcagdjfegobnaaGreatC35
/- The contract of token.Check. -/
namespace Go.Proofs.YtbcagdjfegobnaaGreat
open Go.ChangeShapes Go.WideShapes Go.ChangeAt Go.RowKit
set_option linter.unusedVariables false

theorem check_form (s a t : Int) (ht0 : 0 ≤ t) (ht1 : t ≤ 1099511627776) (A : Option Addr) (n c : Nat) (hn : n < 16) (w : World) :
    Calls Tryz.prog 97 #[.int .u64 s, .int .i64 a, .int .i64 t, .slice A n c] w fun e w' => e = .returned (.int .i64 3) ∧ w = w' := by
  go_enter Tryz.func97, Tryz.ntmps97
  go_wp2_with fail
  go_ret
  exact ⟨rfl, rfl⟩

set_option maxRecDepth 100000 in
set_option maxHeartbeats 1000000 in
theorem check_any (s a now_ : Int) (hs0 : 0 ≤ s) (hs1 : s < 18446744073709551616) (ht0 : 0 ≤ now_) (ht1 : now_ ≤ 1099511627776) (A : Option Addr) (bs : List UInt8) (c : Nat) (hl : bs.length = 16) (w : World) (h : RdB w A bs) (hc : 16 ≤ c) (hc' : c ≤ 9223372036854775807) :
    Calls Tryz.prog 97 #[.int .u64 s, .int .i64 a, .int .i64 now_, .slice A 16 c] w fun e w' => e = .returned (.int .i64 (chkI s a now_ bs)) ∧ Below w.heap.size w w' := by
  obtain ⟨b, off, rfl, hcell⟩ := h.cell (by omega)
  have HC := Lib.hid hcell
  have HL := Lib.hid hl
  have HR := Lib.hid h
  clear hcell hl h
  go_enter Tryz.func97, Tryz.ntmps97
  go_wp2_with fail
  go_loop [9, 26] (fun n i => ∃ k : Nat, k ≤ 8 ∧ i = .int .i64 k ∧ n = .int .u64 (valB ((bs.take 8).take k) 0 : Nat)) (fun _ i => 8 - (intOf i).toNat)
  case atStart => exact ⟨0, Nat.zero_le _, rfl, rfl⟩
  case round =>
    obtain ⟨k, hk, rfl, rfl⟩ := hrel
    have HL8 : Hid ((bs.take 8).length = 8) := by show (bs.take 8).length = 8; rw [List.length_take, HL.out]; rfl
    by_cases hlt : k < 8
    · have hcl := HC.out k (by rw [HL.out]; omega)
      have HS := Lib.hid (valB_take (bs.take 8) 0 k (by rw [HL8.out]; exact hlt))
      have hg : (bs.take 8).getD k 0 = bs.getD k 0 := by simp [List.getD, hlt]
      rw [hg] at HS
      have hv : valB ((bs.take 8).take k) 0 < 72057594037927936 := by
        have h1 := valB_lt ((bs.take 8).take k) 0 1 (by decide)
        have h2 : 256 ^ ((bs.take 8).take k).length ≤ 256 ^ 7 := Nat.pow_le_pow_right (by decide) (by simp; omega)
        omega
      clear hg
      generalize (bs.getD k 0) = b1 at *
      have hb1 : (b1.toNat : Int) < 256 := by have := b1.toNat_lt; omega
      have HB := Lib.hid (or_byte_u64 (valB ((bs.take 8).take k) 0) b1.toNat hv (by omega))
      generalize valB ((bs.take 8).take k) 0 = V at *
      go_wp2_with fail
      go_round
      case rel => exact ⟨k + 1, by omega, by go_num, by rw [HB.out, HS.out]⟩
      case measure => simp [intOf]; omega
    · obtain rfl : k = 8 := by omega
      rw [List.take_of_length_le (show (bs.take 8).length ≤ 8 by rw [HL8.out]; exact Nat.le_refl _)]
      have HCH : Hid (chkI s a now_ bs = if 1099511627776 < valB (bs.take 8) 0 then 10 else if tokB s a (valB (bs.take 8) 0) = bs then (if now_ < valB (bs.take 8) 0 ∨ 50 < now_ - valB (bs.take 8) 0 then 16 else 0) else 10) := rfl
      generalize valB (bs.take 8) 0 = V at *
      by_cases c1 : 1099511627776 < V
      · have HX : Hid (chkI s a now_ bs = 10) := by rw [HCH.out, if_pos c1]; rfl
        clear HCH
        go_wp2_with fail
        go_ret
        exact ⟨by rw [HX.out]; rfl, Below.refl _ _⟩
      · have c1' : (V : Int) ≤ 1099511627776 := by omega
        rw [if_neg c1] at HCH
        clear c1
        go_wp2_with fail
        refine (make_any _ _ _ hs0 hs1 (by omega) c1' _).mono ?_
        rintro e w1 ⟨A1, c1, rfl, hO1, hc1, hb1⟩
        have hR1 := hO1.rd
        have hR2 := HR.out.below hb1
        have s1 := hR1.str (P := Tryz.prog) 30 9 5 c1 Tryz.underlying30 Tryz.underlying5 Tryz.underlying9
        have s2 := hR2.str (P := Tryz.prog) 30 9 5 c Tryz.underlying30 Tryz.underlying5 Tryz.underlying9
        rw [tokB_length] at s1
        rw [HL.out] at s2
        clear hO1 hc1 hR1 hR2
        by_cases c2 : tokB s a V = bs
        · have he : ((byt (tokB s a V)).toList == (byt bs).toList) = true := by
            rw [byt_toList, byt_toList]; exact beq_iff_eq.2 c2
          rw [if_pos c2] at HCH
          clear c2
          by_cases c3 : now_ < V ∨ 50 < now_ - V
          · have HX : Hid (chkI s a now_ bs = 16) := by rw [HCH.out, if_pos c3]; rfl
            clear HCH
            rcases Int.lt_or_le now_ V with c4 | c4
            · clear c3
              go_wp2_with fail
              go_ret
              exact ⟨by rw [HX.out]; rfl, hb1⟩
            · have c5 : 50 < now_ - V := by omega
              clear c3
              go_wp2_with fail
              go_ret
              exact ⟨by rw [HX.out]; rfl, hb1⟩
          · have HX : Hid (chkI s a now_ bs = 0) := by rw [HCH.out, if_neg c3]; rfl
            have c4 : (V : Int) ≤ now_ := by omega
            have c5 : now_ - V ≤ 50 := by omega
            clear HCH c3
            go_wp2_with fail
            go_ret
            exact ⟨by rw [HX.out]; rfl, hb1⟩
        · have he : ((byt (tokB s a V)).toList == (byt bs).toList) = false := by
            rw [byt_toList, byt_toList]; exact beq_eq_false_iff_ne.2 c2
          have HX : Hid (chkI s a now_ bs = 10) := by rw [HCH.out, if_neg c2]; rfl
          clear HCH c2
          go_wp2_with fail
          go_ret
          exact ⟨by rw [HX.out]; rfl, hb1⟩
end Go.Proofs.YtbcagdjfegobnaaGreat
