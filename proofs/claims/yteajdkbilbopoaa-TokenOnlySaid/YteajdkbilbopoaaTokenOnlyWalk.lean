/- The walk of the law TokenOnly. -/
import Derived.Test.YteajdkbilbopoaaCheckWalk
namespace Go.Proofs.Yteajdkbilbopoaa
open Go.ChangeShapes Go.WideShapes Go.ChangeAt Go.RowKit
set_option linter.unusedVariables false

set_option maxRecDepth 100000 in
set_option maxHeartbeats 1000000 in
theorem tokenOnly_walk (s a other now_ at_ by_ : Int) (w : World) (hs : (Lit.int .i64 s).wf = true) (ha : (Lit.int .i64 a).wf = true) (ho : (Lit.int .i64 other).wf = true) (hn : (Lit.int .i64 now_).wf = true) (hat : (Lit.int .i64 at_).wf = true) (hby : (Lit.int .u8 by_).wf = true) :
    Calls Try.prog 16 #[.int .i64 s, .int .i64 a, .int .i64 other, .int .i64 now_, .int .i64 at_, .int .u8 by_] w fun e w' => e = .returned (.bool true) ∧ Below w.heap.size w w' := by
  have bs := wrap_range s
  have ba := i64_bounds ha
  have bn := i64_bounds hn
  have bt := i64_bounds hat
  clear hs ha hn hat ho hby
  go_enter Try.func16, Try.ntmps16
  go_wp2_with fail
  refine (picked_ex _ _ bn.1 bn.2 (by decide) (by decide) _).mono ?_
  rintro e w' ⟨t, t0, t1, rfl, rfl⟩
  go_wp2_with fail
  refine (make_any _ _ _ bs.1 bs.2 t0 (by omega) _).mono ?_
  rintro e w1 ⟨A1, c1, rfl, hO1, hc1, hb1⟩
  have hcap := hO1.cap
  rw [tokB_length] at hcap
  have HT := Lib.hid (tokB_length (IntKind.u64.wrap s) other t)
  generalize tokB (IntKind.u64.wrap s) other t = tk at *
  obtain ⟨g, rfl, hg, hgl, hcell, hfro, hset⟩ := hO1.opened (by rw [HT.out]; decide)
  have HC := Lib.hid hcell
  have HF := Lib.hid hfro
  have HS := Lib.hid hset
  clear hcell hfro hset hO1
  go_wp2_with fail
  refine (picked_ex _ _ bt.1 bt.2 (by decide) (by decide) _).mono ?_
  rintro e w' ⟨k, k0, k1, rfl, rfl⟩
  obtain ⟨j, rfl⟩ := Int.eq_ofNat_of_zero_le k0
  have hc := HC.out j (by rw [HT.out]; omega)
  have hf := HF.out j
  generalize (tk.getD j 0) = b0 at *
  obtain ⟨b, hb⟩ := xor_byte (b0.toNat : Int) by_
  go_wp2_with fail
  have hO2 := HS.out j b
  have hl2 : (tk.set j b).length = 16 := by rw [List.length_set, HT.out]
  have hb2 : Below w.heap.size w (w1.setCell ⟨g, j, none⟩ (.int .u8 (b.toNat : Int))) := hb1.setCell hg _
  generalize w1.setCell ⟨g, j, none⟩ (.int .u8 (b.toNat : Int)) = w2 at *
  generalize tk.set j b = bs' at *
  have HL := Lib.hid hl2
  have hR2 := hO2.rd
  clear HC HF HS hc hf hb hl2 hb1 hgl hO2
  refine (check_any _ _ _ bs.1 bs.2 (by omega) (by omega) _ bs' _ HL.out _ hR2 hcap.1 hc1).mono ?_
  rintro e w3 ⟨rfl, hb3⟩
  have hR3 := hR2.below hb3
  have fin3 := hb2.trans (hb3.mono hb2.size)
  clear hb2 hb3 hR2
  by_cases hz : chkI (IntKind.u64.wrap s) a t bs' = 0
  · obtain ⟨n, hn, hn1, hn2, hn3⟩ := chk_zero _ _ _ _ hz
    have HN := Lib.hid hn
    clear hn
    go_wp2_with fail
    go_loopw [51] (fun i wr => ∃ k : Nat, (k : Int) ≤ t - n ∧ i = .int .i64 k ∧ RdB wr (some ⟨g, 0, none⟩) bs' ∧ Below w.heap.size w wr) (fun i _ => 51 - (intOf i).toNat)
    case atStart => exact ⟨0, by omega, rfl, hR3, fin3⟩
    case round =>
      obtain ⟨k, hk, rfl, hR, hbw⟩ := hrel
      clear hR3 fin3 hz
      go_wp2_with fail
      refine (make_any _ _ _ bs.1 bs.2 (by omega) (by omega) _).mono ?_
      rintro e w4 ⟨A4, c4, rfl, hO4, hc4, hb4⟩
      have hR4 := hO4.rd
      have hR5 := hR.below hb4
      have fin4 := hbw.trans (hb4.mono hbw.size)
      have s1 := hR4.str (P := Try.prog) 36 9 5 c4 Try.underlying36 Try.underlying5 Try.underlying9
      have s2 := hR5.str (P := Try.prog) 36 9 5 c1 Try.underlying36 Try.underlying5 Try.underlying9
      rw [tokB_length] at s1
      rw [HL.out] at s2
      have HR5 := Lib.hid hR5
      clear hO4 hc4 hR4 hb4 hbw hR hR5
      by_cases hkn : t - k = n
      · have he : ((byt (tokB (IntKind.u64.wrap s) a (t - k))).toList == (byt bs').toList) = true := by
          rw [byt_toList, byt_toList]; exact beq_iff_eq.2 (by rw [hkn]; exact HN.out)
        clear hkn
        go_wp2_with fail
        go_ret
        exact ⟨rfl, fin4⟩
      · have he : ((byt (tokB (IntKind.u64.wrap s) a (t - k))).toList == (byt bs').toList) = false := by
          rw [byt_toList, byt_toList]
          exact beq_eq_false_iff_ne.2 (by rw [← HN.out]; exact tok_other _ _ _ _ (by omega) (by omega) (by omega) (by omega) hkn)
        go_wp2_with fail
        go_roundw
        case rel => exact ⟨k + 1, by omega, by go_num, HR5.out, fin4⟩
        case measure => simp [intOf]; omega
  · go_wp2_with fail
    go_ret
    exact ⟨rfl, fin3⟩
end Go.Proofs.Yteajdkbilbopoaa
