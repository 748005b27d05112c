/- The walk of the law NumberNear. -/
import Derived.Test.YteajdkbilbopoaaWholeWalk
import Derived.Test.YteajdkbilbopoaaCutWalk
import Derived.Test.YteajdkbilbopoaaNear
namespace Go.Proofs.Yteajdkbilbopoaa
open Go.ChangeShapes Go.WideShapes Go.ChangeAt Go.RowKit
set_option linter.unusedVariables false

theorem rem_run (r V W : Int) (hW : W ≠ 0) (h0 : 0 ≤ r) (hr : r % W = V) (t : TypeId) : binOp .rem t (.int .i64 r) (.int .i64 W) = pure (.int .i64 V) := by
  rw [binOp_rem]
  show (if W = 0 then _ else pure (.int .i64 (r.tmod W)) : Sem Value) = _
  rw [if_neg hW, Int.tmod_eq_emod_of_nonneg h0, hr]

theorem one_byte (w : World) (E : TypeId) (base : Nat) (hb : base ≤ w.heap.size) : OwnB (w.alloc (.cells #[.int .u8 1] E)) base E (some ⟨w.heap.size, 0, none⟩) 1 [1] :=
  (Blk.new w E #[.int .u8 1]).ownB (bs := [1]) hb (by decide)

set_option maxRecDepth 100000 in
set_option maxHeartbeats 1600000 in
theorem numberNear_walk (top : Int) (a : Option Addr) (len cap : Nat) (zs : List Int) (w : World) (ht : (Lit.int .i64 top).wf = true) (h : IsRow .u8 w a len cap zs) (hcap : cap * 1 ≤ 140737488351232) :
    Calls Try.prog 8 #[.int .i64 top, .slice a len cap] w fun e w' => e = .returned (.bool true) ∧ Below w.heap.size w w' := by
  obtain ⟨more, hlen, hr, hc, hm⟩ := h.bytes
  have HL := Lib.hid hlen
  have bt := i64_bounds ht
  have hb0 : Below w.heap.size w (w.alloc (.cells #[.int .u8 1] 5)) := (Below.refl _ _).alloc (Nat.le_refl _) _
  clear h hlen
  go_enter Try.func8, Try.ntmps8
  go_wp2_with (at_builtin
               refine wpList_appB _ rfl (.tmp 14) (.tmp 15) _ rfl w.heap.size 5 Try.underlying36 u8_info (some ⟨w.heap.size, 0, none⟩) 1 1 [1] rfl rfl (one_byte w _ _ (Nat.le_refl _)) a len cap more rfl HL.out (hr.below hb0) (1 :: more) rfl (1 + len) rfl (by omega) (by simp) ?_
               intro A1 c1 w2 hO1 hc1 hc1' hb2)
  have fin : Below w.heap.size w w2 := hb0.trans hb2
  have hR := hO1.rd
  clear hO1 hb2 hb0 hr
  refine (picked_ex _ _ (by omega) (by omega) (by decide) (by decide) _).mono ?_
  rintro e w' ⟨y, hy0, hy1, rfl, rfl⟩
  have hz0 := Int.emod_nonneg y (show ((len : Int) + 1) ≠ 0 by omega)
  have hz1 := Int.emod_lt_of_pos y (show (0 : Int) < (len : Int) + 1 by omega)
  have hz3 : y % ((len : Int) + 1) ≤ y := by
    by_cases hlt : y < (len : Int) + 1
    · rw [Int.emod_eq_of_lt hy0 hlt]; exact Int.le_refl _
    · omega
  obtain ⟨K, hK⟩ : ∃ K : Nat, y % ((len : Int) + 1) = (K : Int) - 1 := ⟨(y % ((len : Int) + 1)).toNat + 1, by omega⟩
  have hK1 : 1 ≤ K := by omega
  have hK4 : K ≤ 4 := by omega
  have hKl : K ≤ 1 + len := by omega
  clear hz0 hz1 hz3
  have hF : RdB w2 A1 ((1 :: more).take K) := hR.front (by rw [List.length_cons, HL.out]; omega)
  have hFl : ((1 :: more).take K).length = K := by rw [List.length_take, List.length_cons, HL.out]; omega
  have HFL := Lib.hid hFl
  clear hFl hR
  generalize (1 :: more).take K = bs at *
  go_wp2_with fail
  refine (picked_ex _ _ bt.1 bt.2 (by decide) (by decide) _).mono ?_
  rintro e w' ⟨t, ht0, ht1, rfl, rfl⟩
  go_wp2_with fail
  refine (whole_n _ _ bs _ _ _ HFL.out hK1 hK4 (by omega) (by omega) hF _ rfl).mono ?_
  rintro e w' ⟨rfl, rfl⟩
  obtain ⟨W, hW, hW', hWc⟩ := pow_win K hK1 hK4
  have hlow := low_lt bs K W HFL.out hW
  have hnear := whole_near t W (valB bs 0) ht0 ht1 hWc (Int.natCast_nonneg _) hlow
  rw [hW]
  have hW0 : 256 ≤ W ∧ W ≤ 4294967296 := by rcases hWc with rfl | rfl | rfl | rfl <;> decide
  have HWc := Lib.hid hWc
  clear hWc hW
  generalize wholeN (t + 1) W (valB bs 0) = r at *
  obtain ⟨n1, n2, n3, n4, n5⟩ := hnear
  have HN2 := Lib.hid n2
  have HN4 := Lib.hid n4
  have HN5 := Lib.hid n5
  clear n2 n4 n5
  go_wp2_with fail
  refine (whole_nil _ _ _ _).mono ?_
  rintro e w' ⟨rfl, rfl⟩
  go_wp2_with fail
  rw [hW']
  clear hK hW'
  go_loop [11, 45] (fun n i => ∃ k : Nat, k ≤ K ∧ i = .int .i64 k ∧ n = .int .i64 (valB (bs.take k) 0 : Nat)) (fun _ i => K - (intOf i).toNat)
  case atStart => exact ⟨0, Nat.zero_le _, rfl, rfl⟩
  case round =>
    obtain ⟨k, hk, rfl, rfl⟩ := hrel
    by_cases hlt : k < K
    · obtain ⟨b, off, rfl, hcell⟩ := hF.cell (by rw [HFL.out]; omega)
      have hcl := hcell k (by rw [HFL.out]; exact hlt)
      have HS := Lib.hid (valB_take bs 0 k (by rw [HFL.out]; exact hlt))
      have hv : valB (bs.take k) 0 < 18014398509481984 := by
        have h1 := valB_lt (bs.take k) 0 1 (by decide)
        have h2 : 256 ^ (bs.take k).length ≤ 256 ^ 4 := Nat.pow_le_pow_right (by decide) (by simp; omega)
        omega
      generalize (bs.getD k 0) = b1 at *
      have hb1 : (b1.toNat : Int) < 256 := by have := b1.toNat_lt; omega
      clear hcell n1 n3 hlow
      generalize valB (bs.take k) 0 = V at *
      go_wp2_with fail
      go_round
      case rel => exact ⟨k + 1, by omega, by go_num, by rw [HS.out]; simp⟩
      case measure => simp [intOf]; omega
    · obtain rfl : k = K := by omega
      rw [List.take_of_length_le (by rw [HFL.out]; exact Nat.le_refl _)]
      generalize valB bs 0 = V at *
      have n4 := HN4.out
      have n5 := HN5.out
      have n2 := rem_run r V W (by omega) n1 HN2.out 3
      clear hlow
      by_cases d1 : t + 1 - W / 2 ≤ r
      · by_cases d2 : r ≤ t + 1 + W / 2
        · clear n4 n5
          go_wp2_with fail
          go_ret
          exact ⟨rfl, fin⟩
        · have n5' : r < W := by omega
          clear n4 n5
          go_wp2_with fail
          go_ret
          exact ⟨rfl, fin⟩
      · have n4' : r - V = 0 := by omega
        have d2 : r ≤ t + 1 + W / 2 := by omega
        clear n4 n5
        go_wp2_with fail
        go_ret
        exact ⟨rfl, fin⟩
end Go.Proofs.Yteajdkbilbopoaa
