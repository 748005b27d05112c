/- The contract of lock.tag, at two parts. -/
import Derived.Test.YteajdkbilbopoaaMixWalk
import Derived.Test.YteajdkbilbopoaaMem
import Derived.Test.YteajdkbilbopoaaLock
namespace Go.Proofs.Yteajdkbilbopoaa
open Go.ChangeShapes Go.WideShapes Go.ChangeAt Go.RowKit
set_option linter.unusedVariables false

theorem u8_infoG : (Try.prog.info? 5).map (fun i => (i.zero, i.size, i.bytes)) = some (some (.int .u8 0), 1, 1) := by kernel_rfl

set_option maxRecDepth 100000 in
set_option maxHeartbeats 2000000 in
theorem tag_any (key n : Int) (hk0 : 0 ≤ key) (hk1 : key < 18446744073709551616) (g cg : Nat) (A1 A2 : Option Addr) (p q : List UInt8) (l1 c1 l2 c2 : Nat) (hl1 : p.length = l1) (hl2 : q.length = l2) (w : World)
    (h1 : RdB w A1 p) (h2 : RdB w A2 q) (hc1 : w.cell? ⟨g, 0, none⟩ = some (.slice A1 l1 c1)) (hc2 : w.cell? ⟨g, 1, none⟩ = some (.slice A2 l2 c2)) (hs1 : l1 ≤ 9223372036854775807) (hs2 : l2 ≤ 9223372036854775807) :
    Calls Try.prog 44 #[.int .u64 key, .int .i64 n, .slice (some ⟨g, 0, none⟩) 2 cg] w fun e w' =>
      e = .returned (.slice (some ⟨w.heap.size, 0, none⟩) 8 8) ∧ Blk w' w.heap.size 5 (u8s (tagB key n p q)).toArray ∧ Below w.heap.size w w' := by
  have r0 := xor_range (mixI key) (IntKind.u64.wrap n)
  have HL1 := Lib.hid hl1
  have HL2 := Lib.hid hl2
  have HT : Hid (tagW key n p q = tagPart (tagPart (bits .xor .u64 (mixI key) (IntKind.u64.wrap n)) p) q) := rfl
  have HR1 := Lib.hid h1
  have HR2 := Lib.hid h2
  clear hl1 hl2 h1 h2
  go_enter Try.func44, Try.ntmps44
  go_wp2_with fail
  refine (mix_any _ hk0 hk1 _).mono ?_
  rintro e w' ⟨rfl, rfl⟩
  go_wp2_with fail
  generalize bits .xor .u64 (mixI key) (IntKind.u64.wrap n) = h0 at *
  refine wp_loop_rounds 3 ?_
  rw [rounds_succ]
  go_wp2_with fail
  go_loop [7, 27] (fun h i => ∃ k : Nat, k ≤ l1 ∧ i = .int .i64 k ∧ h = .int .u64 (tagBytes h0 (p.take k))) (fun _ i => l1 - (intOf i).toNat)
  case atStart => exact ⟨0, Nat.zero_le _, rfl, rfl⟩
  case round =>
    obtain ⟨k, hk, rfl, rfl⟩ := hrel
    by_cases hlt : k < l1
    · obtain ⟨b, off, rfl, hcell⟩ := HR1.out.cell (by rw [HL1.out]; omega)
      have hc := hcell k (by rw [HL1.out]; exact hlt)
      have HS := Lib.hid (tagBytes_take h0 p k (by rw [HL1.out]; exact hlt))
      have hx := xor_range (tagBytes h0 (p.take k)) ((p.getD k 0).toNat : Int)
      clear hcell
      generalize tagBytes h0 (p.take k) = hh at *
      generalize (p.getD k 0) = b0 at *
      have hb0 : (b0.toNat : Int) < 256 := by have := b0.toNat_lt; omega
      go_wp2_with fail
      refine (mix_any _ hx.1 hx.2 _).mono ?_
      rintro e w' ⟨rfl, rfl⟩
      clear hx
      go_wp2_with fail
      go_round
      case rel => exact ⟨k + 1, by omega, by go_num, by rw [HS.out]⟩
      case measure => simp [intOf]; omega
    · rw [List.take_of_length_le (show p.length ≤ k by rw [HL1.out]; omega)]
      have HP : Hid (tagPart h0 p = mixI (bits .xor .u64 (tagBytes h0 p) (IntKind.u64.wrap ((l1 : Int) * 256)))) := by show tagPart h0 p = _; unfold tagPart; rw [HL1.out]
      have hx1 := xor_range (tagBytes h0 p) (IntKind.u64.wrap ((l1 : Int) * 256))
      have hr1 := mixI_range (bits .xor .u64 (tagBytes h0 p) (IntKind.u64.wrap ((l1 : Int) * 256)))
      generalize tagBytes h0 p = hp at *
      go_wp2_with fail
      clear hk hlt
      refine (mix_any _ hx1.1 hx1.2 _).mono ?_
      rintro e w' ⟨rfl, rfl⟩
      rw [← HP.out]
      rw [← HP.out] at hr1
      generalize tagPart h0 p = h3 at *
      clear HP hx1
      go_wp2_with fail
      rw [rounds_succ]
      go_wp2_with fail
      go_loop [7, 27] (fun h i => ∃ k : Nat, k ≤ l2 ∧ i = .int .i64 k ∧ h = .int .u64 (tagBytes h3 (q.take k))) (fun _ i => l2 - (intOf i).toNat)
      case atStart => exact ⟨0, Nat.zero_le _, rfl, rfl⟩
      case round =>
        obtain ⟨k, hk, rfl, rfl⟩ := hrel
        by_cases hlt : k < l2
        · obtain ⟨b, off, rfl, hcell⟩ := HR2.out.cell (by rw [HL2.out]; omega)
          have hc := hcell k (by rw [HL2.out]; exact hlt)
          have HS := Lib.hid (tagBytes_take h3 q k (by rw [HL2.out]; exact hlt))
          have hx := xor_range (tagBytes h3 (q.take k)) ((q.getD k 0).toNat : Int)
          clear hcell
          generalize tagBytes h3 (q.take k) = hh at *
          generalize (q.getD k 0) = b0 at *
          have hb0 : (b0.toNat : Int) < 256 := by have := b0.toNat_lt; omega
          go_wp2_with fail
          refine (mix_any _ hx.1 hx.2 _).mono ?_
          rintro e w' ⟨rfl, rfl⟩
          clear hx
          go_wp2_with fail
          go_round
          case rel => exact ⟨k + 1, by omega, by go_num, by rw [HS.out]⟩
          case measure => simp [intOf]; omega
        · rw [List.take_of_length_le (show q.length ≤ k by rw [HL2.out]; omega)]
          have HP2 : Hid (tagPart h3 q = mixI (bits .xor .u64 (tagBytes h3 q) (IntKind.u64.wrap ((l2 : Int) * 256)))) := by show tagPart h3 q = _; unfold tagPart; rw [HL2.out]
          have hx2 := xor_range (tagBytes h3 q) (IntKind.u64.wrap ((l2 : Int) * 256))
          have hwr := mixI_range (bits .xor .u64 (tagBytes h3 q) (IntKind.u64.wrap ((l2 : Int) * 256)))
          generalize tagBytes h3 q = hq at *
          go_wp2_with fail
          refine (mix_any _ hx2.1 hx2.2 _).mono ?_
          rintro e w' ⟨rfl, rfl⟩
          rw [← HP2.out]
          rw [← HP2.out] at hwr
          have HW : Hid (tagW key n p q = tagPart h3 q) := HT.out
          generalize tagPart h3 q = hw at *
          clear HP2 hx2 HT
          have hmk : ∀ W, (Instr.makeSlice 36 (.int .i64 8) (.int .i64 8)).run Try.prog W = .ok (.slice (some ⟨W.heap.size, 0, none⟩) 8 8) (W.alloc (.cells (madeCells #[.int .u8 0] 8) 5)) :=
            fun W => run_make_row' 36 5 (.int .u8 0) 1 Try.underlying36 u8_infoG rfl .i64 .i64 8 (by omega) (by omega) W
          obtain ⟨N, hN⟩ : ∃ N : Nat, hw = (N : Int) := Int.eq_ofNat_of_zero_le hwr.1
          have hB0 : Blk (w.alloc (.cells (madeCells #[.int .u8 0] 8) 5)) w.heap.size 5 (u8s ((beB 8 N).take 0 ++ List.replicate (8 - 0) 0)).toArray := by
            have := Blk.new w 5 (madeCells #[.int .u8 0] 8)
            rw [zeros_u8] at this ⊢
            simpa using this
          have hb0 : Below w.heap.size w (w.alloc (.cells (madeCells #[.int .u8 0] 8) 5)) := (Below.refl _ _).alloc (Nat.le_refl _) _
          have HB0 := Lib.hid hB0
          subst hN
          clear hB0 hc1 hc2 hk hlt hs1 hs2
          go_wp2_with fail
          rw [rounds_succ]
          go_wp2_with fail
          go_loopw [48] (fun i wr => ∃ k : Nat, k ≤ 8 ∧ i = .int .i64 k ∧ Blk wr w.heap.size 5 (u8s ((beB 8 N).take k ++ List.replicate (8 - k) 0)).toArray ∧ Below w.heap.size w wr) (fun i _ => 8 - (intOf i).toNat)
          case atStart => exact ⟨0, Nat.zero_le _, rfl, HB0.out, hb0⟩
          case round =>
            obtain ⟨k, hk, rfl, hB, hb⟩ := hrel
            clear hb0 hmk HB0
            by_cases hlt : k < 8
            · have hl : ((beB 8 N).take k ++ List.replicate (8 - k) 0).length = 8 := by simp [beB_length]; omega
              have hc : wr.cell? ⟨w.heap.size, k, none⟩ = some (.int .u8 ((((beB 8 N).take k ++ List.replicate (8 - k) 0).getD k 0).toNat : Int)) := by
                rw [hB.cell]; exact u8s_at _ _ (by omega)
              have hf := hB.frozen k
              have HB := Lib.hid hB
              clear hB hl
              go_wp2_with fail
              go_roundw
              case rel =>
                refine ⟨k + 1, by omega, by go_num, ?_, hb.setCell (Nat.le_refl _) _⟩
                have := HB.out.set_ k (.int .u8 (((beB 8 N).getD k 0).toNat : Int))
                rw [u8s_set, fill_set _ 8 k (beB_length _ _) hlt, ← eight_byte N k hlt] at this
                exact this
              case measure => simp [intOf]; omega
            · obtain rfl : k = 8 := by omega
              rw [List.take_of_length_le (by simp [beB_length])] at hB
              simp only [Nat.sub_self, List.replicate_zero, List.append_nil] at hB
              have HB := Lib.hid hB
              clear hB
              go_wp2_with fail
              go_ret
              refine ⟨rfl, ?_, hb⟩
              have hfin : tagB key n p q = beB 8 N := by unfold tagB; rw [HW.out]; rfl
              rw [hfin]; exact HB.out
end Go.Proofs.Yteajdkbilbopoaa
