/- The contract of lock.turned. -/
import Derived.Test.YteajdkbilbopoaaMixWalk
import Derived.Test.YteajdkbilbopoaaMem
import Derived.Test.YteajdkbilbopoaaLock
import Derived.Deep.RegionWith
import Derived.BigRegion
namespace Go.Proofs.Yteajdkbilbopoaa
open Go.ChangeShapes Go.WideShapes Go.ChangeAt Go.RowKit
set_option linter.unusedVariables false

theorem u8_infoT : (Try.prog.info? 5).map (fun i => (i.zero, i.size, i.bytes)) = some (some (.int .u8 0), 1, 1) := by kernel_rfl

set_option maxRecDepth 100000 in
set_option maxHeartbeats 1000000 in
theorem turned_any (key n : Int) (hk0 : 0 ≤ key) (hk1 : key < 18446744073709551616) (A : Option Addr) (bs : List UInt8) (len cap : Nat) (hl : bs.length = len) (w : World) (h : RdB w A bs) (hs : len ≤ 140737488355328) :
    Calls Try.prog 43 #[.int .u64 key, .int .i64 n, .slice A len cap] w fun e w' => ∃ A' c', e = .returned (.slice A' len c') ∧ OwnB w' w.heap.size 5 A' c' (turnB (startI key n) bs) ∧ Below w.heap.size w w' := by
  have rn := wrap_range n
  have rx := xor_range key (mixI (IntKind.u64.wrap n))
  have HL := Lib.hid hl
  have HS : Hid (startI key n = mixI (bits .xor .u64 key (mixI (IntKind.u64.wrap n)))) := rfl
  have rs := startI_range key n
  have hb0 : Below w.heap.size w (w.alloc (.cells #[] 5)) := (Below.refl _ _).alloc (Nat.le_refl _) _
  have HR := Lib.hid (h.below hb0)
  clear hl h
  go_enter Try.func43, Try.ntmps43
  go_wp2_with fail
  refine (mix_any _ rn.1 rn.2 _).mono ?_
  rintro e w' ⟨rfl, rfl⟩
  go_wp2_with fail
  refine (mix_any _ rx.1 rx.2 _).mono ?_
  rintro e w' ⟨rfl, rfl⟩
  rw [← HS.out]
  generalize hst : startI key n = st at *
  have HST := Lib.hid hst
  clear rx rn HS hst
  go_wp2_with (at_builtin
               refine wpList_appB _ rfl (.tmp 16) (.tmp 17) _ rfl w.heap.size 5 Try.underlying36 u8_infoT (some ⟨w.heap.size, 0, none⟩) 0 0 [] rfl rfl (OwnB.made w _ _ (Nat.le_refl _)) A len cap bs rfl HL.out HR.out bs rfl len (Nat.zero_add _) (by omega) (by simp) ?_
               intro A1 c1 w1 hO1 hc1 hc1' hb1)
  have hbw := hb0.trans hb1
  clear hb0 hb1
  go_loopw [21] (fun i wr => ∃ k : Nat, k ≤ len ∧ i = .int .i64 k ∧ OwnB wr w.heap.size 5 A1 c1 (turnTo st bs k) ∧ Below w.heap.size w wr) (fun i _ => len - (intOf i).toNat)
  case atStart => exact ⟨0, Nat.zero_le _, rfl, by rw [turnTo_zero]; exact hO1, hbw⟩
  case round =>
    obtain ⟨k, hk, rfl, hO, hb⟩ := hrel
    clear hO1 hbw
    by_cases hlt : k < len
    · have hlk : k < bs.length := by rw [HL.out]; exact hlt
      obtain ⟨g, rfl, hg, hgl, hcell, hfro, hset⟩ := hO.opened (by rw [turnTo_length, HL.out]; omega)
      have hc := hcell k (by rw [turnTo_length, HL.out]; omega)
      rw [turnTo_get st bs k hlk] at hc
      have hf := hfro k
      have hs := hset k (bs.getD k 0 ^^^ ksB st k)
      rw [turnTo_set st bs k hlk] at hs
      have HSET := Lib.hid hs
      generalize bs.getD k 0 = b0 at *
      clear hcell hfro hset hO hs hlk
      have rw := wrap_range (st + (k : Int) / 8)
      have q1 : IntKind.i64.wrap ((k : Int) / 8) = (k : Int) / 8 := IntWalk.i64_in _ (by omega)
      have q3 := ksY_shift st k
      have q4 := ksY_wrap st k
      have q5 := xor_u8 b0 (ksB st k)
      have q2 : IntKind.u64.wrap ((k : Int) / 8) = (k : Int) / 8 := by rw [IntKind.wrap_u64]; omega
      go_wp2_with fail
      go_region_with (go_at_call 19; refine (mix_any _ (by omega) (by omega) _).mono ?_; rintro e w' ⟨rfl, rfl⟩)
      all_goals
        go_wp2_with fail
        go_roundw
        case rel => exact ⟨k + 1, by omega, by go_num, HSET.out, (hb.drew).setCell hg _⟩
        case measure => simp [intOf]; omega
    · have hO' : OwnB wr w.heap.size 5 A1 c1 (turnB st bs) := by
        rw [← turnTo_all st bs, HL.out, show len = k from by omega]; exact hO
      clear hO
      go_wp2_with fail
      go_ret
      exact ⟨A1, c1, rfl, by rw [HST.out]; exact hO', hb⟩
end Go.Proofs.Yteajdkbilbopoaa
