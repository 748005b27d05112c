/- The contract of packno.Cut. -/
import Derived.Test.YteajdkbilbopoaaNumWalk
import Derived.Test.YteajdkbilbopoaaVar
import Derived.Test.YteajdkbilbopoaaMem
namespace Go.Proofs.Yteajdkbilbopoaa
open Go.ChangeShapes Go.WideShapes Go.ChangeAt Go.RowKit
set_option linter.unusedVariables false

theorem u8_info : (Try.prog.info? 5).map (fun i => (i.zero, i.size, i.bytes)) = some (some (.int .u8 0), 1, 1) := by kernel_rfl

set_option maxRecDepth 100000 in
set_option maxHeartbeats 1000000 in
theorem cut_1 (n : Nat) (a : Int) (h1 : (n : Int) ≤ 4611686018427387903) (ha : -1 ≤ a) (han : a < n) (hd : 0 < n - a) (hd2 : n - a ≤ 128) (w : World) :
    Calls Try.prog 27 #[.int .i64 n, .int .i64 a] w fun e w' => ∃ A c, e = .returned (.tuple #[.slice A 1 c, .int .i64 0]) ∧ OwnB w' w.heap.size 5 A c (beB 1 n) ∧ Below w.heap.size w w' := by
  go_enter Try.func27, Try.ntmps27
  go_wp2_with fail
  refine wp_loop_rounds 1 ?_
  iterate 1 (rw [rounds_succ]; go_wp2_with fail)
  refine wp_loop_rounds 2 ?_
  rw [rounds_succ]
  have HB := Lib.hid (show (n : Int) % 256 = ((UInt8.ofNat n).toNat : Int) from by simp)
  go_wp2_with (at_builtin
               refine wpList_appB _ rfl (.tmp 42) (.tmp 48) _ rfl w.heap.size 5 Try.underlying36 u8_info none 0 0 [] rfl rfl (OwnB.nil _ _ _) (some ⟨w.heap.size, 0, none⟩) 1 1 [UInt8.ofNat n] rfl rfl (RdB.one _ _ _ _ HB.out) [UInt8.ofNat n] rfl 1 rfl (by omega) (by simp) ?_
               intro A' c' w2 hO2 hc2 hc2' hb2)
  rw [rounds_succ]
  have hb3 : Below w.heap.size w w2 := ((Below.refl _ _).alloc (Nat.le_refl _) _).trans hb2
  go_wp2_with fail
  go_ret2
  exact ⟨A', c', rfl, by simpa [beB] using hO2, hb3⟩

set_option maxRecDepth 100000 in
set_option maxHeartbeats 1000000 in
theorem cut_2 (n : Nat) (a : Int) (h1 : (n : Int) ≤ 4611686018427387903) (ha : -1 ≤ a) (han : a < n) (hd : 128 < n - a) (hd2 : n - a ≤ 32768) (w : World) :
    Calls Try.prog 27 #[.int .i64 n, .int .i64 a] w fun e w' => ∃ A c, e = .returned (.tuple #[.slice A 2 c, .int .i64 0]) ∧ OwnB w' w.heap.size 5 A c (beB 2 n) ∧ Below w.heap.size w w' := by
  go_enter Try.func27, Try.ntmps27
  go_wp2_with fail
  refine wp_loop_rounds 2 ?_
  iterate 2 (rw [rounds_succ]; go_wp2_with fail)
  go_loopw [7, 8] (fun v i wr => ∃ (m : Nat) (A : Option Addr) (c : Nat), m ≤ 2 ∧ i = .int .i64 ((m : Int) - 1) ∧ v = .slice A (2 - m) c ∧
      OwnB wr w.heap.size 5 A c ((beB 2 n).take (2 - m)) ∧ Below w.heap.size w wr) (fun _ i _ => (intOf i + 1).toNat)
  case atStart => exact ⟨2, none, 0, Nat.le_refl _, rfl, rfl, OwnB.nil _ _ _, Below.refl _ _⟩
  case round =>
    obtain ⟨m, A, c, hm, rfl, rfl, hO, hb⟩ := hrel
    by_cases hlt : 1 ≤ m
    · have HN := Lib.hid (beB_take 2 n m hlt hm)
      have HL := Lib.hid (beB_take_length 2 n m)
      have hcap := hO.cap
      have HB := Lib.hid (byte_shift n (m - 1))
      go_wp2_with (at_builtin
                   refine wpList_appB _ rfl (.tmp 42) (.tmp 48) _ rfl w.heap.size 5 Try.underlying36 u8_info A (2 - m) c _ rfl HL.out (hO.below ((Below.refl _ _).alloc (Nat.le_refl _) _) (Nat.le_refl _)) (some ⟨wr.heap.size, 0, none⟩) 1 1 [UInt8.ofNat (n / 256 ^ (m - 1))] rfl rfl (RdB.one _ _ _ _ HB.out) _ HN.out (2 - m + 1) rfl (by omega) (by have := hb.size; simp; omega) ?_
                   intro A' c' w2 hO2 hc2 hc2' hb2)
      go_roundw
      case rel => exact ⟨m - 1, A', c', by omega, by congr 1; omega, by congr 1; omega, hO2, (hb.alloc hb.size _).trans hb2⟩
      case measure => simp [intOf]; omega
    · obtain rfl : m = 0 := by omega
      have hcap := hO.cap
      rw [List.take_of_length_le (by simp [beB_length])] at hO
      go_wp2_with fail
      go_ret2
      exact ⟨_, _, rfl, hO, hb⟩
set_option maxRecDepth 100000 in
set_option maxHeartbeats 1000000 in
theorem cut_3 (n : Nat) (a : Int) (h1 : (n : Int) ≤ 4611686018427387903) (ha : -1 ≤ a) (han : a < n) (hd : 32768 < n - a) (hd2 : n - a ≤ 8388608) (w : World) :
    Calls Try.prog 27 #[.int .i64 n, .int .i64 a] w fun e w' => ∃ A c, e = .returned (.tuple #[.slice A 3 c, .int .i64 0]) ∧ OwnB w' w.heap.size 5 A c (beB 3 n) ∧ Below w.heap.size w w' := by
  go_enter Try.func27, Try.ntmps27
  go_wp2_with fail
  refine wp_loop_rounds 3 ?_
  iterate 3 (rw [rounds_succ]; go_wp2_with fail)
  go_loopw [7, 8] (fun v i wr => ∃ (m : Nat) (A : Option Addr) (c : Nat), m ≤ 3 ∧ i = .int .i64 ((m : Int) - 1) ∧ v = .slice A (3 - m) c ∧
      OwnB wr w.heap.size 5 A c ((beB 3 n).take (3 - m)) ∧ Below w.heap.size w wr) (fun _ i _ => (intOf i + 1).toNat)
  case atStart => exact ⟨3, none, 0, Nat.le_refl _, rfl, rfl, OwnB.nil _ _ _, Below.refl _ _⟩
  case round =>
    obtain ⟨m, A, c, hm, rfl, rfl, hO, hb⟩ := hrel
    by_cases hlt : 1 ≤ m
    · have HN := Lib.hid (beB_take 3 n m hlt hm)
      have HL := Lib.hid (beB_take_length 3 n m)
      have hcap := hO.cap
      have HB := Lib.hid (byte_shift n (m - 1))
      go_wp2_with (at_builtin
                   refine wpList_appB _ rfl (.tmp 42) (.tmp 48) _ rfl w.heap.size 5 Try.underlying36 u8_info A (3 - m) c _ rfl HL.out (hO.below ((Below.refl _ _).alloc (Nat.le_refl _) _) (Nat.le_refl _)) (some ⟨wr.heap.size, 0, none⟩) 1 1 [UInt8.ofNat (n / 256 ^ (m - 1))] rfl rfl (RdB.one _ _ _ _ HB.out) _ HN.out (3 - m + 1) rfl (by omega) (by have := hb.size; simp; omega) ?_
                   intro A' c' w2 hO2 hc2 hc2' hb2)
      go_roundw
      case rel => exact ⟨m - 1, A', c', by omega, by congr 1; omega, by congr 1; omega, hO2, (hb.alloc hb.size _).trans hb2⟩
      case measure => simp [intOf]; omega
    · obtain rfl : m = 0 := by omega
      have hcap := hO.cap
      rw [List.take_of_length_le (by simp [beB_length])] at hO
      go_wp2_with fail
      go_ret2
      exact ⟨_, _, rfl, hO, hb⟩
set_option maxRecDepth 100000 in
set_option maxHeartbeats 1000000 in
theorem cut_4 (n : Nat) (a : Int) (h1 : (n : Int) ≤ 4611686018427387903) (ha : -1 ≤ a) (han : a < n) (hd : 8388608 < n - a) (hd2 : n - a ≤ 2147483648) (w : World) :
    Calls Try.prog 27 #[.int .i64 n, .int .i64 a] w fun e w' => ∃ A c, e = .returned (.tuple #[.slice A 4 c, .int .i64 0]) ∧ OwnB w' w.heap.size 5 A c (beB 4 n) ∧ Below w.heap.size w w' := by
  go_enter Try.func27, Try.ntmps27
  go_wp2_with fail
  refine wp_loop_rounds 4 ?_
  iterate 4 (rw [rounds_succ]; go_wp2_with fail)
  go_loopw [7, 8] (fun v i wr => ∃ (m : Nat) (A : Option Addr) (c : Nat), m ≤ 4 ∧ i = .int .i64 ((m : Int) - 1) ∧ v = .slice A (4 - m) c ∧
      OwnB wr w.heap.size 5 A c ((beB 4 n).take (4 - m)) ∧ Below w.heap.size w wr) (fun _ i _ => (intOf i + 1).toNat)
  case atStart => exact ⟨4, none, 0, Nat.le_refl _, rfl, rfl, OwnB.nil _ _ _, Below.refl _ _⟩
  case round =>
    obtain ⟨m, A, c, hm, rfl, rfl, hO, hb⟩ := hrel
    by_cases hlt : 1 ≤ m
    · have HN := Lib.hid (beB_take 4 n m hlt hm)
      have HL := Lib.hid (beB_take_length 4 n m)
      have hcap := hO.cap
      have HB := Lib.hid (byte_shift n (m - 1))
      go_wp2_with (at_builtin
                   refine wpList_appB _ rfl (.tmp 42) (.tmp 48) _ rfl w.heap.size 5 Try.underlying36 u8_info A (4 - m) c _ rfl HL.out (hO.below ((Below.refl _ _).alloc (Nat.le_refl _) _) (Nat.le_refl _)) (some ⟨wr.heap.size, 0, none⟩) 1 1 [UInt8.ofNat (n / 256 ^ (m - 1))] rfl rfl (RdB.one _ _ _ _ HB.out) _ HN.out (4 - m + 1) rfl (by omega) (by have := hb.size; simp; omega) ?_
                   intro A' c' w2 hO2 hc2 hc2' hb2)
      go_roundw
      case rel => exact ⟨m - 1, A', c', by omega, by congr 1; omega, by congr 1; omega, hO2, (hb.alloc hb.size _).trans hb2⟩
      case measure => simp [intOf]; omega
    · obtain rfl : m = 0 := by omega
      have hcap := hO.cap
      rw [List.take_of_length_le (by simp [beB_length])] at hO
      go_wp2_with fail
      go_ret2
      exact ⟨_, _, rfl, hO, hb⟩

theorem cut_bad (n a : Int) (han : n ≤ a) (w : World) :
    Calls Try.prog 27 #[.int .i64 n, .int .i64 a] w fun e w' => e = .returned (.tuple #[.slice none 0 0, .int .i64 6]) ∧ w = w' := by
  go_enter Try.func27, Try.ntmps27
  go_wp2_with fail
  all_goals (go_ret2; exact ⟨rfl, rfl⟩)

/-- A number cut for one who is not too far behind. -/
theorem cut_any (n : Nat) (a : Int) (h1 : (n : Int) ≤ 4611686018427387903) (ha : -1 ≤ a) (han : a < n) (hd : n - a ≤ 2147483648) (w : World) :
    Calls Try.prog 27 #[.int .i64 n, .int .i64 a] w fun e w' => ∃ A c, e = .returned (.tuple #[.slice A (cutK (n - a).toNat) c, .int .i64 0]) ∧ OwnB w' w.heap.size 5 A c (beB (cutK (n - a).toNat) n) ∧ Below w.heap.size w w' := by
  have h := cutK_cases (n - a).toNat
  rcases h with ⟨e, h⟩ | ⟨e, h, h'⟩ | ⟨e, h, h'⟩ | ⟨e, h⟩
  · rw [e]; exact cut_1 n a h1 ha han (by omega) (by omega) w
  · rw [e]; exact cut_2 n a h1 ha han (by omega) (by omega) w
  · rw [e]; exact cut_3 n a h1 ha han (by omega) (by omega) w
  · rw [e]; exact cut_4 n a h1 ha han (by omega) (by omega) w

theorem cut_int (n a : Int) (h0 : 0 ≤ n) (h1 : n ≤ 4611686018427387903) (ha : -1 ≤ a) (han : a < n) (hd : n - a ≤ 2147483648) (K : Nat) (hK : cutK (n - a).toNat = K) (w : World) :
    Calls Try.prog 27 #[.int .i64 n, .int .i64 a] w fun e w' => ∃ A c, e = .returned (.tuple #[.slice A K c, .int .i64 0]) ∧ OwnB w' w.heap.size 5 A c (beB K n.toNat) ∧ Below w.heap.size w w' := by
  subst hK
  have h := cut_any n.toNat a (by omega) ha (by omega) (by omega) w
  rwa [show ((n.toNat : Nat) : Int) = n from by omega] at h
end Go.Proofs.Yteajdkbilbopoaa
