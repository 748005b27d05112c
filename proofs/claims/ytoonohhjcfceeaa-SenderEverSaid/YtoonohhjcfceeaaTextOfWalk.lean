/- The contract of text: so many bytes, whatever they are. -/
import Derived.Test.YtoonohhjcfceeaaCutStrWalk
import Derived.Test.YtoonohhjcfceeaaStrApp
import Derived.Test.YtoonohhjcfceeaaPickAt
namespace Go.Proofs.Ytoonohhjcfceeaa
open Go.ChangeShapes Go.WideShapes Go.ChangeAt Go.RowKit
set_option linter.unusedVariables false

theorem u8_infoT : (Try.prog.info? 5).map (fun i => (i.zero, i.size, i.bytes)) = some (some (.int .u8 0), 1, 1) := by kernel_rfl

set_option maxRecDepth 100000 in
set_option maxHeartbeats 2000000 in
theorem text_any (s : ByteArray) (n most : Int) (k : Nat) (hs : s.size ≤ 9223372036854775807) (h0 : -9223372036854775808 ≤ n) (h1 : n ≤ 9223372036854775807) (hm0 : 0 ≤ most) (hm1 : most ≤ 100000) (hk : Hid (n % (most + 1) = (k : Int))) (hk1 : k ≤ 100000) (w : World) :
    Calls Try.prog 18 #[.string s, .int .i64 n, .int .i64 most] w fun e w' => ∃ (A : Option Addr) (c : Nat) (bs : List UInt8), e = .returned (.slice A k c) ∧ bs.length = k ∧ k ≤ c ∧ c ≤ 9223372036854775807 ∧ RdB w' A bs ∧ Below w.heap.size w w' := by
  have hmw : IntKind.i64.wrap (most + 1) = most + 1 := by rw [IntKind.wrap_i64]; omega
  go_enter Try.func18, Try.ntmps18
  go_wp2_with fail
  refine (picked_at n (most + 1) k h0 h1 (by omega) (by omega) hk _).mono ?_
  rintro e w' ⟨rfl, rfl⟩
  clear hk
  go_wp2_with fail
  go_loopw [8, 9] (fun s8 s9 wr => ∃ (l j : Nat) (A : Option Addr) (c : Nat) (bs : List UInt8), s8 = .slice A l c ∧ s9 = .int .i64 (j : Int) ∧ Hid (bs.length = l) ∧ l ≤ c ∧ c ≤ 9223372036854775807 ∧ j ≤ l ∧ l ≤ k + 9 ∧ OwnB wr w.heap.size 5 A c bs ∧ Below w.heap.size w wr) (fun _ s9 _ => k - (intOf s9).toNat)
  case atStart => exact ⟨0, 0, none, 0, [], rfl, rfl, rfl, Nat.le_refl _, by decide, Nat.le_refl _, by omega, OwnB.nil _ _ _, Below.refl _ _⟩
  case round =>
    obtain ⟨l, j, A, c, bs, rfl, rfl, HL, hlc, hcm, hjl, hlk, hO, hb⟩ := hrel
    by_cases hlt : l < k
    · have HB := Lib.hid (show (j : Int) % 256 = ((UInt8.ofNat j).toNat : Int) from by simp)
      have hsz := hb.size
      have hcs := cutS_size s 9
      go_wp2_with (at_builtin
                   refine wpList_appB _ rfl (.tmp 20) (.tmp 23) _ rfl w.heap.size 5 Try.underlying52 u8_infoT A l c _ rfl HL.out (hO.below ((Below.refl _ _).alloc (Nat.le_refl _) _) (Nat.le_refl _)) (some ⟨wr.heap.size, 0, none⟩) 1 1 [UInt8.ofNat j] rfl rfl (RdB.one _ _ _ _ HB.out) _ rfl (l + 1) rfl (by omega) (by have := hb.size; simp; omega) ?_
                   intro A1 c1 w1 hO1 hc1 hm1 hb1)
      refine (cut_any s 9 hs (by decide) _).mono ?_
      rintro e w' ⟨rfl, rfl⟩
      have hb2 : Below w.heap.size w w1 := (hb.alloc hb.size _).trans hb1
      have hs1 := hb2.size
      have HL1 : Hid ((bs ++ [UInt8.ofNat j]).length = l + 1) := by show _ = _; rw [List.length_append, HL.out]; rfl
      go_wp2_with (at_builtin
                   refine wpList_appS _ rfl (.tmp 24) (.tmp 26) _ _ rfl w.heap.size 5 Try.underlying52 Try.underlying9 u8_infoT A1 (l + 1) c1 _ rfl HL1.out hO1 (cutS s 9) rfl _ rfl (l + 1 + (cutS s 9).size) rfl (by omega) (by omega) ?_
                   intro A2 c2 w2 hO2 hc2 hm2 hb3)
      go_roundw
      case rel =>
        refine ⟨l + 1 + (cutS s 9).size, j + 1, A2, c2, _, rfl, by go_num, ?_, hc2, hm2, by omega, by omega, hO2, hb2.trans hb3⟩
        show _ = _
        rw [List.length_append, HL1.out, bts_len]
      case measure => simp [intOf]; omega
    · have hkc : k ≤ c := by omega
      go_wp2_with fail
      go_ret
      refine ⟨A, c, bs.take k, rfl, by rw [List.length_take, HL.out]; omega, hkc, hcm, ?_, hb⟩
      exact (RdB.of_own hO).front (by rw [HL.out]; omega)
end Go.Proofs.Ytoonohhjcfceeaa
