/- The contract of prefix.Encode. -/
import Derived.Test.YtihngonemdaihaaPickWalk
import Derived.Test.YtihngonemdaihaaMem
import Derived.Test.YtihngonemdaihaaPrefix
namespace Go.Proofs.Ytihngonemdaihaa
open Go.ChangeShapes Go.WideShapes Go.ChangeAt Go.RowKit
set_option linter.unusedVariables false

theorem u8_infoP : (Try.prog.info? 5).map (fun i => (i.zero, i.size, i.bytes)) = some (some (.int .u8 0), 1, 1) := by kernel_rfl

set_option maxRecDepth 100000 in
theorem penc_bad (w : Nat) (n : Int) (h1 : 1 ≤ w) (h8 : w ≤ 8) (h0 : 0 ≤ n) (hn : n ≤ 4611686018427387903) (W : World) :
    Calls Try.prog 40 #[.int .u8 255, .int .i64 w, .int .i64 n] W fun e w' => e = .returned (.tuple #[.slice none 0 0, .int .i64 3]) ∧ W = w' := by
  have hT := top_w w h8
  have hA : bits .and .i64 255 (((2 ^ w : Nat) : Int) - 1) = ((255 % 2 ^ w : Nat) : Int) := and_top 255 w h8 (by decide)
  have hp := pow_w w h1 h8
  have hz : 255 % 2 ^ w ≠ 0 := by
    have : w = 1 ∨ w = 2 ∨ w = 3 ∨ w = 4 ∨ w = 5 ∨ w = 6 ∨ w = 7 ∨ w = 8 := by omega
    rcases this with rfl | rfl | rfl | rfl | rfl | rfl | rfl | rfl <;> decide
  generalize 255 % 2 ^ w = z at *
  generalize 2 ^ w = M at *
  have hzb : ((z : Int) != 0) = true := by simpa using hz
  go_enter Try.func40, Try.ntmps40
  go_wp2_with fail
  go_ret2
  exact ⟨rfl, rfl⟩

set_option maxRecDepth 100000 in
theorem penc_any (w : Nat) (h1 : 1 ≤ w) (h8 : w ≤ 8) (cc : UInt8) (hcc : cc.toNat % 2 ^ w = 0) (n : Nat) (hn : (n : Int) ≤ 4611686018427387903) (L : Nat) (hL : (pEnc w cc n).length = L) (W : World) :
    Calls Try.prog 40 #[.int .u8 (cc.toNat : Int), .int .i64 w, .int .i64 n] W fun e w' =>
      ∃ A c, e = .returned (.tuple #[.slice A L c, .int .i64 0]) ∧ OwnB w' W.heap.size 5 A c (pEnc w cc n) ∧ c ≤ 9223372036854775807 ∧ Below W.heap.size W w' := by
  have hT := top_w w h8
  have hA : bits .and .i64 (cc.toNat : Int) (((2 ^ w : Nat) : Int) - 1) = ((cc.toNat % 2 ^ w : Nat) : Int) := and_top cc.toNat w h8 cc.toNat_lt
  have hp := pow_w w h1 h8
  have HO : Hid (∀ n : Nat, n < 2 ^ w → bits .or .u8 (cc.toNat : Int) (n : Int) = ((UInt8.ofNat (cc.toNat + n)).toNat : Int)) := fun n hn => or_low cc.toNat n w h8 hcc cc.toNat_lt hn
  have HL := Lib.hid hL
  obtain ⟨E, hE⟩ : ∃ E, pEnc w cc n = E := ⟨_, rfl⟩
  have HE : Hid (_ = _) := hE
  rw [hE] at HL ⊢
  unfold pEnc at HE
  rw [hcc] at hA; rw [Int.natCast_zero] at hA
  have hcb : cc.toNat < 256 := cc.toNat_lt
  have hq : wrap64 (cc.toNat : Int) = (cc.toNat : Int) := by simp only [wrap64]; omega
  clear hL hcc hE
  generalize 2 ^ w = M at *
  by_cases hlt : n < M - 1
  · have hO := HO.out n (by omega)
    rw [if_pos hlt] at HE
    clear HO
    generalize UInt8.ofNat (cc.toNat + n) = b at *
    go_enter Try.func40, Try.ntmps40
    go_wp2_with fail
    go_ret2
    have hE := HE.out
    subst hE
    have h1 := HL.out
    rw [List.length_singleton] at h1
    subst h1
    exact ⟨_, 1, rfl, (Blk.new W _ #[.int .u8 (b.toNat : Int)]).ownB (bs := [b]) (Nat.le_refl _) (Nat.le_trans (by simp : [b].length ≤ 1) (by decide)), by omega, (Below.refl _ _).alloc (Nat.le_refl _) _⟩
  · have hO := HO.out (M - 1) (by omega)
    rw [if_neg hlt] at HE
    rw [show ((M - 1 : Nat) : Int) = (M : Int) - 1 from by omega] at hO
    clear HO
    generalize UInt8.ofNat (cc.toNat + (M - 1)) = b at *
    obtain ⟨m0, hm0⟩ : ∃ m0 : Nat, n - (M - 1) = m0 := ⟨_, rfl⟩
    have hmI : (n : Int) - ((M : Int) - 1) = (m0 : Int) := by omega
    have hmb : (m0 : Int) ≤ 4611686018427387903 := by omega
    rw [hm0] at HE
    have HM : Hid (m0 < 128 ^ 9) := by show _ < _; omega
    have hO0 : OwnB (W.alloc (.cells #[.int .u8 (b.toNat : Int)] 5)) W.heap.size 5 (some ⟨W.heap.size, 0, none⟩) 1 [b] := (Blk.new W _ #[.int .u8 (b.toNat : Int)]).ownB (bs := [b]) (Nat.le_refl _) (Nat.le_trans (by simp : [b].length ≤ 1) (by decide))
    have hb0 : Below W.heap.size W (W.alloc (.cells #[.int .u8 (b.toNat : Int)] 5)) := (Below.refl _ _).alloc (Nat.le_refl _) _
    clear hm0
    go_enter Try.func40, Try.ntmps40
    go_wp2_with fail
    go_loopw [2, 9] (fun n b wr => ∃ (f m k c : Nat) (acc : List UInt8) (A : Option Addr), n = .int .i64 m ∧ b = .slice A k c ∧ Hid (acc.length = k) ∧ OwnB wr W.heap.size 5 A c acc ∧ Hid (acc ++ grpF f m = E) ∧ Hid (m < 128 ^ f) ∧ (m : Int) ≤ 4611686018427387903 ∧ 1 ≤ f ∧ k + f ≤ 10 ∧ c ≤ 9223372036854775807 ∧ Below W.heap.size W wr)
      (fun n _ _ => (intOf n).toNat)
    case atStart => exact ⟨9, m0, 1, 1, [b], _, by congr 1, rfl, rfl, hO0, HE.out, HM.out, hmb, by omega, by omega, by omega, hb0⟩
    case round =>
      obtain ⟨f, m, k, c, acc, A, rfl, rfl, HK, hown, HG, HF, hmb', hf1, hkf, hcm, hb⟩ := hrel
      clear hmI hmb hO0 hb0 hT hA hO hq
      obtain ⟨f, rfl⟩ : ∃ f', f = f' + 1 := ⟨f - 1, by omega⟩
      by_cases h128 : 128 ≤ m
      · have HG2 := HG.out
        rw [grpF_step _ _ h128, show acc ++ UInt8.ofNat (128 + m % 128) :: grpF f (m / 128) = acc ++ [UInt8.ofNat (128 + m % 128)] ++ grpF f (m / 128) from by simp] at HG2
        have HG3 := Lib.hid HG2
        have HF2 : Hid (m / 128 < 128 ^ f) := by
          show _ < _
          rw [Nat.div_lt_iff_lt_mul (by decide), ← Nat.pow_succ]; exact HF.out
        have hf2 : 1 ≤ f := by
          have := HF2.out
          rcases Nat.eq_zero_or_pos f with h0 | h0
          · subst h0; rw [Nat.pow_zero] at this; omega
          · exact h0
        have hor := or_128 m
        generalize UInt8.ofNat (128 + m % 128) = g at *
        have hbA := (hb.alloc hb.size (.cells #[.int .u8 (g.toNat : Int)] 5))
        have hoA := hown.below ((Below.refl wr.heap.size wr).alloc (Nat.le_refl _) (.cells #[.int .u8 (g.toNat : Int)] 5)) (Nat.le_refl _)
        clear HG2 HG HF hown
        go_wp2_with (at_builtin
                     refine wpList_appB _ rfl (.tmp 52) (.tmp 57) _ rfl W.heap.size 5 Try.underlying24 u8_infoP A k c acc rfl HK.out hoA (some ⟨wr.heap.size, 0, none⟩) 1 1 [g] rfl rfl (RdB.one wr _ _ g rfl) _ rfl (k + 1) rfl (by omega) (by have := hb.size; simp; omega) ?_
                     intro A1 c1 w1 hO1 hc1 hc1' hb1)
        go_roundw
        case rel => exact ⟨f, m / 128, k + 1, c1, acc ++ [g], A1, by congr 1, rfl, by have := HK.out; show _ = _; simp [this], hO1, HG3, HF2, by omega, by omega, by omega, hc1', hbA.trans hb1⟩
        case measure => simp [intOf]; omega
      · have HG2 := HG.out
        have hg := ofNat_lt m (by omega)
        rw [grpF_last _ _ (by omega)] at HG2
        have HG3 := Lib.hid HG2
        generalize UInt8.ofNat m = g at *
        have hgI : (m : Int) = (g.toNat : Int) := by omega
        have hbA := (hb.alloc hb.size (.cells #[.int .u8 (m : Int)] 5))
        have hoA := hown.below ((Below.refl wr.heap.size wr).alloc (Nat.le_refl _) (.cells #[.int .u8 (m : Int)] 5)) (Nat.le_refl _)
        have HGI := Lib.hid hgI
        clear HG2 HG HF hown hgI hg
        go_wp2_with (at_builtin
                     refine wpList_appB _ rfl (.tmp 59) (.tmp 62) _ rfl W.heap.size 5 Try.underlying24 u8_infoP A k c acc rfl HK.out hoA (some ⟨wr.heap.size, 0, none⟩) 1 1 [g] rfl rfl (RdB.one wr _ _ g HGI.out) _ rfl (k + 1) rfl (by omega) (by have := hb.size; simp; omega) ?_
                     intro A1 c1 w1 hO1 hc1 hc1' hb1)
        go_ret2
        rw [HG3.out] at hO1
        have hL : L = k + 1 := by rw [← HL.out, ← HG3.out, List.length_append, HK.out]; rfl
        subst hL
        exact ⟨A1, c1, rfl, hO1, hc1', hbA.trans hb1⟩
end Go.Proofs.Ytihngonemdaihaa
