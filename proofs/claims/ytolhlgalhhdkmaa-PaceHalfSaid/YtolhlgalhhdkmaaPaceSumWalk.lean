/- The walk of the law PaceSum. -/
import Derived.Test.YtolhlgalhhdkmaaPacedWalk
namespace Go.Proofs.Ytolhlgalhhdkmaa
open Go.ChangeShapes Go.WideShapes Go.ChangeAt Go.RowKit
set_option linter.unusedVariables false

theorem sumS_take (xs : List (Int × Int)) (k : Nat) (hk : k < xs.length) : sumS (xs.take (k + 1)) = sumS (xs.take k) + (xs.getD k (0, 0)).2 := by
  rw [List.take_succ_eq_append_getElem hk, sumS_app, sumS_one]; simp [List.getD, hk]
theorem WayOk.take {xs : List (Int × Int)} {m : Int} (h : WayOk xs m) (k : Nat) : WayOk (xs.take k) m := ⟨fun x hx => h.1 x (List.mem_of_mem_take hx), h.2.sublist (List.take_sublist _ _)⟩

set_option maxRecDepth 100000 in
set_option maxHeartbeats 1000000 in
theorem paceSum_walk (A : Option Addr) (len cap : Nat) (rs : List RawD) (w : World) (h : IsRaws w A len cap rs) :
    Calls Try.prog 5 #[.slice A len cap] w fun e w' => e = .returned (.bool true) ∧ Below w.heap.size w w' := by
  go_enter Try.func5, Try.ntmps5
  go_wp2_with fail
  refine (paced_any A len cap rs w h).mono ?_
  rintro e w1 ⟨W, T, F, S, now, A1, c, xs, rfl, hb1, hW0, hW1, hT0, hT1, hF, hS0, hS1, hn0, hn1, hway, hxl, hxc, hcm, hrd⟩
  have hF0 := sumS_nn hway
  have hF1 := sumS_le hway
  rw [← hF] at hF0 hF1
  have HF := Lib.hid hF
  have HRD := Lib.hid hrd
  have hB0 := Blk.new w1 37 #[.int .i64 W, .int .i64 T, .int .i64 F, .int .i64 S]
  have hb0 : Below w.heap.size w (w1.alloc (.cells #[.int .i64 W, .int .i64 T, .int .i64 F, .int .i64 S] 37)) := hb1.alloc hb1.size _
  have hs1 := hb1.size
  clear hF hrd h hb1
  unfold maxLen at hcm
  go_wp2_with fail
  go_loopw [6, 19] (fun s i wr => ∃ k : Nat, k ≤ xs.length ∧ i = .int .i64 k ∧ s = .int .i64 (sumS (xs.take k)) ∧ Blk wr w1.heap.size 37 #[.int .i64 W, .int .i64 T, .int .i64 F, .int .i64 S] ∧ Below w.heap.size w wr ∧ Below w1.heap.size w1 wr) (fun _ i _ => xs.length - (intOf i).toNat)
  case atStart => exact ⟨0, Nat.zero_le _, rfl, by simp [sumS], hB0, hb0, (Below.refl _ _).alloc (Nat.le_refl _) _⟩
  case round =>
    obtain ⟨k, hk, rfl, rfl, hB, hb, hbb⟩ := hrel
    clear hB0 hb0
    by_cases hlt : k < xs.length
    · obtain ⟨b, off, rfl, hcell⟩ := RdX.at_ parc_len (RdX.below HRD.out hbb) (0, 0) (by omega)
      have p0 := hcell k hlt 0 _ (by decide) rfl
      have p1 := hcell k hlt 1 _ (by decide) rfl
      have p2 := hcell k hlt 2 _ (by decide) rfl
      have p3 := hcell k hlt 3 _ (by decide) rfl
      have hst := sumS_take xs k hlt
      have ha := sumS_nn (hway.take k)
      have hb2 := sumS_le (hway.take k)
      have hl2 : (xs.take k).length ≤ 30 := by simp; omega
      have hxo := hway.1 (xs.getD k (0, 0)) (by simp [List.getD, hlt])
      obtain ⟨x1, x2, hx⟩ : ∃ x1 x2, xs.getD k (0, 0) = (x1, x2) := ⟨_, _, rfl⟩
      rw [hx] at p1 p2 hxo hst
      obtain ⟨xa, xb, xc, xd⟩ : 0 ≤ x1 ∧ x1 ≤ now ∧ 0 ≤ x2 ∧ x2 < 150 := hxo
      have HST := Lib.hid hst
      rw [Nat.add_zero] at p0
      clear hx hst hcell
      generalize sumS (xs.take k) = t at *
      go_wp2_with fail
      go_roundw
      case rel => exact ⟨k + 1, by omega, by go_num, by rw [HST.out], hB.alloc _, hb.alloc hb.size _, hbb.alloc hbb.size _⟩
      case measure => simp [intOf]; omega
    · obtain rfl : k = xs.length := by omega
      have FB := hB.facts4
      rw [List.take_length, ← HF.out]
      go_wp2_with fail
      refine (paceHeard_bad W T F S (F + 1) 0 (by omega) (by omega) (by omega) (by omega) (by omega) (by omega) (by omega) (by omega) (by omega) (by omega) (by decide) (by decide) (by omega) _).mono ?_
      rintro e w3 ⟨rfl, hb3⟩
      have hB3 := hB.carry hb3
      have hb4 := hb.trans (hb3.mono hb.size)
      have FB3 := hB3.facts4
      clear FB hB hb hb3 hbb
      go_wp2_with fail
      refine (paceCheck_ok W T F S (by omega) (by omega) (by omega) (by omega) (by omega) (by omega) (by omega) (by omega) _).mono ?_
      rintro e w5 ⟨rfl, hb5⟩
      have hb6 := (hb4.alloc hb4.size (.cells #[.int .i64 0, .int .i64 0, .int .i64 0, .int .i64 0] 37)).trans (hb5.mono (by have := hb4.size; simp; omega))
      have hB5 := (hB3.alloc _).carry hb5
      have FB5 := hB5.facts4
      clear FB3 hb4 hb5
      go_wp2_with fail
      go_ret
      exact ⟨rfl, hb6⟩
end Go.Proofs.Ytolhlgalhhdkmaa
