/- The walk of the law PaceHalf. -/
import Derived.Test.YtolhlgalhhdkmaaPaceSumWalk
import Derived.Deep.DeepCutAuto
namespace Go.Proofs.Ytolhlgalhhdkmaa
open Go.ChangeShapes Go.WideShapes Go.ChangeAt Go.RowKit
set_option linter.unusedVariables false

theorem picked_at (n m y : Int) (h0 : -9223372036854775808 ≤ n) (h1 : n ≤ 9223372036854775807) (hm : 0 < m) (hm1 : m ≤ 9223372036854775807) (hy : Hid (n % m = y)) (w : World) :
    Calls Try.prog 13 #[.int .i64 n, .int .i64 m] w fun e w' => e = .returned (.int .i64 y) ∧ w = w' := by
  have := hy.out
  subst this
  exact picked_any n m h0 h1 hm hm1 w
theorem mod_ex (n m : Int) (hm : 0 < m) : ∃ y : Int, Hid (n % m = y) ∧ 0 ≤ y ∧ y < m := ⟨n % m, rfl, Int.emod_nonneg n (by omega), Int.emod_lt_of_pos n hm⟩

theorem half_law {W T S x1 z1 m V U R V2 U2 R2 : Int} (hzx : z1 ≤ x1) (hxm : x1 ≤ m) (h1 : LostTo W T S x1 m V U R) (h2 : LostTo V U R z1 m V2 U2 R2) :
    V2 = V ∧ ((S < x1 ∧ V = max (W / 2) 200 ∧ U = V ∧ R = m) ∨ (x1 ≤ S ∧ V = W)) := by
  unfold LostTo at h1 h2
  omega

set_option maxRecDepth 100000 in
set_option maxHeartbeats 2000000 in
theorem paceHalf_walk (A : Option Addr) (len cap : Nat) (rs : List RawD) (n l : Int) (w : World) (h : IsRaws w A len cap rs) (hn : (Lit.int .i64 n).wf = true) (hl : (Lit.int .i64 l).wf = true) :
    Calls Try.prog 6 #[.slice A len cap, .int .i64 n, .int .i64 l] w fun e w' => e = .returned (.bool true) ∧ Below w.heap.size w w' := by
  obtain ⟨nn0, nn1⟩ := i64_bounds' hn
  obtain ⟨ll0, ll1⟩ := i64_bounds' hl
  clear hn hl
  go_enter Try.func6, Try.ntmps6
  go_wp2_with fail
  refine (paced_any A len cap rs w h).mono ?_
  rintro e w1 ⟨W, T, F, S, now, A1, c, xs, rfl, hb1, hW0, hW1, hT0, hT1, hF, hS0, hS1, hn0, hn1, hway, hxl, hxc, hcm, hrd⟩
  have hF0 := sumS_nn hway
  have hF1 := sumS_le hway
  rw [← hF] at hF0 hF1
  have HF := Lib.hid hF
  have HRD := Lib.hid hrd
  have hB0 := Blk.new w1 37 #[.int .i64 W, .int .i64 T, .int .i64 F, .int .i64 S]
  have hb0 : Below w.heap.size w (w1.alloc (.cells #[.int .i64 W, .int .i64 T, .int .i64 F, .int .i64 S] 37)) := hb1.alloc hb1.size _
  have hs1 := hb1.size
  clear hF hrd h hb1
  unfold maxLen at hcm
  by_cases hx2 : xs.length < 2
  · go_wp2_with fail
    refine (paceCheck_ok W T F S (by omega) (by omega) (by omega) (by omega) (by omega) (by omega) (by omega) (by omega) _).mono ?_
    rintro e w3 ⟨rfl, hb3⟩
    have hb4 := hb0.trans (hb3.mono hb0.size)
    clear hb0 hb3
    go_wp2_with fail
    refine (paceBegin_any _).mono ?_
    rintro e w5 ⟨rfl, hb5⟩
    have hb6 := hb4.trans (hb5.mono hb4.size)
    have hfd : ∀ w, (Instr.field 37 (.agg #[.int .i64 400, .int .i64 0, .int .i64 0, .int .i64 (-1)]) 0).run Try.prog w = .ok (.int .i64 400) w := fun _ => by kernel_rfl
    go_wp2_with fail
    go_ret
    exact ⟨rfl, hb6⟩
  · go_upto_region 4 with (fail)
    refine wp_world (fun w' => Blk w' w1.heap.size 37 #[.int .i64 W, .int .i64 T, .int .i64 F, .int .i64 S] ∧ Below w.heap.size w w' ∧ RdX parc 4 w' A1 xs) ⟨hB0, hb0, RdX.below HRD.out ((Below.refl _ _).alloc (Nat.le_refl _) _)⟩ ?_
    clear hB0 hb0 HRD
    rintro w2 ⟨hB, hb, hrd⟩
    go_wp2_with fail
    refine (picked_ex _ _ ll0 ll1 (by decide) (by decide) _).mono ?_
    rintro e w' ⟨m, m0, m1, rfl, rfl⟩
    obtain ⟨y, HY, y0, y1⟩ := mod_ex n xs.length (by omega)
    obtain ⟨i, rfl⟩ := Int.eq_ofNat_of_zero_le y0
    have hi : i < xs.length := by omega
    obtain ⟨b, off, rfl, hcell⟩ := RdX.at_ parc_len hrd (0, 0) (by omega)
    have p0 := hcell i hi 0 _ (by decide) rfl
    have p1 := hcell i hi 1 _ (by decide) rfl
    have p2 := hcell i hi 2 _ (by decide) rfl
    have p3 := hcell i hi 3 _ (by decide) rfl
    have q0 := hcell 0 (by omega) 0 _ (by decide) rfl
    have q1 := hcell 0 (by omega) 1 _ (by decide) rfl
    have q2 := hcell 0 (by omega) 2 _ (by decide) rfl
    have q3 := hcell 0 (by omega) 3 _ (by decide) rfl
    have hle : (xs.getD 0 (0, 0)).1 ≤ (xs.getD i (0, 0)).1 := by
      rw [show xs.getD 0 (0, 0) = xs[0] from by simp [List.getD, show 0 < xs.length by omega], show xs.getD i (0, 0) = xs[i] from by simp [List.getD, hi]]
      rcases Nat.eq_zero_or_pos i with h0 | h0
      · subst h0; exact Int.le_refl _
      · exact List.pairwise_iff_getElem.1 hway.2 0 i (by omega) hi h0
    have hxo := hway.1 (xs.getD i (0, 0)) (by simp [List.getD, hi])
    have hzo := hway.1 (xs.getD 0 (0, 0)) (by simp [List.getD, show 0 < xs.length by omega])
    have hso := sumS_out xs i hi
    have hwo := sumS_nn (hway.out i)
    obtain ⟨x1, x2, hx⟩ : ∃ x1 x2, xs.getD i (0, 0) = (x1, x2) := ⟨_, _, rfl⟩
    obtain ⟨z1, z2, hz⟩ : ∃ x1 x2, xs.getD 0 (0, 0) = (x1, x2) := ⟨_, _, rfl⟩
    rw [hx] at p1 p2 hxo hso hle
    rw [hz] at q1 q2 hzo hle
    obtain ⟨xa, xb, xc, xd⟩ : 0 ≤ x1 ∧ x1 ≤ now ∧ 0 ≤ x2 ∧ x2 < 150 := hxo
    obtain ⟨za, zb, zc, zd⟩ : 0 ≤ z1 ∧ z1 ≤ now ∧ 0 ≤ z2 ∧ z2 < 150 := hzo
    have hzx : z1 ≤ x1 := hle
    have hx2F : x2 ≤ F := by rw [HF.out]; have : sumS (xs.take i ++ xs.drop (i + 1)) = sumS xs - x2 := hso; omega
    rw [Nat.add_zero] at p0
    simp only [Nat.zero_mul, Nat.add_zero] at q0 q1 q2 q3
    have hbl : b < w2.heap.size := World.block_lt_of_cell? w2 _ p0
    have hi0 : (0 : Int) ≤ (i : Int) := by omega
    have hlp : 0 < xs.length := by omega
    have hF45 : F ≤ 4500 := by omega
    clear hx hz hso hwo hle hcell hrd HF hF1
    have hlt12 := hB.lt
    have HB := Lib.hid hB
    have HBB := Lib.hid hb
    clear hB hb
    go_upto_region 5 with (fail)
    go_cut [11, 12] (fun s11 s12 wx => ∃ g1 g2 : Nat, s11 = .pointer (some ⟨g1, 0, none⟩) ∧ s12 = .pointer (some ⟨g2, 0, none⟩) ∧ w1.heap.size < g1 ∧ w1.heap.size < g2 ∧ Blk wx g1 49 #[.int .i64 0, .int .i64 x1, .int .i64 x2, .slice none 0 0] ∧ Blk wx g2 49 #[.int .i64 0, .int .i64 z1, .int .i64 z2, .slice none 0 0] ∧ Blk wx w1.heap.size 37 #[.int .i64 W, .int .i64 T, .int .i64 F, .int .i64 S] ∧ Below w.heap.size w wx)
    case first =>
      go_region_held3 (fun w' => w'.cell? ⟨b, off + i * 4, none⟩ = some (.int .i64 0) ∧ w'.cell? ⟨b, off + i * 4 + 1, none⟩ = some (.int .i64 x1) ∧ w'.cell? ⟨b, off + i * 4 + 2, none⟩ = some (.int .i64 x2) ∧ w'.cell? ⟨b, off + i * 4 + 3, none⟩ = some (.slice none 0 0) ∧
        w'.cell? ⟨b, off, none⟩ = some (.int .i64 0) ∧ w'.cell? ⟨b, off + 1, none⟩ = some (.int .i64 z1) ∧ w'.cell? ⟨b, off + 2, none⟩ = some (.int .i64 z2) ∧ w'.cell? ⟨b, off + 3, none⟩ = some (.slice none 0 0)) (go_keep)
        (first | (go_at_call 13; refine (picked_at _ _ _ nn0 nn1 (by omega) (by omega) HY _).mono ?_; rintro e w' ⟨rfl, rfl⟩))
      all_goals
        go_wp2_with fail
        go_meet
        refine ⟨_, _, rfl, rfl, by omega, by omega, ?_, ?_, ?_, ?_⟩
        · first | exact (Blk.new _ _ _).alloc _ | exact Blk.new1 _ _ _ _ | exact ((Blk.new _ _ _).alloc _).drew | exact (Blk.new1 _ _ _ _).drew
        · first | exact (Blk.new _ _ _).alloc _ | exact Blk.new1 _ _ _ _ | exact ((Blk.new _ _ _).alloc _).drew | exact (Blk.new1 _ _ _ _).drew
        · have hB := HB.out
          (apply Blk.as; (case h => (repeat (first | with_reducible exact hB | with_reducible apply Blk.drew | with_reducible apply Blk.set4 | with_reducible apply Blk.set_ | (with_reducible apply Blk.far4 (hne := ?side); case side => (first | omega | (simp; omega) | (simp; done))) | (with_reducible apply Blk.far (hp := ?side); case side => (first | omega | (simp; omega) | (simp; done))) | with_reducible apply Blk.alloc))); (case e => (first | with_reducible rfl | (simp; done) | rfl)))
        · have hb := HBB.out
          (repeat (first | with_reducible exact hb | with_reducible refine Below.drew ?_ | (with_reducible refine Below.set4 ?_ ?side _ _ _ _; case side => (first | omega | (simp; omega) | (simp; done))) | (with_reducible refine Below.setCell ?_ ?side _; case side => (first | omega | (simp; omega) | (simp; done))) | (with_reducible refine Below.alloc ?_ ?side _; case side => (first | omega | (simp; omega) | (simp; done)))))
    case rest =>
      obtain ⟨g1, g2, rfl, rfl, hg1, hg2, hX, hZ, hB, hb⟩ := hcut
      have FX := hX.facts4
      have FZ := hZ.facts4
      have FB := hB.facts4
      go_wp2_with fail
      refine (paceLost_any W T F S x2 x1 (100 + m) (by omega) (by omega) (by omega) (by omega) (by omega) (by omega) (by omega) (by omega) xc (by omega) xa (by omega) (by omega) (by omega) (by omega) _).mono ?_
      rintro e w3 ⟨V, U, R, hl1, rfl, hb3⟩
      have hvb : 200 ≤ V ∧ V ≤ W ∧ 0 ≤ U ∧ U ≤ 5000 ∧ -1 ≤ R ∧ R ≤ 150 := by
        rcases hl1 with ⟨_, h1, h2, h3⟩ | ⟨_, h1, h2, h3⟩ <;> omega
      have HL1 := Lib.hid hl1
      clear hl1
      go_upto_region 7 with (fail)
      refine wp_world (fun w' => Blk w' w3.heap.size 37 #[.int .i64 V, .int .i64 U, .int .i64 (F - x2), .int .i64 R] ∧ Blk w' g1 49 #[.int .i64 0, .int .i64 x1, .int .i64 x2, .slice none 0 0] ∧ Blk w' g2 49 #[.int .i64 0, .int .i64 z1, .int .i64 z2, .slice none 0 0] ∧ Blk w' w1.heap.size 37 #[.int .i64 W, .int .i64 T, .int .i64 F, .int .i64 S] ∧ Below w.heap.size w w')
        ⟨Blk.new _ _ _, (hX.carry hb3).alloc _, (hZ.carry hb3).alloc _, (hB.carry hb3).alloc _, (hb.trans (hb3.mono hb.size)).alloc (hb.trans (hb3.mono hb.size)).size _⟩ ?_
      clear FX FZ FB hX hZ hB hb hb3
      rintro w4 ⟨hQ, hX, hZ, hB, hb⟩
      have FX := hX.facts4
      have FZ := hZ.facts4
      have FB := hB.facts4
      have FQ := hQ.facts4
      obtain ⟨M, hM⟩ : ∃ M : Int, (if F - x2 < z2 then F - x2 else z2) = M := ⟨_, rfl⟩
      have hMb : 0 ≤ M ∧ M ≤ 150 ∧ M ≤ F - x2 := by split at hM <;> omega
      go_wp2_with fail
      refine (paceLost_any V U (F - x2) R M z1 (100 + m) (by omega) (by omega) (by omega) (by omega) (by omega) (by omega) (by omega) (by omega) (by omega) (by omega) za (by omega) (by omega) (by omega) (by omega) _).mono ?_
      rintro e w5 ⟨V2, U2, R2, hl2, rfl, hb5⟩
      have hfin := half_law hzx (show x1 ≤ 100 + m by omega) HL1.out hl2
      obtain ⟨rfl, hcase⟩ := hfin
      have hX5 := hX.carry hb5
      have hQ5 := hQ.carry hb5
      have hB5 := hB.carry hb5
      have hbz := hb.trans (hb5.mono hb.size)
      clear FX FZ FB FQ hX hZ hB hQ hb hb5 hM hl2 HL1
      have FX := hX5.facts4
      have FB := hB5.facts4
      have FQ := hQ5.facts4
      rcases hcase with ⟨hsx, hv, rfl, rfl⟩ | ⟨hsx, rfl⟩
      · have hmx : (if W / 2 < 200 then 200 else W / 2) = U := by rw [hv]; split <;> omega
        clear hv
        go_wp2_with fail
        go_ret
        exact ⟨by simp, hbz.alloc hbz.size _⟩
      · go_wp2_with fail
        go_ret
        exact ⟨by simp, hbz.alloc hbz.size _⟩
end Go.Proofs.Ytolhlgalhhdkmaa
