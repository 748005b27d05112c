/- The contract of sender.Check. -/
import Derived.BigRegion
import Derived.BigQuiet
import Derived.Test.YtpmgoediglmofaaSenderSt
namespace Go.Proofs.Ytpmgoediglmofaa
open Go.ChangeShapes Go.WideShapes Go.ChangeAt Go.RowKit
set_option linter.unusedVariables false

set_option maxRecDepth 100000 in
set_option maxHeartbeats 8000000 in
theorem snCheck_ok (w : World) (A : Option Addr) (n c : Nat) (bs : List UInt8) (fin : Bool) (nx mx : Int) (B : Option Addr) (m d : Nat) (lost : List Rng) (C : Option Addr) (k e : Nat) (acked : List Rng) (ended over : Bool) (h : SnV w A n c bs fin nx mx B m d lost C k e acked ended over) :
    Calls Try.prog 21 #[.agg #[.slice A n c, .bool fin, .int .i64 nx, .int .i64 mx, .slice B m d, .slice C k e, .bool ended, .bool over]] w fun e' w' => e' = .returned (.int .i64 0) ∧ Below w.heap.size w w' := by
  obtain ⟨hn, hm, hk, hnc, hcm, hmd, hdm, hke, hem, ok, ra, rb, rc⟩ := h
  have hca := ok.cases
  have lh := ok.lh'
  have ah := ok.ah'
  have dj := ok.dj'
  obtain ⟨n600, x0, x1, m0, m1, hl, ha, _, _, _, fe, fn, eo⟩ := ok
  have HM := Lib.hid hm
  have HK := Lib.hid hk
  have HB := Lib.hid rb
  have HC := Lib.hid rc
  have HL := Lib.hid hl
  have HA := Lib.hid ha
  have LH := Lib.hid lh
  have AH := Lib.hid ah
  have DJ := Lib.hid dj
  clear hn hm hk ra rb rc hl ha lh ah dj fe fn eo
  go_enter Try.func21, Try.ntmps21
  go_upto_region 1 with (fail)
  refine wp_world (fun w' => Blk w' w.heap.size 50 #[.slice A n c, .bool fin, .int .i64 nx, .int .i64 mx, .slice B m d, .slice C k e, .bool ended, .bool over] ∧ Below w.heap.size w w') ⟨Blk.new _ _ _, (Below.refl _ _).alloc (Nat.le_refl _) _⟩ ?_
  rintro w1 ⟨hS, hb1⟩
  have HCA := Lib.hid hca
  clear hca
  go_cut [3] (fun s3 wx => s3 = .bool true ∧ Below w1.heap.size w1 wx)
  case first =>
    -- [[first
    have FS := hS.facts8
    have t1 : decide ((n : Int) ≤ 600) = true := decide_eq_true (by omega)
    have t2 : decide (0 ≤ nx) = true := decide_eq_true x0
    have t3 : decide (nx ≤ (n : Int)) = true := decide_eq_true x1
    have t4 : decide (nx ≤ mx) = true := decide_eq_true m0
    have t5 : decide (mx ≤ 4611686018427387903) = true := decide_eq_true m1
    clear x0 x1 m0 m1 n600 DJ AH LH
    rcases HCA.out with ⟨rfl, rfl⟩ | ⟨rfl, rfl, rfl, rfl⟩ | ⟨rfl, rfl, rfl, rfl⟩
    · clear HCA
      cases fin
      all_goals
        go_wp2_with fail
        refine (rCheck_ok B m d lost HM.out HL.out hmd hdm _ (RdX.below HB.out hb1)).mono ?_
        rintro e1 w2 ⟨rfl, hb2⟩
        have hS2 := hS.carry hb2
        have hb12 := hb1.trans (hb2.mono hb1.size)
        clear FS hS
        have FS := hS2.facts8
        go_wp2_with fail
        refine (rCheck_ok C k e acked HK.out HA.out hke hem _ (RdX.below HC.out hb12)).mono ?_
        rintro e2 w3 ⟨rfl, hb3⟩
        have hb23 := hb2.trans (hb3.mono hb2.size)
        have hS3 := hS2.carry hb3
        clear FS hS2
        have FS := hS3.facts8
        go_wp2_with fail
        all_goals first
          | (exfalso; rename_i hx hy; simp at hx; done)
          | (go_meet; exact ⟨rfl, hb23⟩)
    all_goals
      clear HCA
      go_wp2_with fail
      refine (rCheck_ok B m d lost HM.out HL.out hmd hdm _ (RdX.below HB.out hb1)).mono ?_
      rintro e1 w2 ⟨rfl, hb2⟩
      have hS2 := hS.carry hb2
      have hb12 := hb1.trans (hb2.mono hb1.size)
      clear FS hS
      have FS := hS2.facts8
      go_wp2_with fail
      refine (rCheck_ok C k e acked HK.out HA.out hke hem _ (RdX.below HC.out hb12)).mono ?_
      rintro e2 w3 ⟨rfl, hb3⟩
      have hb23 := hb2.trans (hb3.mono hb2.size)
      have hS3 := hS2.carry hb3
      clear FS hS2
      have FS := hS3.facts8
      go_wp2_with fail
      all_goals first
        | (exfalso; rename_i hx hy; simp at hx; done)
        | (go_meet; exact ⟨rfl, hb23⟩)
    -- ]]first
  case rest =>
    obtain ⟨rfl, hbx⟩ := hcut
    have hS2 := hS.carry hbx
    have hb2 := hb1.trans (hbx.mono hb1.size)
    clear hS hb1 hbx HCA HL HA
    have FS := hS2.facts8
    have hi0 : ∀ w, (Instr.index 79 (.agg #[.slice B m d, .slice C k e]) (.int .i64 0)).run Try.prog w = .ok (.slice B m d) w := fun _ => by kernel_rfl
    have hi1 : ∀ w, (Instr.index 79 (.agg #[.slice B m d, .slice C k e]) (.int .i64 1)).run Try.prog w = .ok (.slice C k e) w := fun _ => by kernel_rfl
    go_wp2_with fail
    clear FS
    go_loopw [100] (fun iv wr => ∃ j : Nat, j ≤ 2 ∧ iv = .int .i64 (j : Int) ∧ Below wc.heap.size wc wr) (fun iv _ => 2 - (intOf iv).toNat)
    case atStart => exact ⟨0, by omega, rfl, Below.refl _ _⟩
    case round =>
      obtain ⟨j, hj, rfl, hbr⟩ := hrel
      rcases (show j = 0 ∨ j = 1 ∨ j = 2 by omega) with rfl | rfl | rfl
      · have FS := (hS2.carry hbr).facts8
        by_cases hm0 : m = 0
        · subst hm0
          go_upto_region 8 with (fail)
          go_quiet (fail)
          go_wp2_with fail
          go_roundw
          case rel => exact ⟨1, by omega, by first | rfl | (go_num; done), by first | exact hbr | exact hbr.drewN1 _⟩
          case measure => first | (simp [intOf]; done) | (simp [intOf]; omega)
        · obtain ⟨p, rfl⟩ : ∃ p, m = p + 1 := ⟨m - 1, by omega⟩
          obtain ⟨b, off, rfl, hcell⟩ := (RdX.below HB.out (hb2.trans (hbr.mono hb2.size))).rcell (by have := HM.out; omega)
          obtain ⟨c0, c1⟩ := hcell p (by have := HM.out; omega)
          have hlt := lastHi LH.out p (by have := HM.out; omega)
          generalize (lost.getD p (0, 0)).2 = hi at *
          have g0 : decide ((0 : Int) < ((p + 1 : Nat) : Int)) = true := decide_eq_true (by omega)
          have g1 : decide (nx ≤ hi) = false := decide_eq_false (by omega)
          have g2 : IntKind.i64.wrap (((p + 1 : Nat) : Int) - 1) = (p : Int) := by rw [IntWalk.i64_in _ (by omega)]; omega
          clear hcell
          go_upto_region 8 with (fail)
          go_quiet (fail)
          go_wp2_with fail
          go_roundw
          case rel => exact ⟨1, by omega, by first | rfl | (go_num; done), by first | exact hbr | exact hbr.drewN1 _⟩
          case measure => first | (simp [intOf]; done) | (simp [intOf]; omega)
      · have FS := (hS2.carry hbr).facts8
        by_cases hm0 : k = 0
        · subst hm0
          go_upto_region 8 with (fail)
          go_quiet (fail)
          go_wp2_with fail
          go_roundw
          case rel => exact ⟨2, by omega, by first | rfl | (go_num; done), by first | exact hbr | exact hbr.drewN1 _⟩
          case measure => first | (simp [intOf]; done) | (simp [intOf]; omega)
        · obtain ⟨p, rfl⟩ : ∃ p, k = p + 1 := ⟨k - 1, by omega⟩
          obtain ⟨b, off, rfl, hcell⟩ := (RdX.below HC.out (hb2.trans (hbr.mono hb2.size))).rcell (by have := HK.out; omega)
          obtain ⟨c0, c1⟩ := hcell p (by have := HK.out; omega)
          have hlt := lastHi AH.out p (by have := HK.out; omega)
          generalize (acked.getD p (0, 0)).2 = hi at *
          have g0 : decide ((0 : Int) < ((p + 1 : Nat) : Int)) = true := decide_eq_true (by omega)
          have g1 : decide (nx ≤ hi) = false := decide_eq_false (by omega)
          have g2 : IntKind.i64.wrap (((p + 1 : Nat) : Int) - 1) = (p : Int) := by rw [IntWalk.i64_in _ (by omega)]; omega
          clear hcell
          go_upto_region 8 with (fail)
          go_quiet (fail)
          go_wp2_with fail
          go_roundw
          case rel => exact ⟨2, by omega, by first | rfl | (go_num; done), by first | exact hbr | exact hbr.drewN1 _⟩
          case measure => first | (simp [intOf]; done) | (simp [intOf]; omega)
      · have FS := (hS2.carry hbr).facts8
        have hS3 := Lib.hid (hS2.carry hbr)
        have hb3 := hb2.trans (hbr.mono hb2.size)
        have HB3 := Lib.hid hb3
        clear hi0 hi1 LH AH
        go_upto_region 11 with (fail)
        refine wp_world (fun w' => Blk w' w.heap.size 50 #[.slice A n c, .bool fin, .int .i64 nx, .int .i64 mx, .slice B m d, .slice C k e, .bool ended, .bool over] ∧ Below w.heap.size w w') ⟨hS3.out, hb3⟩ ?_
        clear FS hS2 hb2 hbr hS3 hb3 HB3
        rintro w4 ⟨hS4, hb4⟩
        have FS := hS4.facts8
        go_wp2_with fail
        clear FS
        go_loopw [122] (fun iv wr => ∃ i : Nat, i ≤ m ∧ iv = .int .i64 (i : Int) ∧ Below w4.heap.size w4 wr) (fun iv _ => m - (intOf iv).toNat)
        case atStart => exact ⟨0, Nat.zero_le _, rfl, Below.refl _ _⟩
        case round =>
          obtain ⟨i, hi, rfl, hbr⟩ := hrel
          by_cases hlt : i < m
          · obtain ⟨b, off, rfl, hcell⟩ := (RdX.below HB.out (hb4.trans (hbr.mono hb4.size))).rcell (by have := HM.out; omega)
            obtain ⟨c0, c1⟩ := hcell i (by have := HM.out; omega)
            have HDI := Lib.hid (DJ.out _ (getD_in lost i (0, 0) (by have := HM.out; omega)))
            generalize lost.getD i (0, 0) = r at *
            obtain ⟨rl, rh⟩ := r
            simp only at c0 c1
            clear hcell
            go_upto_region 14 with (fail)
            refine wp_world (fun w' => Blk w' wr.heap.size 35 #[.int .i64 rl, .int .i64 rh] ∧ Below w4.heap.size w4 w') ⟨Blk.new _ _ _, hbr.alloc hbr.size _⟩ ?_
            clear c0 c1
            have hzr := hbr.size
            clear hbr
            generalize wr.heap.size = gr at *
            rintro w5 ⟨hR5, hb5⟩
            have HS5 := Lib.hid (hS4.carry hb5)
            have FS := HS5.out.facts8
            go_wp2_with fail
            clear FS
            go_loopw [129] (fun iv wr => ∃ j : Nat, j ≤ k ∧ iv = .int .i64 (j : Int) ∧ Below w5.heap.size w5 wr) (fun iv _ => k - (intOf iv).toNat)
            case atStart => exact ⟨0, Nat.zero_le _, rfl, Below.refl _ _⟩
            case round =>
              obtain ⟨j, hj, rfl, hbr⟩ := hrel
              by_cases hlt2 : j < k
              · obtain ⟨b2, off2, rfl, hcell⟩ := (RdX.below HC.out ((hb4.trans (hb5.mono hb4.size)).trans (hbr.mono (hb4.trans (hb5.mono hb4.size)).size))).rcell (by have := HK.out; omega)
                obtain ⟨c0, c1⟩ := hcell j (by have := HK.out; omega)
                have hdj := HDI.out _ (getD_in acked j (0, 0) (by have := HK.out; omega))
                generalize acked.getD j (0, 0) = x at *
                obtain ⟨xl, xh⟩ := x
                simp only at c0 c1 hdj
                clear hcell
                go_upto_region 17 with (fail)
                refine wp_world (fun w' => Blk w' gr 35 #[.int .i64 rl, .int .i64 rh] ∧ Blk w' wr.heap.size 35 #[.int .i64 xl, .int .i64 xh] ∧ Below w5.heap.size w5 w') ⟨(hR5.carry hbr).alloc _, Blk.new _ _ _, hbr.alloc hbr.size _⟩ ?_
                clear c0 c1 hbr
                generalize wr.heap.size = gx at *
                rintro w6 ⟨hR6, hX6, hb6⟩
                have FR := hR6.two
                have FX := hX6.two
                by_cases h1 : rl ≤ xh
                · have g1 : decide (rl ≤ xh) = true := decide_eq_true h1
                  have g2 : decide (xl ≤ rh) = false := decide_eq_false (fun h2 => hdj ⟨h1, h2⟩)
                  clear hdj h1
                  go_wp2_with fail
                  go_roundw
                  case rel => exact ⟨j + 1, by omega, by go_num, hb6⟩
                  case measure => first | (simp [intOf]; done) | (simp [intOf]; omega)
                · have g1 : decide (rl ≤ xh) = false := decide_eq_false h1
                  clear hdj h1
                  go_wp2_with fail
                  go_roundw
                  case rel => exact ⟨j + 1, by omega, by go_num, hb6⟩
                  case measure => first | (simp [intOf]; done) | (simp [intOf]; omega)
              · obtain rfl : k = j := by omega
                go_wp2_with fail
                go_roundw
                case rel =>
                  (repeat apply Exists.intro)
                  refine ⟨⟨i + 1, by omega, ?n, hb5.trans (hbr.mono hb5.size)⟩, ?f⟩
                  case f => rfl
                  case n => go_num
                case measure => first | (simp [intOf]; done) | (simp [intOf]; omega)
          · obtain rfl : m = i := by omega
            go_wp2_with fail
            go_ret
            exact ⟨rfl, hb4.trans (hbr.mono hb4.size)⟩
end Go.Proofs.Ytpmgoediglmofaa
