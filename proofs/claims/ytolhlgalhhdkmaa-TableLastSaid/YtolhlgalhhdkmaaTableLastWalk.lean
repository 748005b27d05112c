/- The walk of the law TableLast. -/
import Derived.Test.YtolhlgalhhdkmaaTableOfWalk
import Derived.Test.YtolhlgalhhdkmaaTableTellsWalk
namespace Go.Proofs.Ytolhlgalhhdkmaa
open Go.ChangeShapes Go.WideShapes Go.ChangeAt Go.RowKit
set_option linter.unusedVariables false

/-- The one ahead of those that are there does not fit. -/
theorem TabOk.more {r : Nat} {al R : List Fld} (h : TabOk r al R) (j : Nat) (hj : al.length = R.length + j) (h0 : 0 < j) : j - 1 < al.length ∧ r < tsz R + fsz (al.getD (j - 1) fnil) := by
  obtain ⟨⟨k, hk, rfl, hm⟩, _⟩ := h
  rw [List.length_drop] at hj
  obtain rfl : k = j := by omega
  have h1 := hm h0
  have h2 : k - 1 < al.length := by omega
  rw [List.drop_eq_getElem_cons h2, tsz, show k - 1 + 1 = k from by omega] at h1
  refine ⟨h2, ?_⟩
  simp only [List.getD, List.getElem?_eq_getElem h2, Option.getD_some]
  omega

set_option maxRecDepth 100000 in
set_option maxHeartbeats 1000000 in
theorem tableLast_walk (room : Int) (a : Option Addr) (len cap : Nat) (rs : List RawD) (w : World) (hroom : (Lit.int .i64 room).wf = true) (h : IsRaws w a len cap rs) :
    Calls Try.prog 8 #[.int .i64 room, .slice a len cap] w fun e w' => e = .returned (.bool true) ∧ Below w.heap.size w w' := by
  have rr := i64_bounds' hroom
  clear hroom
  go_enter Try.func8, Try.ntmps8
  go_wp2_with fail
  refine (tableOf_any room a len cap rs w rr.1 rr.2 h).mono ?_
  rintro e w1 ⟨r, A, n, c, B, m, d, al, R, rfl, hb, hr40, hr160, hn, hnc, hcc, hm, hmd, hdd, hm12, htab, hrd, hal⟩
  have HN := Lib.hid hn
  have HM := Lib.hid hm
  have HTA := Lib.hid htab
  have HRD := Lib.hid hrd
  have HAL := Lib.hid hal
  have hnm : n ≤ m := by rw [← hn, ← hm]; exact htab.len
  clear hn hm htab hrd hal h
  go_upto_region 2 with (fail)
  refine wp_world (fun w' => Blk w' w1.heap.size 55 #[.int .i64 (r : Int), .int .i64 (m : Int), .slice A n c] ∧ RdX fcells 2 w' A R ∧ RdX fcells 2 w' B al ∧ Below w.heap.size w w') ⟨Blk.new _ _ _, HRD.out.alloc _, HAL.out.alloc _, hb.alloc hb.size _⟩ ?_
  clear hb HRD HAL
  rintro w2 ⟨hT, hrd, hal, hb⟩
  have HRD := Lib.hid hrd
  have HAL := Lib.hid hal
  have HTB := Lib.hid hT
  have HB := Lib.hid hb
  have FT := hT.facts3
  clear hrd hal hT hb
  go_wp2_with fail
  clear FT
  go_loopw [8, 22] (fun s i wr => ∃ j : Nat, j ≤ n ∧ i = .int .i64 j ∧ s = .int .i64 (tsz (R.take j) : Nat) ∧ Below w2.heap.size w2 wr) (fun _ i _ => n - (intOf i).toNat)
  case atStart => exact ⟨0, Nat.zero_le _, rfl, rfl, Below.refl _ _⟩
  case round =>
    obtain ⟨j, hj, rfl, rfl, hb⟩ := hrel
    by_cases hlt : j < n
    · have hlen := HN.out
      obtain ⟨b, off, hA, hcell⟩ := (RdX.below HRD.out hb).fcell (by omega)
      subst hA
      obtain ⟨c0, c1⟩ := hcell j (by omega)
      have hst := tsz_take R j (by omega)
      have hle := tsz_take_le R (j + 1)
      have hsr := HTA.out.2.1
      obtain ⟨⟨x1, x2⟩, hx⟩ : ∃ f, R.getD j fnil = f := ⟨_, rfl⟩
      rw [hx] at c0 c1 hst
      obtain ⟨q, hq⟩ : ∃ q, fsz (x1, x2) = q := ⟨_, rfl⟩
      rw [hq] at hst
      have hq' : x1.size + x2.size + 32 = q := hq
      obtain ⟨s0, hs0⟩ : ∃ s0, tsz (R.take j) = s0 := ⟨_, rfl⟩
      obtain ⟨s1, hs1⟩ : ∃ s1, tsz (R.take (j + 1)) = s1 := ⟨_, rfl⟩
      rw [hs0] at hst ⊢
      rw [hs1] at hst hle
      have hs160 : s1 ≤ 160 := by omega
      have HQ := Lib.hid hq'
      have HS1 := Lib.hid hs1
      clear hlen hcell hx hq hq' hs0 hs1 hle hsr
      go_wp2_with fail
      refine (tSize_any x1 x2 q HQ.out (by omega) _).mono ?_
      rintro e w5 ⟨rfl, hb5⟩
      have hb6 := (hb.trans ((Below.refl _ _).alloc (Nat.le_refl _) _ |>.mono hb.size)).trans (hb5.mono (by simp; have := hb.size; omega))
      clear c0 c1 hb hb5
      go_wp2_with fail
      go_roundw
      case rel => exact ⟨j + 1, by omega, by go_num, by rw [HS1.out]; go_num, hb6⟩
      case measure => simp [intOf]; omega
    · obtain rfl : j = n := by omega
      rw [show R.take j = R from List.take_of_length_le (by rw [HN.out]; exact Nat.le_refl _)]
      obtain ⟨s, hs⟩ : ∃ s, tsz R = s := ⟨_, rfl⟩
      have hsr : s ≤ r := by rw [← hs]; exact HTA.out.2.1
      have HS := Lib.hid hs
      rw [hs]
      clear hs
      have hT := HTB.out.carry hb
      have FT := hT.facts3
      obtain ⟨q, hq⟩ : ∃ q, m = j + q := ⟨m - j, by omega⟩
      have hmj : (m : Int) - (j : Int) = (q : Int) := by omega
      have hj0 : 0 < m → 0 < j := by
        intro h0
        rcases Nat.eq_zero_or_pos j with h1 | h1
        · have h2 := HTA.out.2.2.2 (fun e => by have := HM.out; rw [e] at this; simp at this; omega)
          have h3 := HN.out
          rw [h1] at h3
          exact absurd (List.eq_nil_of_length_eq_zero h3) h2
        · exact h1
      have hmore := HTA.out.more q (by rw [HN.out, HM.out]; exact hq)
      have HMO := Lib.hid hmore
      have hbw := HB.out.trans (hb.mono HB.out.size)
      have HBW := Lib.hid hbw
      have hrw := RdX.below HAL.out hb
      have HRW := Lib.hid hrw
      clear hlt hmore hbw hrw hq
      go_wp2_with fail
      clear FT
      have hq0 : (0 : Int) ≤ (q : Int) := by omega
      rcases Nat.eq_zero_or_pos m with hm0 | hm0
      · have hm1 : ((m : Int) == 0) = true := by rw [beq_iff_eq]; omega
        have hq1 : ((q : Int) == 0) = true := by rw [beq_iff_eq]; omega
        refine wp_region_quiet (C := fun w' => Below (wr).heap.size (wr) w') (by kernel_rfl) (by kernel_rfl) (Below.refl _ _).drew ?_
        repeat (
          with_reducible refine wpQuiet_step ?_
          intro K hK
          go_simp
          first
            | (refine hK _ ?_; clear hK K)
            | (apply Exists.intro
               refine ⟨fun w' hw' => ?_, hK _ ?_⟩
               first
                 | (go_at_call 27; exact (tableTells_any w').mono (fun e w'' ⟨he, hb⟩ => ⟨he, hw'.trans (hb.mono hw'.size)⟩))
                 | (have FF := (fun w' hw' => (hT.carry hw').facts3) w' hw'; go_simp; done)
                 | (have FF := (fun w' hw' => (hT.carry hw').facts3) w' hw'; go_simp; exact rfl)
               clear hK K))
        refine wpQuiet_nil ?_
        intro wq hwq
        go_wp2_with fail
        go_ret
        exact ⟨by simp, HBW.out.trans (hwq.mono HBW.out.size)⟩
      · have hj1 := hj0 hm0
        have hm1 : ((m : Int) == 0) = false := by rw [beq_eq_false_iff_ne]; omega
        have hj2 : decide ((0 : Int) < (j : Int)) = true := decide_eq_true (by omega)
        have hj3 : decide (0 < j) = true := decide_eq_true hj1
        rcases Nat.eq_zero_or_pos q with hqz | hqz
        · have hq1 : ((q : Int) == 0) = true := by rw [beq_iff_eq]; omega
          refine wp_region_quiet (C := fun w' => Below (wr).heap.size (wr) w') (by kernel_rfl) (by kernel_rfl) (Below.refl _ _).drew ?_
          repeat (
            with_reducible refine wpQuiet_step ?_
            intro K hK
            go_simp
            first
              | (refine hK _ ?_; clear hK K)
              | (apply Exists.intro
                 refine ⟨fun w' hw' => ?_, hK _ ?_⟩
                 first
                   | (go_at_call 27; exact (tableTells_any w').mono (fun e w'' ⟨he, hb⟩ => ⟨he, hw'.trans (hb.mono hw'.size)⟩))
                   | (have FF := (fun w' hw' => (hT.carry hw').facts3) w' hw'; go_simp; done)
                   | (have FF := (fun w' hw' => (hT.carry hw').facts3) w' hw'; go_simp; exact rfl)
                 clear hK K))
          refine wpQuiet_nil ?_
          intro wq hwq
          go_wp2_with fail
          go_ret
          exact ⟨by simp, HBW.out.trans (hwq.mono HBW.out.size)⟩
        · have hq1 : ((q : Int) == 0) = false := by rw [beq_eq_false_iff_ne]; omega
          obtain ⟨h1, h2⟩ := HMO.out hqz
          rw [HS.out] at h2
          obtain ⟨b, off, hB, hcell⟩ := HRW.out.fcell (by omega)
          subst hB
          obtain ⟨c0, c1⟩ := hcell (q - 1) h1
          obtain ⟨⟨x1, x2⟩, hx⟩ : ∃ f, al.getD (q - 1) fnil = f := ⟨_, rfl⟩
          rw [hx] at c0 c1 h2
          obtain ⟨z, hz⟩ : ∃ z, fsz (x1, x2) = z := ⟨_, rfl⟩
          rw [hz] at h2
          have hz' : x1.size + x2.size + 32 = z := hz
          have hok := HTA.out.2.2.1 (x1, x2) (by rw [← hx]; simp only [List.getD, List.getElem?_eq_getElem h1, Option.getD_some]; exact List.getElem_mem h1)
          have hzb : z ≤ 92 := by have h3 := hok.2.1; have h4 := hok.2.2; simp only at h3 h4; omega
          have HZ := Lib.hid hz'
          obtain ⟨q1, hq2⟩ : ∃ q1, q - 1 = q1 := ⟨_, rfl⟩
          rw [hq2] at c0 c1
          have hqw : IntKind.i64.wrap ((q : Int) - 1) = (q1 : Int) := by rw [show (q : Int) - 1 = (q1 : Int) by omega]; exact IntWalk.i64_in _ (by omega)
          have hi0 : (0 : Int) ≤ (q1 : Int) := by omega
          have hi1 : (q1 : Int) < (m : Int) := by omega
          obtain ⟨y, hy⟩ : ∃ y, s + z = y := ⟨_, rfl⟩
          have hyw : IntKind.i64.wrap ((s : Int) + (z : Int)) = (y : Int) := by rw [show (s : Int) + (z : Int) = (y : Int) by omega]; exact IntWalk.i64_in _ (by omega)
          have hry : decide (r < y) = true := decide_eq_true (by omega)
          have hfacts : ∀ w', Below wr.heap.size wr w' → (w'.cell? ⟨w1.heap.size, 0, none⟩ = some (.int .i64 (r : Int)) ∧ w'.cell? ⟨w1.heap.size, 2, none⟩ = some (.slice A j c)) ∧ w'.cell? ⟨b, off + q1 * 2, none⟩ = some (.string x1) ∧ w'.cell? ⟨b, off + q1 * 2 + 1, none⟩ = some (.string x2) := fun w' hw' => ⟨⟨(hT.carry hw').facts3.2.1, (hT.carry hw').facts3.2.2.2.1⟩, cell_keep hw' c0, cell_keep hw' c1⟩
          have HFA := Lib.hid hfacts
          clear hfacts hcell hx hz hz' h1 h2 hok hq2 hy
          refine wp_region_quiet (C := fun w' => Below (wr).heap.size (wr) w') (by kernel_rfl) (by kernel_rfl) (Below.refl _ _).drew ?_
          repeat (
            with_reducible refine wpQuiet_step ?_
            intro K hK
            go_simp
            first
              | (refine hK _ ?_; clear hK K)
              | (apply Exists.intro
                 refine ⟨fun w' hw' => ?_, hK _ ?_⟩
                 first
                   | (first | (go_at_call 27; exact (tableTells_any w').mono (fun e w'' ⟨he, hb⟩ => ⟨he, hw'.trans (hb.mono hw'.size)⟩)) | (go_at_call 26; exact (tSize_any x1 x2 z HZ.out (by omega) w').mono (fun e w'' ⟨he, hb⟩ => ⟨he, hw'.trans (hb.mono hw'.size)⟩)))
                   | (have FF := HFA.out w' hw'; go_simp; done)
                   | (have FF := HFA.out w' hw'; go_simp; exact rfl)
                 clear hK K))
          refine wpQuiet_nil ?_
          intro wq hwq
          go_wp2_with fail
          go_ret
          exact ⟨by simp, HBW.out.trans (hwq.mono HBW.out.size)⟩
end Go.Proofs.Ytolhlgalhhdkmaa
