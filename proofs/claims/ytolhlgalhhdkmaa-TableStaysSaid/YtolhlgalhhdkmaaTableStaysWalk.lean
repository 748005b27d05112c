/- The walk of the law TableStays. -/
import Derived.Test.YtolhlgalhhdkmaaTableOfWalk
import Derived.Test.YtolhlgalhhdkmaaTableTellsWalk
import Derived.Test.YtolhlgalhhdkmaaGetWalk
namespace Go.Proofs.Ytolhlgalhhdkmaa
open Go.ChangeShapes Go.WideShapes Go.ChangeAt Go.RowKit
set_option linter.unusedVariables false

theorem TabOk.at_ {r : Nat} {al R : List Fld} (h : TabOk r al R) (k : Nat) (h1 : al.length ≤ k + R.length) (h2 : k < al.length) : R.getD (k + R.length - al.length) fnil = al.getD k fnil := by
  obtain ⟨⟨j, hj, rfl, _⟩, _⟩ := h
  rw [List.length_drop] at *
  simp only [List.getD, List.getElem?_drop]
  rw [show j + (k + (al.length - j) - al.length) = k from by omega]

theorem tGet_tab (r : Nat) (A : Option Addr) (n c m : Nat) (al R : List Fld) (hn : R.length = n) (hnc : n ≤ c) (hcm : c ≤ 9223372036854775807) (hm : al.length = m) (hm1 : m ≤ 12) (h1 : r ≤ 160) (ht : TabOk r al R) (k : Nat) (hk : k ≤ m) (w : World) (hr : RdX fcells 2 w A R) :
    Calls Try.prog 25 #[.agg #[.int .i64 (r : Int), .int .i64 (m : Int), .slice A n c], .int .i64 (k : Int)] w fun e w' => ∃ (x y : ByteArray) (E : Int), e = .returned (.tuple #[.agg #[.string x, .string y], .int .i64 E]) ∧
      ((k = m ∧ E = 5) ∨ (k + n < m ∧ E = 16) ∨ (m ≤ k + n ∧ k < m ∧ E = 0 ∧ al.getD k fnil = (x, y))) ∧ Below w.heap.size w w' := by
  have hnm : n ≤ m := by rw [← hn, ← hm]; exact ht.len
  have hs : (tsz R : Int) ≤ (r : Int) := by have := ht.2.1; omega
  by_cases h3 : k = m
  · exact (tGet_none r m A n c R hn hnc hcm (by omega) (by omega) (by omega) (by omega) ht.mem hs k (by omega) (by omega) w hr).mono fun e w' ⟨he, hb⟩ => ⟨_, _, 5, he, .inl ⟨h3, rfl⟩, hb⟩
  · by_cases h4 : k + n < m
    · exact (tGet_old r m A n c R hn hnc hcm (by omega) (by omega) (by omega) (by omega) ht.mem hs k (by omega) (by omega) w hr).mono fun e w' ⟨he, hb⟩ => ⟨_, _, 16, he, .inr (.inl ⟨h4, rfl⟩), hb⟩
    · have hx := ht.at_ k (by omega) (by omega)
      rw [hn, hm] at hx
      obtain ⟨⟨x, y⟩, hxy⟩ : ∃ f, al.getD k fnil = f := ⟨_, rfl⟩
      rw [hxy] at hx ⊢
      exact (tGet_ok r m A n c R hn hnc hcm (by omega) (by omega) (by omega) (by omega) ht.mem hs (k + n - m) k (by omega) (by omega) x y hx w hr).mono fun e w' ⟨he, hb⟩ => ⟨x, y, 0, he, .inr (.inr ⟨by omega, by omega, rfl, rfl⟩), hb⟩

set_option maxRecDepth 100000 in
set_option maxHeartbeats 1000000 in
theorem tableStays_walk (room : Int) (a : Option Addr) (len cap : Nat) (rs : List RawD) (n_ : Int) (w : World) (hroom : (Lit.int .i64 room).wf = true) (h : IsRaws w a len cap rs) (hn_ : (Lit.int .i64 n_).wf = true) :
    Calls Try.prog 7 #[.int .i64 room, .slice a len cap, .int .i64 n_] w fun e w' => e = .returned (.bool true) ∧ Below w.heap.size w w' := by
  have rr := i64_bounds' hroom
  have rn := i64_bounds' hn_
  clear hroom hn_
  go_enter Try.func7, Try.ntmps7
  go_wp2_with fail
  refine (tableOf_any room a len cap rs w rr.1 rr.2 h).mono ?_
  rintro e w1 ⟨r, A, n, c, B, m, d, al, R, rfl, hb, hr40, hr160, hn, hnc, hcc, hm, hmd, hdd, hm12, htab, hrd, hal⟩
  have HN := Lib.hid hn
  have HM := Lib.hid hm
  have HT := Lib.hid htab
  have HRD := Lib.hid hrd
  have HAL := Lib.hid hal
  have hnm : n ≤ m := by rw [← hn, ← hm]; exact htab.len
  clear hn hm htab hrd hal h
  go_upto_region 2 with (fail)
  refine wp_world (fun w' => Blk w' w1.heap.size 55 #[.int .i64 (r : Int), .int .i64 (m : Int), .slice A n c] ∧ RdX fcells 2 w' A R ∧ RdX fcells 2 w' B al ∧ Below w.heap.size w w') ⟨Blk.new _ _ _, HRD.out.alloc _, HAL.out.alloc _, hb.alloc hb.size _⟩ ?_
  clear hb HRD HAL
  rintro w2 ⟨hT, hrd, hal, hb⟩
  have HRD := Lib.hid hrd
  have HAL := Lib.hid hal
  clear hrd hal
  have FT := hT.facts3
  go_wp2_with fail
  refine (picked_ex _ _ rn.1 rn.2 (by omega) (by omega) _).mono ?_
  rintro e w' ⟨k, k0, k1, rfl, rfl⟩
  obtain ⟨k, rfl⟩ := Int.eq_ofNat_of_zero_le k0
  go_wp2_with fail
  refine (tGet_tab r A n c m al R HN.out hnc hcc HM.out hm12 hr160 HT.out k (by omega) _ HRD.out).mono ?_
  rintro e w3 ⟨x, y, E, rfl, hE, hb3⟩
  have HE := Lib.hid hE
  clear hE
  go_upto_region 4 with (fail)
  refine wp_world (fun w' => Blk w' w1.heap.size 55 #[.int .i64 (r : Int), .int .i64 (m : Int), .slice A n c] ∧ Blk w' w3.heap.size 59 #[.string x, .string y] ∧ RdX fcells 2 w' A R ∧ RdX fcells 2 w' B al ∧ Below w.heap.size w w') ⟨(hT.carry hb3).alloc _, Blk.new _ _ _, (RdX.below HRD.out hb3).alloc _, (RdX.below HAL.out hb3).alloc _, (hb.trans (hb3.mono hb.size)).alloc (hb.trans (hb3.mono hb.size)).size _⟩ ?_
  clear FT hT hb HRD HAL hb3
  rintro w4 ⟨hT, hX, hrd, hal, hb⟩
  have HRD := Lib.hid hrd
  have HAL := Lib.hid hal
  have HTB := Lib.hid hT
  have HX := Lib.hid hX
  have HB := Lib.hid hb
  have FT := hT.facts3
  clear hrd hal hT hX hb
  go_wp2_with fail
  clear FT
  go_loopw [13, 37] (fun s i wr => ∃ j : Nat, j ≤ n ∧ i = .int .i64 j ∧ s = .int .i64 (tsz (R.take j) : Nat) ∧ Below w4.heap.size w4 wr) (fun _ i _ => n - (intOf i).toNat)
  case atStart => exact ⟨0, Nat.zero_le _, rfl, rfl, Below.refl _ _⟩
  case round =>
    obtain ⟨j, hj, rfl, rfl, hb⟩ := hrel
    by_cases hlt : j < n
    · have hlen := HN.out
      obtain ⟨b, off, hA, hcell⟩ := (RdX.below HRD.out hb).fcell (by omega)
      subst hA
      obtain ⟨c0, c1⟩ := hcell j (by omega)
      have hst := tsz_take R j (by omega)
      have hle := tsz_take_le R (j + 1)
      have hsr := HT.out.2.1
      obtain ⟨⟨x1, x2⟩, hx⟩ : ∃ f, R.getD j fnil = f := ⟨_, rfl⟩
      rw [hx] at c0 c1 hst
      obtain ⟨q, hq⟩ : ∃ q, fsz (x1, x2) = q := ⟨_, rfl⟩
      rw [hq] at hst
      have hq' : x1.size + x2.size + 32 = q := hq
      obtain ⟨s0, hs0⟩ : ∃ s0, tsz (R.take j) = s0 := ⟨_, rfl⟩
      obtain ⟨s1, hs1⟩ : ∃ s1, tsz (R.take (j + 1)) = s1 := ⟨_, rfl⟩
      rw [hs0] at hst ⊢
      rw [hs1] at hst hle
      have hs160 : s1 ≤ 160 := by omega
      have HQ := Lib.hid hq'
      have HS1 := Lib.hid hs1
      clear hlen hcell hx hq hq' hs0 hs1 hle hsr
      go_wp2_with fail
      refine (tSize_any x1 x2 q HQ.out (by omega) _).mono ?_
      rintro e w5 ⟨rfl, hb5⟩
      have hb6 := (hb.trans ((Below.refl _ _).alloc (Nat.le_refl _) _ |>.mono hb.size)).trans (hb5.mono (by simp; have := hb.size; omega))
      clear c0 c1 hb hb5
      go_wp2_with fail
      go_roundw
      case rel => exact ⟨j + 1, by omega, by go_num, by rw [HS1.out]; go_num, hb6⟩
      case measure => simp [intOf]; omega
    · obtain rfl : j = n := by omega
      rw [show R.take j = R from List.take_of_length_le (by rw [HN.out]; exact Nat.le_refl _)]
      have hsr := HT.out.2.1
      generalize tsz R = s at *
      have hT := HTB.out.carry hb
      have FT := hT.facts3
      clear hlt
      go_wp2_with fail
      refine (tableTells_any _).mono ?_
      rintro e w5 ⟨rfl, hb5⟩
      have hT5 := hT.carry hb5
      have hbz := hb.trans (hb5.mono hb.size)
      clear FT hT hb hb5
      have FT := hT5.facts3
      have HR5 := Lib.hid (RdX.below HRD.out hbz)
      have hsr' : (s : Int) ≤ (r : Int) := by omega
      have HSS : Hid ((tsz R : Int) ≤ (r : Int)) := by have := HT.out.2.1; show (tsz R : Int) ≤ _; omega
      clear hsr
      go_wp2_with fail
      refine (tCheck_ok r m A j c R HN.out hnc hcc (by omega) (by omega) (by omega) (by omega) HT.out.mem HSS.out _ HR5.out).mono ?_
      rintro e w6 ⟨rfl, hb6⟩
      have hT6 := hT5.carry hb6
      have hbz6 := hbz.trans (hb6.mono hbz.size)
      have HAL6 := Lib.hid (RdX.below HAL.out hbz6)
      have hX6 := HX.out.carry hbz6
      have HBF := Lib.hid (HB.out.trans (hbz6.mono HB.out.size))
      clear FT hT5 hbz hb6 HR5 HRD HAL HTB HX HB hbz6
      have FT := hT6.facts3
      have FX := hX6.two
      rcases HE.out with ⟨h1, h2⟩ | ⟨h1, h2⟩ | ⟨h1, h2, h3, h4⟩
      · subst h1 h2
        go_wp2_with fail
        go_ret
        exact ⟨rfl, HBF.out⟩
      · subst h2
        go_wp2_with fail
        go_ret
        exact ⟨rfl, HBF.out⟩
      · subst h3
        obtain ⟨b, off, hB, hcell⟩ := HAL6.out.fcell (by have := HM.out; omega)
        subst hB
        obtain ⟨c0, c1⟩ := hcell k (by have := HM.out; omega)
        rw [h4] at c0 c1
        have hk0 : (0 : Int) ≤ (k : Int) := by omega
        have hk1 : (k : Int) < (m : Int) := by omega
        clear hcell h4
        go_wp2_with fail
        go_quiet (fail)
        go_wp2_with fail
        go_ret
        have hf := HBF.out
        exact ⟨by simp, ⟨hf.os, hf.tape, hf.output, hf.size, hf.block⟩⟩
end Go.Proofs.Ytolhlgalhhdkmaa
