/- Texts of the proof, laid together: HeadDec2Walk HeadDec3Walk Gate10. -/
import Derived.Test.YtbcagdjfegobnaaGreatC34
/- The contract of head.Decode, heads that are not short. -/
namespace Go.Proofs.YtbcagdjfegobnaaGreat
open Go.ChangeShapes Go.WideShapes Go.ChangeAt Go.RowKit
set_option linter.unusedVariables false

def HLong (bs : List UInt8) (n k tt ff s : Nat) (r : Int × Int × Int) (w : World) (e : Ending) (w' : World) : Prop :=
  (r.2.2 ≠ 0 ∧ HBad w 4 e w') ∨ (r.2.2 = 0 ∧ 120 < r.1.toNat ∧ HBad w 1 e w') ∨ (r.2.2 = 0 ∧ ¬ 120 < r.1.toNat ∧ n < 3 + r.2.1.toNat + r.1.toNat ∧ HBad w 4 e w') ∨
  (r.2.2 = 0 ∧ ¬ 120 < r.1.toNat ∧ ¬ n < 3 + r.2.1.toNat + r.1.toNat ∧ HTail bs n k tt ff ((bs.drop (3 + r.2.1.toNat)).take r.1.toNat) (3 + r.2.1.toNat + r.1.toNat) s w e w')

set_option maxRecDepth 100000 in
set_option maxHeartbeats 4000000 in
theorem hDec_long0_few (A : Option Addr) (bs : List UInt8) (n c : Nat) (w : World) (hn : bs.length = n) (h : RdB w A bs) (hc : n ≤ c) (hm : c ≤ 9223372036854775807) (h1n : 1 ≤ n) (h2n : n < 3) (b s : Nat) (hb : (bs.getD 0 0).toNat = b) (h1 : b / 4 = 48) (hs : b % 4 + 1 = s) :
    Calls Tryz.prog 31 #[.slice A n c] w (HBad w 4) := by
  obtain ⟨B, off, rfl, hcell⟩ := h.cell (by omega)
  have hc0 := hcell 0 (by omega)
  rw [hb] at hc0
  have hb256 : b < 256 := by have := (bs.getD 0 0).toNat_lt; omega
  simp only [Nat.add_zero] at hc0
  obtain ⟨x, hx⟩ : ∃ x, bits .andNot .u8 (b : Int) 3 = x := ⟨_, rfl⟩
  have hxv := andNot3 b hb256
  rw [hx] at hxv
  have e0 : (x == 64) = false := by rw [hxv]; simp; try omega
  have e1 : (x == 192) = true := by rw [hxv]; simp; try omega
  obtain ⟨y, hy⟩ : ∃ y, bits .and .u8 (b : Int) 3 = y := ⟨_, rfl⟩
  have hyv := and3 b hb256
  rw [hy] at hyv
  have hy0 : 0 ≤ y := by omega
  have hy3 : y ≤ 3 := by omega
  have e2 : y + 1 = (s : Int) := by omega
  have hs4 : s ≤ 4 := by omega
  have hs1 : 1 ≤ s := by omega
  clear hxv hyv hs h1
  have hg := World.block_lt_of_cell? w _ hc0
  have HR := Lib.hid h
  have HN := Lib.hid hn
  clear hcell h hn hb
  go_enter Tryz.func31, Tryz.ntmps31
  go_upto_region 12 with (fail)
  refine wp_world (fun w' => Blk w' w.heap.size 61 #[.int .i64 0, .int .i64 0, .int .i64 0, .slice none 0 0, .int .i64 0, .int .i64 0] ∧ Blk w' (w.heap.size + 1) 61 #[.int .i64 0, .int .i64 0, .int .i64 0, .slice none 0 0, .int .i64 0, .int .i64 s] ∧ Below w.heap.size w w')
    ⟨(Blk.new _ _ _).alloc _, (Blk.new1 _ _ _ _).as (by rw [← e2]), ((Below.refl _ _).alloc (Nat.le_refl _) _).alloc (by simp) _⟩ ?_
  clear hc0 hx hy e0 e1 e2
  rintro w1 ⟨hB2, hB5, hb1⟩
  have hFH := hB5.facts6
  have hFC := hB2.facts6
  have hz1 := hb1.size
  go_wp2_with fail
  refine bodyPost_ret (v := .tuple #[.agg #[.int .i64 0, .int .i64 0, .int .i64 0, .slice none 0 0, .int .i64 0, .int .i64 0], .int .i64 0, .int .i64 4]) ?_ rfl ⟨rfl, ?_⟩
  · simp [results, Tryz.results31, go_sem, hFC] <;> rfl
  · (repeat (first | with_reducible exact hb1 | with_reducible refine Below.drew ?_ | (with_reducible refine Below.set4 ?_ ?side _ _ _ _; case side => (first | omega | (simp; omega) | (simp; done))) | (with_reducible refine Below.setCell ?_ ?side _; case side => (first | omega | (simp; omega) | (simp; done))) | (with_reducible refine Below.alloc ?_ ?side _; case side => (first | omega | (simp; omega) | (simp; done)))))

set_option maxRecDepth 100000 in
set_option maxHeartbeats 4000000 in
theorem hDec_long1_few (A : Option Addr) (bs : List UInt8) (n c : Nat) (w : World) (hn : bs.length = n) (h : RdB w A bs) (hc : n ≤ c) (hm : c ≤ 9223372036854775807) (h1n : 1 ≤ n) (h2n : n < 3) (b s : Nat) (hb : (bs.getD 0 0).toNat = b) (h1 : b = 240) (hs : s = 0) :
    Calls Tryz.prog 31 #[.slice A n c] w (HBad w 4) := by
  obtain ⟨B, off, rfl, hcell⟩ := h.cell (by omega)
  have hc0 := hcell 0 (by omega)
  rw [hb] at hc0
  have hb256 : b < 256 := by have := (bs.getD 0 0).toNat_lt; omega
  simp only [Nat.add_zero] at hc0
  have HS0 := Lib.hid hs
  have hs4 : s ≤ 4 := by omega
  clear hs
  have e2 : ((240 : Nat) : Int) = 240 := rfl
  subst h1
  rw [e2] at hc0
  have e3 : bits .andNot .u8 240 3 = 240 := by kernel_rfl
  have hg := World.block_lt_of_cell? w _ hc0
  have HR := Lib.hid h
  have HN := Lib.hid hn
  clear hcell h hn hb
  go_enter Tryz.func31, Tryz.ntmps31
  go_upto_region 12 with (fail)
  refine wp_world (fun w' => Blk w' w.heap.size 61 #[.int .i64 0, .int .i64 0, .int .i64 0, .slice none 0 0, .int .i64 0, .int .i64 0] ∧ Blk w' (w.heap.size + 1) 61 #[.int .i64 1, .int .i64 0, .int .i64 0, .slice none 0 0, .int .i64 0, .int .i64 s] ∧ Below w.heap.size w w')
    ⟨(Blk.new _ _ _).alloc _, (Blk.new1 _ _ _ _).as (by rw [HS0.out]; rfl), ((Below.refl _ _).alloc (Nat.le_refl _) _).alloc (by simp) _⟩ ?_
  clear hc0 e2 e3
  rintro w1 ⟨hB2, hB5, hb1⟩
  have hFH := hB5.facts6
  have hFC := hB2.facts6
  have hz1 := hb1.size
  go_wp2_with fail
  refine bodyPost_ret (v := .tuple #[.agg #[.int .i64 0, .int .i64 0, .int .i64 0, .slice none 0 0, .int .i64 0, .int .i64 0], .int .i64 0, .int .i64 4]) ?_ rfl ⟨rfl, ?_⟩
  · simp [results, Tryz.results31, go_sem, hFC] <;> rfl
  · (repeat (first | with_reducible exact hb1 | with_reducible refine Below.drew ?_ | (with_reducible refine Below.set4 ?_ ?side _ _ _ _; case side => (first | omega | (simp; omega) | (simp; done))) | (with_reducible refine Below.setCell ?_ ?side _; case side => (first | omega | (simp; omega) | (simp; done))) | (with_reducible refine Below.alloc ?_ ?side _; case side => (first | omega | (simp; omega) | (simp; done)))))

set_option maxRecDepth 100000 in
set_option maxHeartbeats 4000000 in
theorem hDec_long0_three (A : Option Addr) (bs : List UInt8) (n c : Nat) (w : World) (hn : bs.length = n) (h : RdB w A bs) (hc : n ≤ c) (hm : c ≤ 9223372036854775807) (h3n : n = 3) (h3c : c = 3) (b s : Nat) (hb : (bs.getD 0 0).toNat = b) (h1 : b / 4 = 48) (hs : b % 4 + 1 = s) :
    Calls Tryz.prog 31 #[.slice A n c] w (HBad w 4) := by
  obtain ⟨B, off, rfl, hcell⟩ := h.cell (by omega)
  have hc0 := hcell 0 (by omega)
  have hc1 := hcell 1 (by omega)
  have hc2 := hcell 2 (by omega)
  obtain ⟨tt, htt⟩ : ∃ tt, (bs.getD 1 0).toNat = tt := ⟨_, rfl⟩
  have ht256 : tt < 256 := by have := (bs.getD 1 0).toNat_lt; omega
  obtain ⟨ff, hff⟩ : ∃ ff, (bs.getD 2 0).toNat = ff := ⟨_, rfl⟩
  have hf256 : ff < 256 := by have := (bs.getD 2 0).toNat_lt; omega
  rw [htt] at hc1
  rw [hff] at hc2
  rw [hb] at hc0
  have hb256 : b < 256 := by have := (bs.getD 0 0).toNat_lt; omega
  simp only [Nat.add_zero] at hc0
  obtain ⟨x, hx⟩ : ∃ x, bits .andNot .u8 (b : Int) 3 = x := ⟨_, rfl⟩
  have hxv := andNot3 b hb256
  rw [hx] at hxv
  have e0 : (x == 64) = false := by rw [hxv]; simp; try omega
  have e1 : (x == 192) = true := by rw [hxv]; simp; try omega
  obtain ⟨y, hy⟩ : ∃ y, bits .and .u8 (b : Int) 3 = y := ⟨_, rfl⟩
  have hyv := and3 b hb256
  rw [hy] at hyv
  have hy0 : 0 ≤ y := by omega
  have hy3 : y ≤ 3 := by omega
  have e2 : y + 1 = (s : Int) := by omega
  have hs4 : s ≤ 4 := by omega
  have hs1 : 1 ≤ s := by omega
  clear hxv hyv hs h1
  have hg := World.block_lt_of_cell? w _ hc0
  have HR := Lib.hid h
  have HN := Lib.hid hn
  clear hcell h hn hb
  go_enter Tryz.func31, Tryz.ntmps31
  go_upto_region 12 with (fail)
  refine wp_world (fun w' => Blk w' w.heap.size 61 #[.int .i64 0, .int .i64 0, .int .i64 0, .slice none 0 0, .int .i64 0, .int .i64 0] ∧ Blk w' (w.heap.size + 1) 61 #[.int .i64 0, .int .i64 0, .int .i64 0, .slice none 0 0, .int .i64 0, .int .i64 s] ∧ w'.cell? ⟨B, off + 1, none⟩ = some (.int .u8 tt) ∧ w'.cell? ⟨B, off + 2, none⟩ = some (.int .u8 ff) ∧ Below w.heap.size w w')
    ⟨(Blk.new _ _ _).alloc _, (Blk.new1 _ _ _ _).as (by rw [← e2]), by go_simp, by go_simp, ((Below.refl _ _).alloc (Nat.le_refl _) _).alloc (by simp) _⟩ ?_
  clear hc0 hx hy e0 e1 e2 hc1 hc2
  rintro w1 ⟨hB2, hB5, hc1, hc2, hb1⟩
  have hFH := hB5.facts6
  have hFC := hB2.facts6
  have hz1 := hb1.size
  subst h3n
  subst h3c
  go_wp2_with fail
  refine (dec_nil _ _ _).mono ?_
  rintro e w2 ⟨rfl, rfl⟩
  have hB2' : Blk ((w1.setCell ⟨w.heap.size + 1, 1, none⟩ (.int .i64 tt)).setCell ⟨w.heap.size + 1, 2, none⟩ (.int .i64 ff)) w.heap.size 61 #[.int .i64 0, .int .i64 0, .int .i64 0, .slice none 0 0, .int .i64 0, .int .i64 0] := by (apply Blk.as; (case h => (repeat (first | with_reducible exact hB2 | with_reducible apply Blk.drew | with_reducible apply Blk.set4 | with_reducible apply Blk.set_ | (with_reducible apply Blk.far4 (hne := ?side); case side => (first | omega | (simp; omega) | (simp; done))) | (with_reducible apply Blk.far (hp := ?side); case side => (first | omega | (simp; omega) | (simp; done))) | with_reducible apply Blk.alloc))); (case e => (first | with_reducible rfl | (simp; done) | rfl)))
  have hFC2 := hB2'.facts6
  go_wp2_with fail
  refine bodyPost_ret (v := .tuple #[.agg #[.int .i64 0, .int .i64 0, .int .i64 0, .slice none 0 0, .int .i64 0, .int .i64 0], .int .i64 0, .int .i64 4]) ?_ rfl ⟨rfl, ?_⟩
  · simp [results, Tryz.results31, go_sem, hFC2] <;> rfl
  · (repeat (first | with_reducible exact hb1 | with_reducible refine Below.drew ?_ | (with_reducible refine Below.set4 ?_ ?side _ _ _ _; case side => (first | omega | (simp; omega) | (simp; done))) | (with_reducible refine Below.setCell ?_ ?side _; case side => (first | omega | (simp; omega) | (simp; done))) | (with_reducible refine Below.alloc ?_ ?side _; case side => (first | omega | (simp; omega) | (simp; done)))))

set_option maxRecDepth 100000 in
set_option maxHeartbeats 4000000 in
theorem hDec_long0 (A : Option Addr) (bs : List UInt8) (n c : Nat) (w : World) (hn : bs.length = n) (h : RdB w A bs) (hc : n ≤ c) (hm : c ≤ 9223372036854775807) (h3n : 3 ≤ n) (h3c : ¬ c = 3) (r : Int × Int × Int) (hr : decR (bs.drop 3) = r) (b s : Nat) (hb : (bs.getD 0 0).toNat = b) (h1 : b / 4 = 48) (hs : b % 4 + 1 = s) :
    Calls Tryz.prog 31 #[.slice A n c] w (HLong bs n 0 (bs.getD 1 0).toNat (bs.getD 2 0).toNat s r w) := by
  obtain ⟨B, off, rfl, hcell⟩ := h.cell (by omega)
  have hcs := decR_cases (bs.drop 3)
  rw [hr] at hcs
  have hc0 := hcell 0 (by omega)
  have hc1 := hcell 1 (by omega)
  have hc2 := hcell 2 (by omega)
  obtain ⟨tt, htt⟩ : ∃ tt, (bs.getD 1 0).toNat = tt := ⟨_, rfl⟩
  have ht256 : tt < 256 := by have := (bs.getD 1 0).toNat_lt; omega
  obtain ⟨ff, hff⟩ : ∃ ff, (bs.getD 2 0).toNat = ff := ⟨_, rfl⟩
  have hf256 : ff < 256 := by have := (bs.getD 2 0).toNat_lt; omega
  rw [htt] at hc1
  rw [hff] at hc2
  rw [htt, hff]
  rw [hb] at hc0
  have hb256 : b < 256 := by have := (bs.getD 0 0).toNat_lt; omega
  simp only [Nat.add_zero] at hc0
  obtain ⟨x, hx⟩ : ∃ x, bits .andNot .u8 (b : Int) 3 = x := ⟨_, rfl⟩
  have hxv := andNot3 b hb256
  rw [hx] at hxv
  have e0 : (x == 64) = false := by rw [hxv]; simp; try omega
  have e1 : (x == 192) = true := by rw [hxv]; simp; try omega
  obtain ⟨y, hy⟩ : ∃ y, bits .and .u8 (b : Int) 3 = y := ⟨_, rfl⟩
  have hyv := and3 b hb256
  rw [hy] at hyv
  have hy0 : 0 ≤ y := by omega
  have hy3 : y ≤ 3 := by omega
  have e2 : y + 1 = (s : Int) := by omega
  have hs4 : s ≤ 4 := by omega
  have hs1 : 1 ≤ s := by omega
  clear hxv hyv hs h1
  have hg := World.block_lt_of_cell? w _ hc0
  have HR := Lib.hid h
  have HN := Lib.hid hn
  clear hcell h hn hb
  go_enter Tryz.func31, Tryz.ntmps31
  go_upto_region 12 with (fail)
  refine wp_world (fun w' => Blk w' w.heap.size 61 #[.int .i64 0, .int .i64 0, .int .i64 0, .slice none 0 0, .int .i64 0, .int .i64 0] ∧ Blk w' (w.heap.size + 1) 61 #[.int .i64 0, .int .i64 0, .int .i64 0, .slice none 0 0, .int .i64 0, .int .i64 s] ∧ w'.cell? ⟨B, off + 1, none⟩ = some (.int .u8 tt) ∧ w'.cell? ⟨B, off + 2, none⟩ = some (.int .u8 ff) ∧ Below w.heap.size w w')
    ⟨(Blk.new _ _ _).alloc _, (Blk.new1 _ _ _ _).as (by rw [← e2]), by go_simp, by go_simp, ((Below.refl _ _).alloc (Nat.le_refl _) _).alloc (by simp) _⟩ ?_
  clear hc0 hx hy e0 e1 e2 hc1 hc2
  rintro w1 ⟨hB2, hB5, hc1, hc2, hb1⟩
  have hFH := hB5.facts6
  have hFC := hB2.facts6
  have hz1 := hb1.size
  have hdl : (bs.drop 3).length = n - 3 := by rw [List.length_drop, HN.out]
  have hrd3 : ∀ (w' : World), Below w.heap.size w w' → RdB w' (some ⟨B, off + 3, none⟩) (bs.drop 3) := fun w' hw' => by
    have := (HR.out.below hw').cut (k := 3) (cap := c) (by rw [HN.out]; exact h3n) (by rw [HN.out]; exact hc)
    rw [if_neg h3c] at this
    simpa [add_none] using this
  have HRD3 := Lib.hid hrd3
  have HCS := Lib.hid hcs
  have HRR := Lib.hid hr
  have HDL := Lib.hid hdl
  clear hrd3 hcs hr hdl
  have hBs : ∀ u v, Blk ((w1.setCell ⟨w.heap.size + 1, 1, none⟩ u).setCell ⟨w.heap.size + 1, 2, none⟩ v) w.heap.size 61 #[.int .i64 0, .int .i64 0, .int .i64 0, .slice none 0 0, .int .i64 0, .int .i64 0] := fun u v => by (apply Blk.as; (case h => (repeat (first | with_reducible exact hB2 | with_reducible apply Blk.drew | with_reducible apply Blk.set4 | with_reducible apply Blk.set_ | (with_reducible apply Blk.far4 (hne := ?side); case side => (first | omega | (simp; omega) | (simp; done))) | (with_reducible apply Blk.far (hp := ?side); case side => (first | omega | (simp; omega) | (simp; done))) | with_reducible apply Blk.alloc))); (case e => (first | with_reducible rfl | (simp; done) | rfl)))
  have hFC2 := fun u v => (hBs u v).facts6
  clear hBs
  have HFC2 := Lib.hid hFC2
  clear hFC2
  go_wp2_with fail
  refine (decode_n (some ⟨B, off + 3, none⟩) (bs.drop 3) (n - 3) _ _ HDL.out (HRD3.out _ (by (repeat (first | with_reducible exact hb1 | with_reducible refine Below.drew ?_ | (with_reducible refine Below.set4 ?_ ?side _ _ _ _; case side => (first | omega | (simp; omega) | (simp; done))) | (with_reducible refine Below.setCell ?_ ?side _; case side => (first | omega | (simp; omega) | (simp; done))) | (with_reducible refine Below.alloc ?_ ?side _; case side => (first | omega | (simp; omega) | (simp; done))))))) (by omega) (by omega) r HRR.out).mono ?_
  rintro e w' ⟨rfl, rfl⟩
  rcases HCS.out with ⟨hrv, _⟩ | ⟨m, K, hrv, hK1, hmd, hK2, hK3, hm9⟩
  · subst hrv
    have hFC2 := HFC2.out (.int .i64 tt) (.int .i64 ff)
    go_wp2_with fail
    refine bodyPost_ret (v := .tuple #[.agg #[.int .i64 0, .int .i64 0, .int .i64 0, .slice none 0 0, .int .i64 0, .int .i64 0], .int .i64 0, .int .i64 4]) ?_ rfl (show HLong _ _ _ _ _ _ _ _ _ _ from Or.inl ⟨by simp, rfl, ?_⟩)
    · simp [results, Tryz.results31, go_sem, hFC2] <;> rfl
    · (repeat (first | with_reducible exact hb1 | with_reducible refine Below.drew ?_ | (with_reducible refine Below.set4 ?_ ?side _ _ _ _; case side => (first | omega | (simp; omega) | (simp; done))) | (with_reducible refine Below.setCell ?_ ?side _; case side => (first | omega | (simp; omega) | (simp; done))) | (with_reducible refine Below.alloc ?_ ?side _; case side => (first | omega | (simp; omega) | (simp; done)))))
  · have hms := (dec_size _ m K hK1 hm9).1
    have hK8 : K ≤ 8 := by have := decLen_cases (bs.drop 3); omega
    rw [HDL.out] at hK2
    subst hrv
    clear hm9 HCS hK1 hmd
    by_cases hm120 : 120 < m
    · have hmi : (120 : Int) < (m : Int) := by omega
      have hFC2 := HFC2.out (.int .i64 tt) (.int .i64 ff)
      go_wp2_with fail
      refine bodyPost_ret (v := .tuple #[.agg #[.int .i64 0, .int .i64 0, .int .i64 0, .slice none 0 0, .int .i64 0, .int .i64 0], .int .i64 0, .int .i64 1]) ?_ rfl (show HLong _ _ _ _ _ _ _ _ _ _ from Or.inr (Or.inl ⟨by simp, by simpa using hm120, rfl, ?_⟩))
      · simp [results, Tryz.results31, go_sem, hFC2] <;> rfl
      · (repeat (first | with_reducible exact hb1 | with_reducible refine Below.drew ?_ | (with_reducible refine Below.set4 ?_ ?side _ _ _ _; case side => (first | omega | (simp; omega) | (simp; done))) | (with_reducible refine Below.setCell ?_ ?side _; case side => (first | omega | (simp; omega) | (simp; done))) | (with_reducible refine Below.alloc ?_ ?side _; case side => (first | omega | (simp; omega) | (simp; done)))))
    · have hmi : (m : Int) ≤ 120 := by omega
      obtain ⟨u, hu⟩ : ∃ u, 3 + K = u := ⟨_, rfl⟩
      obtain ⟨v, hv⟩ : ∃ v, u + m = v := ⟨_, rfl⟩
      have hui : (3 : Int) + (K : Int) = (u : Int) := by omega
      have hvi : (u : Int) + (m : Int) = (v : Int) := by omega
      have hu11 : u ≤ 11 := by omega
      by_cases hnv : n < v
      · have hFC2 := HFC2.out (.int .i64 tt) (.int .i64 ff)
        have hnvi : (n : Int) < (v : Int) := by omega
        go_wp2_with fail
        refine bodyPost_ret (v := .tuple #[.agg #[.int .i64 0, .int .i64 0, .int .i64 0, .slice none 0 0, .int .i64 0, .int .i64 0], .int .i64 0, .int .i64 4]) ?_ rfl (show HLong _ _ _ _ _ _ _ _ _ _ from Or.inr (Or.inr (Or.inl ⟨by simp, by simpa using hm120, by simp; omega, rfl, ?_⟩)))
        · simp [results, Tryz.results31, go_sem, hFC2] <;> rfl
        · (repeat (first | with_reducible exact hb1 | with_reducible refine Below.drew ?_ | (with_reducible refine Below.set4 ?_ ?side _ _ _ _; case side => (first | omega | (simp; omega) | (simp; done))) | (with_reducible refine Below.setCell ?_ ?side _; case side => (first | omega | (simp; omega) | (simp; done))) | (with_reducible refine Below.alloc ?_ ?side _; case side => (first | omega | (simp; omega) | (simp; done)))))
      · have hnvi : ¬ (n : Int) < (v : Int) := by omega
        go_upto_region 28 with (fail)
        refine wp_world (fun w' => Blk w' w.heap.size 61 #[.int .i64 0, .int .i64 0, .int .i64 0, .slice none 0 0, .int .i64 0, .int .i64 0] ∧ Blk w' (w.heap.size + 1) 61 #[.int .i64 0, .int .i64 tt, .int .i64 ff, .slice none 0 0, .int .i64 0, .int .i64 s] ∧ Below w.heap.size w w')
          ⟨by (apply Blk.as; (case h => (repeat (first | with_reducible exact hB2 | with_reducible apply Blk.drew | with_reducible apply Blk.set4 | with_reducible apply Blk.set_ | (with_reducible apply Blk.far4 (hne := ?side); case side => (first | omega | (simp; omega) | (simp; done))) | (with_reducible apply Blk.far (hp := ?side); case side => (first | omega | (simp; omega) | (simp; done))) | with_reducible apply Blk.alloc))); (case e => (first | with_reducible rfl | (simp; done) | rfl))), by (apply Blk.as; (case h => (repeat (first | with_reducible exact hB5 | with_reducible apply Blk.drew | with_reducible apply Blk.set4 | with_reducible apply Blk.set_ | (with_reducible apply Blk.far4 (hne := ?side); case side => (first | omega | (simp; omega) | (simp; done))) | (with_reducible apply Blk.far (hp := ?side); case side => (first | omega | (simp; omega) | (simp; done))) | with_reducible apply Blk.alloc))); (case e => (first | with_reducible rfl | (simp; done) | rfl))), by (repeat (first | with_reducible exact hb1 | with_reducible refine Below.drew ?_ | (with_reducible refine Below.set4 ?_ ?side _ _ _ _; case side => (first | omega | (simp; omega) | (simp; done))) | (with_reducible refine Below.setCell ?_ ?side _; case side => (first | omega | (simp; omega) | (simp; done))) | (with_reducible refine Below.alloc ?_ ?side _; case side => (first | omega | (simp; omega) | (simp; done)))))⟩ ?_
        clear hFH hFC hB2 hB5 hb1 hc1 hc2 HFC2 HRD3 hz1
        rintro w3 ⟨hB2, hB5, hbz⟩
        have hg3 := hB5.lt
        have hvu : v - u = m := by omega
        have hcu : (v : Int) ≤ (c : Int) := by omega
        have huv : (u : Int) ≤ (v : Int) := by omega
        have hbz4 : ∀ o, Below w.heap.size w (w3.alloc o) := fun o => hbz.alloc hbz.size _
        have hml : ((bs.drop u).take m).length = m := by rw [List.length_take, List.length_drop, HN.out]; omega
        have HML := Lib.hid hml
        have HB2 := Lib.hid hB2
        have HB5 := Lib.hid hB5
        have HBZ := Lib.hid hbz
        have HBZ4 := Lib.hid hbz4
        clear hB2 hB5 hbz hbz4 hml
        obtain ⟨tok, htok⟩ : ∃ tok, (bs.drop u).take m = tok := ⟨_, rfl⟩
        have HTOK := Lib.hid htok
        clear htok
        go_upto_region 30 with (at_builtin; refine wpList_appB _ rfl (.tmp 90) (.tmp 96) _ rfl (w.heap.size + 2) 5 Tryz.underlying30 u8_info (some ⟨w3.heap.size, 0, none⟩) 0 0 [] rfl rfl (OwnB.made w3 _ _ hg3) _ m _ ((bs.drop u).take m) rfl HML.out (RdB.mid (HR.out.below (HBZ4.out _)) u m c (by rw [HN.out]; omega) (by rw [HN.out]; exact hc)) tok HTOK.out m (by omega) (by omega) (by simp; omega) ?_; intro T d w5 hO5 hd5 hm5 hb5; have hFH5 := ((HB5.out.alloc (.cells #[] 5)).below hb5 (by omega)).facts6)
        generalize (if c = u then (some (⟨B, off, none⟩ : Addr)) else some ⟨B, off + u, none⟩) = dead
        all_goals
          refine wp_world (fun w' => Blk w' w.heap.size 61 #[.int .i64 0, .int .i64 0, .int .i64 0, .slice none 0 0, .int .i64 0, .int .i64 0] ∧ Blk w' (w.heap.size + 1) 61 #[.int .i64 0, .int .i64 tt, .int .i64 ff, .slice T m d, .int .i64 0, .int .i64 s] ∧ w'.ownsRow (w.heap.size + 2) 5 1 (.slice T m d) m (u8s tok) ∧ Below w.heap.size w w')
            ⟨by (apply Blk.as; (case h => (repeat (first | with_reducible exact (HB2.out.alloc (.cells #[] 5)).below hb5 (by omega) | with_reducible apply Blk.drew | with_reducible apply Blk.set4 | with_reducible apply Blk.set_ | (with_reducible apply Blk.far4 (hne := ?side); case side => (first | omega | (simp; omega) | (simp; done))) | (with_reducible apply Blk.far (hp := ?side); case side => (first | omega | (simp; omega) | (simp; done))) | with_reducible apply Blk.alloc))); (case e => (first | with_reducible rfl | (simp; done) | rfl))), by (apply Blk.as; (case h => (repeat (first | with_reducible exact (HB5.out.alloc (.cells #[] 5)).below hb5 (by omega) | with_reducible apply Blk.drew | with_reducible apply Blk.set4 | with_reducible apply Blk.set_ | (with_reducible apply Blk.far4 (hne := ?side); case side => (first | omega | (simp; omega) | (simp; done))) | (with_reducible apply Blk.far (hp := ?side); case side => (first | omega | (simp; omega) | (simp; done))) | with_reducible apply Blk.alloc))); (case e => (first | with_reducible rfl | (simp; done) | rfl))), ?own9, by (repeat (first | with_reducible exact (HBZ4.out (.cells #[] 5)).trans (hb5.mono (by omega)) | with_reducible refine Below.drew ?_ | (with_reducible refine Below.set4 ?_ ?side _ _ _ _; case side => (first | omega | (simp; omega) | (simp; done))) | (with_reducible refine Below.setCell ?_ ?side _; case side => (first | omega | (simp; omega) | (simp; done))) | (with_reducible refine Below.alloc ?_ ?side _; case side => (first | omega | (simp; omega) | (simp; done)))))⟩ ?_
          case own9 =>
            have h9 : w5.ownsRow (w.heap.size + 2) 5 1 (.slice T m d) m (u8s tok) := by
              have h8 := hO5
              unfold OwnB at h8
              rw [← HTOK.out, HML.out] at h8
              rw [← HTOK.out]; exact h8
            (repeat (first | with_reducible exact h9 | with_reducible refine World.ownsRow.drew ?_ | (with_reducible refine ownsRow_setCell_below ?_ ?side _; case side => (first | omega | (simp; omega) | (simp; done))) | with_reducible refine World.ownsRow.alloc ?_ _))
          clear hFH5 hO5 hb5 HB2 HB5 HBZ HBZ4
          rintro w2 ⟨hB2, hB5, hT9, hbz⟩
          have HTL : Hid (tok.length = m) := by show _ = _; rw [← HTOK.out]; exact HML.out
          have HFN : Hid (∀ e w', HTail bs n 0 tt ff tok v s w e w' → HLong bs n 0 tt ff s ((m : Int), (K : Int), 0) w e w') := fun e w' h => by
            refine Or.inr (Or.inr (Or.inr ⟨rfl, by simpa using hm120, by simp; omega, ?_⟩))
            simp only [Int.toNat_natCast]
            rw [hu, hv, HTOK.out]
            exact h
          have HT := Lib.hid hT9
          have HG2 : Hid (w.heap.size + 2 ≤ w2.heap.size) := hB5.lt
          have HB2 := Lib.hid hB2
          have HB5 := Lib.hid hB5
          have HBZ := Lib.hid hbz
          clear hB2 hB5 hbz hT9 hg3
          have hFC := HB2.out.facts6
          have hFH := HB5.out.facts6
          have hu0 : v + s ≤ 9223372036854775807 := by omega
          by_cases hsh : n < v + s
          · have hti := decide_eq_true (show (n : Int) < ((v : Nat) : Int) + (s : Int) by omega)
            have hbd : ((v : Nat) : Int) + (s : Int) ≤ 9223372036854775807 := by omega
            go_wp2_with fail
            refine bodyPost_ret (v := .tuple #[.agg #[.int .i64 0, .int .i64 0, .int .i64 0, .slice none 0 0, .int .i64 0, .int .i64 0], .int .i64 0, .int .i64 4]) ?_ rfl ?_
            · simp [results, Tryz.results31, go_sem, hFC] <;> rfl
            · refine HFN.out _ _ (Or.inl ⟨hsh, rfl, ?_⟩)
              (repeat (first | with_reducible exact HBZ.out | with_reducible refine Below.drew ?_ | (with_reducible refine Below.set4 ?_ ?side _ _ _ _; case side => (first | omega | (simp; omega) | (simp; done))) | (with_reducible refine Below.setCell ?_ ?side _; case side => (first | omega | (simp; omega) | (simp; done))) | (with_reducible refine Below.alloc ?_ ?side _; case side => (first | omega | (simp; omega) | (simp; done)))))
          · have hcv : ¬ c = v := by omega
            obtain ⟨ms, hms⟩ : ∃ ms, (bs.drop v).take s = ms := ⟨_, rfl⟩
            have hmsl : ms.length = s := by rw [← hms, List.length_take, List.length_drop, HN.out]; omega
            have hcell : ∀ (w' : World), Below w.heap.size w w' → ∀ k, k < s → w'.cell? ⟨B, off + v + k, none⟩ = some (.int .u8 ((ms.getD k 0).toNat : Int)) := by
              intro w' hw' k hk
              obtain ⟨B', off', hA', hc'⟩ := (HR.out.below hw').cell (by have := HN.out; omega)
              injection hA' with hA'
              injection hA' with h1 h2
              subst h1 h2
              have := hc' (v + k) (by have := HN.out; omega)
              rw [← Nat.add_assoc] at this
              rw [this, ← hms]
              simp [List.getD, hk, List.getElem?_drop]
            have HMS := Lib.hid hms
            have HML := Lib.hid hmsl
            have HCELL := Lib.hid hcell
            have hz2 : w.heap.size ≤ w2.heap.size := HBZ.out.size
            have hnu : v + s - v = s := by omega
            have hti := decide_eq_false (show ¬ (n : Int) < ((v : Nat) : Int) + (s : Int) by omega)
            have hbd : ((v : Nat) : Int) + (s : Int) ≤ 9223372036854775807 := by omega
            have hcu : ((v + s : Nat) : Int) ≤ (c : Int) := by omega
            clear hms hmsl hcell
            have HFC := Lib.hid hFC
            clear hFC
            have hcu1 : (if c = v then (some (⟨B, off, none⟩ : Addr)) else some ⟨B, off + v, none⟩) = (if c = v then some ⟨B, off, none⟩ else some ⟨B, off + v, none⟩) := rfl
            go_wp2_with fail
            clear hFH
            go_loopw [118] (fun i wr => ∃ k : Nat, k ≤ s ∧ i = .int .i64 k ∧ Blk wr (w.heap.size + 1) 61 #[.int .i64 0, .int .i64 tt, .int .i64 ff, .slice T m d, .int .i64 (valB (ms.take k) 0 : Nat), .int .i64 s] ∧ Blk wr w.heap.size 61 #[.int .i64 0, .int .i64 0, .int .i64 0, .slice none 0 0, .int .i64 0, .int .i64 0] ∧ Below w.heap.size w wr ∧ wr.ownsRow (w.heap.size + 2) 5 1 (.slice T m d) m (u8s tok) ∧ w.heap.size + 2 ≤ wr.heap.size) (fun i _ => s - (intOf i).toNat)
            case atStart => exact ⟨0, Nat.zero_le _, rfl, HB5.out, HB2.out, HBZ.out, HT.out, HG2.out⟩
            case round =>
              obtain ⟨k, hk, rfl, hB5, hB2, hbz, hT, hg2⟩ := hrel
              have HTT := Lib.hid hT
              clear hT
              have HB5 := Lib.hid hB5
              have HB2 := Lib.hid hB2
              have hFH := hB5.facts6
              clear hB5 hB2
              by_cases hlt : k < s
              · have hck := HCELL.out wr hbz k hlt
                have hv : Hid (valB (ms.take (k + 1)) 0 = valB (ms.take k) 0 * 256 + (ms.getD k 0).toNat) := by
                  show _ = _
                  rw [List.take_succ_eq_append_getElem (by rw [HML.out]; exact hlt), valB_snoc]; simp [List.getD, HML.out, hlt]
                have hvl : valB (ms.take k) 0 < 18014398509481984 := by
                  have h1 := valB_bound (ms.take k)
                  have h2 : 256 ^ (ms.take k).length ≤ 256 ^ 4 := Nat.pow_le_pow_right (by decide) (by rw [List.length_take]; omega)
                  omega
                have hv0 : valB (ms.take k) 0 * 256 < 4611686018427387904 := by omega
                generalize hbk : ms.getD k 0 = bk at *
                generalize hvk : valB (ms.take k) 0 = vk at *
                obtain ⟨vn, hvn⟩ : ∃ vn, valB (ms.take (k + 1)) 0 = vn := ⟨_, rfl⟩
                have h9 : (bk.toNat : Int) < 256 := by have := bk.toNat_lt; omega
                have hor := or_byte vk bk.toNat hvl (by omega)
                have hvn' : Hid (vk * 256 + bk.toNat = vn) := by show _ = _; rw [← hvn]; exact hv.out.symm
                have HVN := Lib.hid hvn
                rw [hvn'.out] at hor
                clear hbk hvk hvn hv
                go_wp2_with fail
                go_roundw
                case rel => exact ⟨k + 1, by omega, by go_num, by rw [HVN.out]; (apply Blk.as; (case h => (repeat (first | with_reducible exact HB5.out | with_reducible apply Blk.drew | with_reducible apply Blk.set4 | with_reducible apply Blk.set_ | (with_reducible apply Blk.far4 (hne := ?side); case side => (first | omega | (simp; omega) | (simp; done))) | (with_reducible apply Blk.far (hp := ?side); case side => (first | omega | (simp; omega) | (simp; done))) | with_reducible apply Blk.alloc))); (case e => (first | with_reducible rfl | (simp; done) | rfl))), by (apply Blk.as; (case h => (repeat (first | with_reducible exact HB2.out | with_reducible apply Blk.drew | with_reducible apply Blk.set4 | with_reducible apply Blk.set_ | (with_reducible apply Blk.far4 (hne := ?side); case side => (first | omega | (simp; omega) | (simp; done))) | (with_reducible apply Blk.far (hp := ?side); case side => (first | omega | (simp; omega) | (simp; done))) | with_reducible apply Blk.alloc))); (case e => (first | with_reducible rfl | (simp; done) | rfl))), by (repeat (first | with_reducible exact hbz | with_reducible refine Below.drew ?_ | (with_reducible refine Below.set4 ?_ ?side _ _ _ _; case side => (first | omega | (simp; omega) | (simp; done))) | (with_reducible refine Below.setCell ?_ ?side _; case side => (first | omega | (simp; omega) | (simp; done))) | (with_reducible refine Below.alloc ?_ ?side _; case side => (first | omega | (simp; omega) | (simp; done))))), by (repeat (first | with_reducible exact HTT.out | with_reducible refine World.ownsRow.drew ?_ | (with_reducible refine ownsRow_setCell_below ?_ ?side _; case side => (first | omega | (simp; omega) | (simp; done))) | with_reducible refine World.ownsRow.alloc ?_ _)), by simp; omega⟩
                case measure => simp [intOf]; omega
              · obtain rfl : k = s := by omega
                have hfin : valB (ms.take k) 0 = valB ((bs.drop v).take k) 0 := by rw [HMS.out, List.take_of_length_le (by rw [HML.out]; exact Nat.le_refl _)]
                have HFIN := Lib.hid hfin
                have hFC := HB2.out.facts6
                have hvk : valB (ms.take k) 0 < 4611686018427387904 := by
                  have h1 := valB_bound (ms.take k)
                  have h2 : 256 ^ (ms.take k).length ≤ 256 ^ 4 := Nat.pow_le_pow_right (by decide) (by rw [List.length_take]; omega)
                  omega
                generalize valB (ms.take k) 0 = vk at *
                clear hfin hlt
                go_wp2_with fail
                go_region
                all_goals
                  go_wp2_with fail
                  refine bodyPost_ret (v := .tuple #[.agg #[.int .i64 0, .int .i64 tt, .int .i64 ff, .slice T m d, .int .i64 vk, .int .i64 k], .int .i64 ((v : Int) + k), .int .i64 0]) ?_ rfl ?_
                  · simp [results, Tryz.results31, go_sem, hFC] <;> rfl
                  · refine HFN.out _ _ (Or.inr ⟨by omega, T, d, ?_, ?_, ?_, ?_, ?_⟩)
                    · simp [hcells, HTL.out, ← HFIN.out]
                    · refine rd_of_own8 (base := w.heap.size + 2) (e := 5) (l := m) (c := d) ?_ (by simp [HTL.out])
                      (repeat (first | with_reducible exact HTT.out | with_reducible refine World.ownsRow.drew ?_ | (with_reducible refine ownsRow_setCell_below ?_ ?side _; case side => (first | omega | (simp; omega) | (simp; done))) | with_reducible refine World.ownsRow.alloc ?_ _))
                    · have := own_cap8 HTT.out; simp only [HTL.out]; exact this.1
                    · exact (own_cap8 HTT.out).2
                    · (repeat (first | with_reducible exact hbz | with_reducible refine Below.drew ?_ | (with_reducible refine Below.set4 ?_ ?side _ _ _ _; case side => (first | omega | (simp; omega) | (simp; done))) | (with_reducible refine Below.setCell ?_ ?side _; case side => (first | omega | (simp; omega) | (simp; done))) | (with_reducible refine Below.alloc ?_ ?side _; case side => (first | omega | (simp; omega) | (simp; done)))))

set_option maxRecDepth 100000 in
set_option maxHeartbeats 4000000 in
theorem hDec_long1_three (A : Option Addr) (bs : List UInt8) (n c : Nat) (w : World) (hn : bs.length = n) (h : RdB w A bs) (hc : n ≤ c) (hm : c ≤ 9223372036854775807) (h3n : n = 3) (h3c : c = 3) (b s : Nat) (hb : (bs.getD 0 0).toNat = b) (h1 : b = 240) (hs : s = 0) :
    Calls Tryz.prog 31 #[.slice A n c] w (HBad w 4) := by
  obtain ⟨B, off, rfl, hcell⟩ := h.cell (by omega)
  have hc0 := hcell 0 (by omega)
  have hc1 := hcell 1 (by omega)
  have hc2 := hcell 2 (by omega)
  obtain ⟨tt, htt⟩ : ∃ tt, (bs.getD 1 0).toNat = tt := ⟨_, rfl⟩
  have ht256 : tt < 256 := by have := (bs.getD 1 0).toNat_lt; omega
  obtain ⟨ff, hff⟩ : ∃ ff, (bs.getD 2 0).toNat = ff := ⟨_, rfl⟩
  have hf256 : ff < 256 := by have := (bs.getD 2 0).toNat_lt; omega
  rw [htt] at hc1
  rw [hff] at hc2
  rw [hb] at hc0
  have hb256 : b < 256 := by have := (bs.getD 0 0).toNat_lt; omega
  simp only [Nat.add_zero] at hc0
  have HS0 := Lib.hid hs
  have hs4 : s ≤ 4 := by omega
  clear hs
  have e2 : ((240 : Nat) : Int) = 240 := rfl
  subst h1
  rw [e2] at hc0
  have e3 : bits .andNot .u8 240 3 = 240 := by kernel_rfl
  have hg := World.block_lt_of_cell? w _ hc0
  have HR := Lib.hid h
  have HN := Lib.hid hn
  clear hcell h hn hb
  go_enter Tryz.func31, Tryz.ntmps31
  go_upto_region 12 with (fail)
  refine wp_world (fun w' => Blk w' w.heap.size 61 #[.int .i64 0, .int .i64 0, .int .i64 0, .slice none 0 0, .int .i64 0, .int .i64 0] ∧ Blk w' (w.heap.size + 1) 61 #[.int .i64 1, .int .i64 0, .int .i64 0, .slice none 0 0, .int .i64 0, .int .i64 s] ∧ w'.cell? ⟨B, off + 1, none⟩ = some (.int .u8 tt) ∧ w'.cell? ⟨B, off + 2, none⟩ = some (.int .u8 ff) ∧ Below w.heap.size w w')
    ⟨(Blk.new _ _ _).alloc _, (Blk.new1 _ _ _ _).as (by rw [HS0.out]; rfl), by go_simp, by go_simp, ((Below.refl _ _).alloc (Nat.le_refl _) _).alloc (by simp) _⟩ ?_
  clear hc0 e2 e3 hc1 hc2
  rintro w1 ⟨hB2, hB5, hc1, hc2, hb1⟩
  have hFH := hB5.facts6
  have hFC := hB2.facts6
  have hz1 := hb1.size
  subst h3n
  subst h3c
  go_wp2_with fail
  refine (dec_nil _ _ _).mono ?_
  rintro e w2 ⟨rfl, rfl⟩
  have hB2' : Blk ((w1.setCell ⟨w.heap.size + 1, 1, none⟩ (.int .i64 tt)).setCell ⟨w.heap.size + 1, 2, none⟩ (.int .i64 ff)) w.heap.size 61 #[.int .i64 0, .int .i64 0, .int .i64 0, .slice none 0 0, .int .i64 0, .int .i64 0] := by (apply Blk.as; (case h => (repeat (first | with_reducible exact hB2 | with_reducible apply Blk.drew | with_reducible apply Blk.set4 | with_reducible apply Blk.set_ | (with_reducible apply Blk.far4 (hne := ?side); case side => (first | omega | (simp; omega) | (simp; done))) | (with_reducible apply Blk.far (hp := ?side); case side => (first | omega | (simp; omega) | (simp; done))) | with_reducible apply Blk.alloc))); (case e => (first | with_reducible rfl | (simp; done) | rfl)))
  have hFC2 := hB2'.facts6
  go_wp2_with fail
  refine bodyPost_ret (v := .tuple #[.agg #[.int .i64 0, .int .i64 0, .int .i64 0, .slice none 0 0, .int .i64 0, .int .i64 0], .int .i64 0, .int .i64 4]) ?_ rfl ⟨rfl, ?_⟩
  · simp [results, Tryz.results31, go_sem, hFC2] <;> rfl
  · (repeat (first | with_reducible exact hb1 | with_reducible refine Below.drew ?_ | (with_reducible refine Below.set4 ?_ ?side _ _ _ _; case side => (first | omega | (simp; omega) | (simp; done))) | (with_reducible refine Below.setCell ?_ ?side _; case side => (first | omega | (simp; omega) | (simp; done))) | (with_reducible refine Below.alloc ?_ ?side _; case side => (first | omega | (simp; omega) | (simp; done)))))

set_option maxRecDepth 100000 in
set_option maxHeartbeats 4000000 in
theorem hDec_long1 (A : Option Addr) (bs : List UInt8) (n c : Nat) (w : World) (hn : bs.length = n) (h : RdB w A bs) (hc : n ≤ c) (hm : c ≤ 9223372036854775807) (h3n : 3 ≤ n) (h3c : ¬ c = 3) (r : Int × Int × Int) (hr : decR (bs.drop 3) = r) (b s : Nat) (hb : (bs.getD 0 0).toNat = b) (h1 : b = 240) (hs : s = 0) :
    Calls Tryz.prog 31 #[.slice A n c] w (HLong bs n 1 (bs.getD 1 0).toNat (bs.getD 2 0).toNat s r w) := by
  obtain ⟨B, off, rfl, hcell⟩ := h.cell (by omega)
  have hcs := decR_cases (bs.drop 3)
  rw [hr] at hcs
  have hc0 := hcell 0 (by omega)
  have hc1 := hcell 1 (by omega)
  have hc2 := hcell 2 (by omega)
  obtain ⟨tt, htt⟩ : ∃ tt, (bs.getD 1 0).toNat = tt := ⟨_, rfl⟩
  have ht256 : tt < 256 := by have := (bs.getD 1 0).toNat_lt; omega
  obtain ⟨ff, hff⟩ : ∃ ff, (bs.getD 2 0).toNat = ff := ⟨_, rfl⟩
  have hf256 : ff < 256 := by have := (bs.getD 2 0).toNat_lt; omega
  rw [htt] at hc1
  rw [hff] at hc2
  rw [htt, hff]
  rw [hb] at hc0
  have hb256 : b < 256 := by have := (bs.getD 0 0).toNat_lt; omega
  simp only [Nat.add_zero] at hc0
  have HS0 := Lib.hid hs
  have hs4 : s ≤ 4 := by omega
  clear hs
  have e2 : ((240 : Nat) : Int) = 240 := rfl
  subst h1
  rw [e2] at hc0
  have e3 : bits .andNot .u8 240 3 = 240 := by kernel_rfl
  have hg := World.block_lt_of_cell? w _ hc0
  have HR := Lib.hid h
  have HN := Lib.hid hn
  clear hcell h hn hb
  go_enter Tryz.func31, Tryz.ntmps31
  go_upto_region 12 with (fail)
  refine wp_world (fun w' => Blk w' w.heap.size 61 #[.int .i64 0, .int .i64 0, .int .i64 0, .slice none 0 0, .int .i64 0, .int .i64 0] ∧ Blk w' (w.heap.size + 1) 61 #[.int .i64 1, .int .i64 0, .int .i64 0, .slice none 0 0, .int .i64 0, .int .i64 s] ∧ w'.cell? ⟨B, off + 1, none⟩ = some (.int .u8 tt) ∧ w'.cell? ⟨B, off + 2, none⟩ = some (.int .u8 ff) ∧ Below w.heap.size w w')
    ⟨(Blk.new _ _ _).alloc _, (Blk.new1 _ _ _ _).as (by rw [HS0.out]; rfl), by go_simp, by go_simp, ((Below.refl _ _).alloc (Nat.le_refl _) _).alloc (by simp) _⟩ ?_
  clear hc0 e2 e3 hc1 hc2
  rintro w1 ⟨hB2, hB5, hc1, hc2, hb1⟩
  have hFH := hB5.facts6
  have hFC := hB2.facts6
  have hz1 := hb1.size
  have hdl : (bs.drop 3).length = n - 3 := by rw [List.length_drop, HN.out]
  have hrd3 : ∀ (w' : World), Below w.heap.size w w' → RdB w' (some ⟨B, off + 3, none⟩) (bs.drop 3) := fun w' hw' => by
    have := (HR.out.below hw').cut (k := 3) (cap := c) (by rw [HN.out]; exact h3n) (by rw [HN.out]; exact hc)
    rw [if_neg h3c] at this
    simpa [add_none] using this
  have HRD3 := Lib.hid hrd3
  have HCS := Lib.hid hcs
  have HRR := Lib.hid hr
  have HDL := Lib.hid hdl
  clear hrd3 hcs hr hdl
  have hBs : ∀ u v, Blk ((w1.setCell ⟨w.heap.size + 1, 1, none⟩ u).setCell ⟨w.heap.size + 1, 2, none⟩ v) w.heap.size 61 #[.int .i64 0, .int .i64 0, .int .i64 0, .slice none 0 0, .int .i64 0, .int .i64 0] := fun u v => by (apply Blk.as; (case h => (repeat (first | with_reducible exact hB2 | with_reducible apply Blk.drew | with_reducible apply Blk.set4 | with_reducible apply Blk.set_ | (with_reducible apply Blk.far4 (hne := ?side); case side => (first | omega | (simp; omega) | (simp; done))) | (with_reducible apply Blk.far (hp := ?side); case side => (first | omega | (simp; omega) | (simp; done))) | with_reducible apply Blk.alloc))); (case e => (first | with_reducible rfl | (simp; done) | rfl)))
  have hFC2 := fun u v => (hBs u v).facts6
  clear hBs
  have HFC2 := Lib.hid hFC2
  clear hFC2
  go_wp2_with fail
  refine (decode_n (some ⟨B, off + 3, none⟩) (bs.drop 3) (n - 3) _ _ HDL.out (HRD3.out _ (by (repeat (first | with_reducible exact hb1 | with_reducible refine Below.drew ?_ | (with_reducible refine Below.set4 ?_ ?side _ _ _ _; case side => (first | omega | (simp; omega) | (simp; done))) | (with_reducible refine Below.setCell ?_ ?side _; case side => (first | omega | (simp; omega) | (simp; done))) | (with_reducible refine Below.alloc ?_ ?side _; case side => (first | omega | (simp; omega) | (simp; done))))))) (by omega) (by omega) r HRR.out).mono ?_
  rintro e w' ⟨rfl, rfl⟩
  rcases HCS.out with ⟨hrv, _⟩ | ⟨m, K, hrv, hK1, hmd, hK2, hK3, hm9⟩
  · subst hrv
    have hFC2 := HFC2.out (.int .i64 tt) (.int .i64 ff)
    go_wp2_with fail
    refine bodyPost_ret (v := .tuple #[.agg #[.int .i64 0, .int .i64 0, .int .i64 0, .slice none 0 0, .int .i64 0, .int .i64 0], .int .i64 0, .int .i64 4]) ?_ rfl (show HLong _ _ _ _ _ _ _ _ _ _ from Or.inl ⟨by simp, rfl, ?_⟩)
    · simp [results, Tryz.results31, go_sem, hFC2] <;> rfl
    · (repeat (first | with_reducible exact hb1 | with_reducible refine Below.drew ?_ | (with_reducible refine Below.set4 ?_ ?side _ _ _ _; case side => (first | omega | (simp; omega) | (simp; done))) | (with_reducible refine Below.setCell ?_ ?side _; case side => (first | omega | (simp; omega) | (simp; done))) | (with_reducible refine Below.alloc ?_ ?side _; case side => (first | omega | (simp; omega) | (simp; done)))))
  · have hms := (dec_size _ m K hK1 hm9).1
    have hK8 : K ≤ 8 := by have := decLen_cases (bs.drop 3); omega
    rw [HDL.out] at hK2
    subst hrv
    clear hm9 HCS hK1 hmd
    by_cases hm120 : 120 < m
    · have hmi : (120 : Int) < (m : Int) := by omega
      have hFC2 := HFC2.out (.int .i64 tt) (.int .i64 ff)
      go_wp2_with fail
      refine bodyPost_ret (v := .tuple #[.agg #[.int .i64 0, .int .i64 0, .int .i64 0, .slice none 0 0, .int .i64 0, .int .i64 0], .int .i64 0, .int .i64 1]) ?_ rfl (show HLong _ _ _ _ _ _ _ _ _ _ from Or.inr (Or.inl ⟨by simp, by simpa using hm120, rfl, ?_⟩))
      · simp [results, Tryz.results31, go_sem, hFC2] <;> rfl
      · (repeat (first | with_reducible exact hb1 | with_reducible refine Below.drew ?_ | (with_reducible refine Below.set4 ?_ ?side _ _ _ _; case side => (first | omega | (simp; omega) | (simp; done))) | (with_reducible refine Below.setCell ?_ ?side _; case side => (first | omega | (simp; omega) | (simp; done))) | (with_reducible refine Below.alloc ?_ ?side _; case side => (first | omega | (simp; omega) | (simp; done)))))
    · have hmi : (m : Int) ≤ 120 := by omega
      obtain ⟨u, hu⟩ : ∃ u, 3 + K = u := ⟨_, rfl⟩
      obtain ⟨v, hv⟩ : ∃ v, u + m = v := ⟨_, rfl⟩
      have hui : (3 : Int) + (K : Int) = (u : Int) := by omega
      have hvi : (u : Int) + (m : Int) = (v : Int) := by omega
      have hu11 : u ≤ 11 := by omega
      by_cases hnv : n < v
      · have hFC2 := HFC2.out (.int .i64 tt) (.int .i64 ff)
        have hnvi : (n : Int) < (v : Int) := by omega
        go_wp2_with fail
        refine bodyPost_ret (v := .tuple #[.agg #[.int .i64 0, .int .i64 0, .int .i64 0, .slice none 0 0, .int .i64 0, .int .i64 0], .int .i64 0, .int .i64 4]) ?_ rfl (show HLong _ _ _ _ _ _ _ _ _ _ from Or.inr (Or.inr (Or.inl ⟨by simp, by simpa using hm120, by simp; omega, rfl, ?_⟩)))
        · simp [results, Tryz.results31, go_sem, hFC2] <;> rfl
        · (repeat (first | with_reducible exact hb1 | with_reducible refine Below.drew ?_ | (with_reducible refine Below.set4 ?_ ?side _ _ _ _; case side => (first | omega | (simp; omega) | (simp; done))) | (with_reducible refine Below.setCell ?_ ?side _; case side => (first | omega | (simp; omega) | (simp; done))) | (with_reducible refine Below.alloc ?_ ?side _; case side => (first | omega | (simp; omega) | (simp; done)))))
      · have hnvi : ¬ (n : Int) < (v : Int) := by omega
        go_upto_region 28 with (fail)
        refine wp_world (fun w' => Blk w' w.heap.size 61 #[.int .i64 0, .int .i64 0, .int .i64 0, .slice none 0 0, .int .i64 0, .int .i64 0] ∧ Blk w' (w.heap.size + 1) 61 #[.int .i64 1, .int .i64 tt, .int .i64 ff, .slice none 0 0, .int .i64 0, .int .i64 s] ∧ Below w.heap.size w w')
          ⟨by (apply Blk.as; (case h => (repeat (first | with_reducible exact hB2 | with_reducible apply Blk.drew | with_reducible apply Blk.set4 | with_reducible apply Blk.set_ | (with_reducible apply Blk.far4 (hne := ?side); case side => (first | omega | (simp; omega) | (simp; done))) | (with_reducible apply Blk.far (hp := ?side); case side => (first | omega | (simp; omega) | (simp; done))) | with_reducible apply Blk.alloc))); (case e => (first | with_reducible rfl | (simp; done) | rfl))), by (apply Blk.as; (case h => (repeat (first | with_reducible exact hB5 | with_reducible apply Blk.drew | with_reducible apply Blk.set4 | with_reducible apply Blk.set_ | (with_reducible apply Blk.far4 (hne := ?side); case side => (first | omega | (simp; omega) | (simp; done))) | (with_reducible apply Blk.far (hp := ?side); case side => (first | omega | (simp; omega) | (simp; done))) | with_reducible apply Blk.alloc))); (case e => (first | with_reducible rfl | (simp; done) | rfl))), by (repeat (first | with_reducible exact hb1 | with_reducible refine Below.drew ?_ | (with_reducible refine Below.set4 ?_ ?side _ _ _ _; case side => (first | omega | (simp; omega) | (simp; done))) | (with_reducible refine Below.setCell ?_ ?side _; case side => (first | omega | (simp; omega) | (simp; done))) | (with_reducible refine Below.alloc ?_ ?side _; case side => (first | omega | (simp; omega) | (simp; done)))))⟩ ?_
        clear hFH hFC hB2 hB5 hb1 hc1 hc2 HFC2 HRD3 hz1
        rintro w3 ⟨hB2, hB5, hbz⟩
        have hg3 := hB5.lt
        have hvu : v - u = m := by omega
        have hcu : (v : Int) ≤ (c : Int) := by omega
        have huv : (u : Int) ≤ (v : Int) := by omega
        have hbz4 : ∀ o, Below w.heap.size w (w3.alloc o) := fun o => hbz.alloc hbz.size _
        have hml : ((bs.drop u).take m).length = m := by rw [List.length_take, List.length_drop, HN.out]; omega
        have HML := Lib.hid hml
        have HB2 := Lib.hid hB2
        have HB5 := Lib.hid hB5
        have HBZ := Lib.hid hbz
        have HBZ4 := Lib.hid hbz4
        clear hB2 hB5 hbz hbz4 hml
        obtain ⟨tok, htok⟩ : ∃ tok, (bs.drop u).take m = tok := ⟨_, rfl⟩
        have HTOK := Lib.hid htok
        clear htok
        go_upto_region 30 with (at_builtin; refine wpList_appB _ rfl (.tmp 90) (.tmp 96) _ rfl (w.heap.size + 2) 5 Tryz.underlying30 u8_info (some ⟨w3.heap.size, 0, none⟩) 0 0 [] rfl rfl (OwnB.made w3 _ _ hg3) _ m _ ((bs.drop u).take m) rfl HML.out (RdB.mid (HR.out.below (HBZ4.out _)) u m c (by rw [HN.out]; omega) (by rw [HN.out]; exact hc)) tok HTOK.out m (by omega) (by omega) (by simp; omega) ?_; intro T d w5 hO5 hd5 hm5 hb5; have hFH5 := ((HB5.out.alloc (.cells #[] 5)).below hb5 (by omega)).facts6)
        generalize (if c = u then (some (⟨B, off, none⟩ : Addr)) else some ⟨B, off + u, none⟩) = dead
        all_goals
          refine wp_world (fun w' => Blk w' w.heap.size 61 #[.int .i64 0, .int .i64 0, .int .i64 0, .slice none 0 0, .int .i64 0, .int .i64 0] ∧ Blk w' (w.heap.size + 1) 61 #[.int .i64 1, .int .i64 tt, .int .i64 ff, .slice T m d, .int .i64 0, .int .i64 s] ∧ w'.ownsRow (w.heap.size + 2) 5 1 (.slice T m d) m (u8s tok) ∧ Below w.heap.size w w')
            ⟨by (apply Blk.as; (case h => (repeat (first | with_reducible exact (HB2.out.alloc (.cells #[] 5)).below hb5 (by omega) | with_reducible apply Blk.drew | with_reducible apply Blk.set4 | with_reducible apply Blk.set_ | (with_reducible apply Blk.far4 (hne := ?side); case side => (first | omega | (simp; omega) | (simp; done))) | (with_reducible apply Blk.far (hp := ?side); case side => (first | omega | (simp; omega) | (simp; done))) | with_reducible apply Blk.alloc))); (case e => (first | with_reducible rfl | (simp; done) | rfl))), by (apply Blk.as; (case h => (repeat (first | with_reducible exact (HB5.out.alloc (.cells #[] 5)).below hb5 (by omega) | with_reducible apply Blk.drew | with_reducible apply Blk.set4 | with_reducible apply Blk.set_ | (with_reducible apply Blk.far4 (hne := ?side); case side => (first | omega | (simp; omega) | (simp; done))) | (with_reducible apply Blk.far (hp := ?side); case side => (first | omega | (simp; omega) | (simp; done))) | with_reducible apply Blk.alloc))); (case e => (first | with_reducible rfl | (simp; done) | rfl))), ?own9, by (repeat (first | with_reducible exact (HBZ4.out (.cells #[] 5)).trans (hb5.mono (by omega)) | with_reducible refine Below.drew ?_ | (with_reducible refine Below.set4 ?_ ?side _ _ _ _; case side => (first | omega | (simp; omega) | (simp; done))) | (with_reducible refine Below.setCell ?_ ?side _; case side => (first | omega | (simp; omega) | (simp; done))) | (with_reducible refine Below.alloc ?_ ?side _; case side => (first | omega | (simp; omega) | (simp; done)))))⟩ ?_
          case own9 =>
            have h9 : w5.ownsRow (w.heap.size + 2) 5 1 (.slice T m d) m (u8s tok) := by
              have h8 := hO5
              unfold OwnB at h8
              rw [← HTOK.out, HML.out] at h8
              rw [← HTOK.out]; exact h8
            (repeat (first | with_reducible exact h9 | with_reducible refine World.ownsRow.drew ?_ | (with_reducible refine ownsRow_setCell_below ?_ ?side _; case side => (first | omega | (simp; omega) | (simp; done))) | with_reducible refine World.ownsRow.alloc ?_ _))
          clear hFH5 hO5 hb5 HB2 HB5 HBZ HBZ4
          rintro w2 ⟨hB2, hB5, hT9, hbz⟩
          have HTL : Hid (tok.length = m) := by show _ = _; rw [← HTOK.out]; exact HML.out
          have HFN : Hid (∀ e w', HTail bs n 1 tt ff tok v s w e w' → HLong bs n 1 tt ff s ((m : Int), (K : Int), 0) w e w') := fun e w' h => by
            refine Or.inr (Or.inr (Or.inr ⟨rfl, by simpa using hm120, by simp; omega, ?_⟩))
            simp only [Int.toNat_natCast]
            rw [hu, hv, HTOK.out]
            exact h
          have HT := Lib.hid hT9
          have HG2 : Hid (w.heap.size + 2 ≤ w2.heap.size) := hB5.lt
          have HB2 := Lib.hid hB2
          have HB5 := Lib.hid hB5
          have HBZ := Lib.hid hbz
          clear hB2 hB5 hbz hT9 hg3
          have hFC := HB2.out.facts6
          have hFH := HB5.out.facts6
          have hu0 : v + s ≤ 9223372036854775807 := by omega
          by_cases hsh : n < v + s
          · have hti := decide_eq_true (show (n : Int) < ((v : Nat) : Int) + (s : Int) by omega)
            have hbd : ((v : Nat) : Int) + (s : Int) ≤ 9223372036854775807 := by omega
            go_wp2_with fail
            refine bodyPost_ret (v := .tuple #[.agg #[.int .i64 0, .int .i64 0, .int .i64 0, .slice none 0 0, .int .i64 0, .int .i64 0], .int .i64 0, .int .i64 4]) ?_ rfl ?_
            · simp [results, Tryz.results31, go_sem, hFC] <;> rfl
            · refine HFN.out _ _ (Or.inl ⟨hsh, rfl, ?_⟩)
              (repeat (first | with_reducible exact HBZ.out | with_reducible refine Below.drew ?_ | (with_reducible refine Below.set4 ?_ ?side _ _ _ _; case side => (first | omega | (simp; omega) | (simp; done))) | (with_reducible refine Below.setCell ?_ ?side _; case side => (first | omega | (simp; omega) | (simp; done))) | (with_reducible refine Below.alloc ?_ ?side _; case side => (first | omega | (simp; omega) | (simp; done)))))
          · rcases Nat.decEq c v with hcv | hcv
            all_goals
              obtain ⟨ms, hms⟩ : ∃ ms, (bs.drop v).take s = ms := ⟨_, rfl⟩
              have hmsl : ms.length = s := by rw [← hms, List.length_take, List.length_drop, HN.out]; omega
              have hcell : ∀ (w' : World), Below w.heap.size w w' → ∀ k, k < s → w'.cell? ⟨B, off + v + k, none⟩ = some (.int .u8 ((ms.getD k 0).toNat : Int)) := by
                intro w' hw' k hk
                obtain ⟨B', off', hA', hc'⟩ := (HR.out.below hw').cell (by have := HN.out; omega)
                injection hA' with hA'
                injection hA' with h1 h2
                subst h1 h2
                have := hc' (v + k) (by have := HN.out; omega)
                rw [← Nat.add_assoc] at this
                rw [this, ← hms]
                simp [List.getD, hk, List.getElem?_drop]
              have HMS := Lib.hid hms
              have HML := Lib.hid hmsl
              have HCELL := Lib.hid hcell
              have hz2 : w.heap.size ≤ w2.heap.size := HBZ.out.size
              have hnu : v + s - v = s := by omega
              have hti := decide_eq_false (show ¬ (n : Int) < ((v : Nat) : Int) + (s : Int) by omega)
              have hbd : ((v : Nat) : Int) + (s : Int) ≤ 9223372036854775807 := by omega
              have hcu : ((v + s : Nat) : Int) ≤ (c : Int) := by omega
              clear hms hmsl hcell
              have HFC := Lib.hid hFC
              clear hFC
              have hcu1 : (if c = v then (some (⟨B, off, none⟩ : Addr)) else some ⟨B, off + v, none⟩) = (if c = v then some ⟨B, off, none⟩ else some ⟨B, off + v, none⟩) := rfl
              go_wp2_with fail
              clear hFH
              go_loopw [118] (fun i wr => ∃ k : Nat, k ≤ s ∧ i = .int .i64 k ∧ Blk wr (w.heap.size + 1) 61 #[.int .i64 1, .int .i64 tt, .int .i64 ff, .slice T m d, .int .i64 (valB (ms.take k) 0 : Nat), .int .i64 s] ∧ Blk wr w.heap.size 61 #[.int .i64 0, .int .i64 0, .int .i64 0, .slice none 0 0, .int .i64 0, .int .i64 0] ∧ Below w.heap.size w wr ∧ wr.ownsRow (w.heap.size + 2) 5 1 (.slice T m d) m (u8s tok) ∧ w.heap.size + 2 ≤ wr.heap.size) (fun i _ => s - (intOf i).toNat)
              case atStart => exact ⟨0, Nat.zero_le _, rfl, HB5.out, HB2.out, HBZ.out, HT.out, HG2.out⟩
              case round =>
                obtain ⟨k, hk, rfl, hB5, hB2, hbz, hT, hg2⟩ := hrel
                have HTT := Lib.hid hT
                clear hT
                have HB5 := Lib.hid hB5
                have HB2 := Lib.hid hB2
                have hFH := hB5.facts6
                clear hB5 hB2
                by_cases hlt : k < s
                · exact absurd hlt (by have := HS0.out; omega)
                · obtain rfl : k = s := by omega
                  have hfin : valB (ms.take k) 0 = valB ((bs.drop v).take k) 0 := by rw [HMS.out, List.take_of_length_le (by rw [HML.out]; exact Nat.le_refl _)]
                  have HFIN := Lib.hid hfin
                  have hFC := HB2.out.facts6
                  have hvk : valB (ms.take k) 0 < 4611686018427387904 := by
                    have h1 := valB_bound (ms.take k)
                    have h2 : 256 ^ (ms.take k).length ≤ 256 ^ 4 := Nat.pow_le_pow_right (by decide) (by rw [List.length_take]; omega)
                    omega
                  generalize valB (ms.take k) 0 = vk at *
                  clear hfin hlt
                  go_wp2_with fail
                  go_region
                  all_goals
                    go_wp2_with fail
                    refine bodyPost_ret (v := .tuple #[.agg #[.int .i64 1, .int .i64 tt, .int .i64 ff, .slice T m d, .int .i64 vk, .int .i64 k], .int .i64 ((v : Int) + k), .int .i64 0]) ?_ rfl ?_
                    · simp [results, Tryz.results31, go_sem, hFC] <;> rfl
                    · refine HFN.out _ _ (Or.inr ⟨by omega, T, d, ?_, ?_, ?_, ?_, ?_⟩)
                      · simp [hcells, HTL.out, ← HFIN.out]
                      · refine rd_of_own8 (base := w.heap.size + 2) (e := 5) (l := m) (c := d) ?_ (by simp [HTL.out])
                        (repeat (first | with_reducible exact HTT.out | with_reducible refine World.ownsRow.drew ?_ | (with_reducible refine ownsRow_setCell_below ?_ ?side _; case side => (first | omega | (simp; omega) | (simp; done))) | with_reducible refine World.ownsRow.alloc ?_ _))
                      · have := own_cap8 HTT.out; simp only [HTL.out]; exact this.1
                      · exact (own_cap8 HTT.out).2
                      · (repeat (first | with_reducible exact hbz | with_reducible refine Below.drew ?_ | (with_reducible refine Below.set4 ?_ ?side _ _ _ _; case side => (first | omega | (simp; omega) | (simp; done))) | (with_reducible refine Below.setCell ?_ ?side _; case side => (first | omega | (simp; omega) | (simp; done))) | (with_reducible refine Below.alloc ?_ ?side _; case side => (first | omega | (simp; omega) | (simp; done)))))

end Go.Proofs.YtbcagdjfegobnaaGreat
/- The contract of head.Decode, whole. -/
namespace Go.Proofs.YtbcagdjfegobnaaGreat
open Go.RowKit
set_option linter.unusedVariables false

/-- What Decode answers. -/
def HOut (r : HeadD × Nat × Int) (w : World) (e : Ending) (w' : World) : Prop := ∃ T d, e = .returned (.tuple #[.agg (hcells r.1 T d), .int .i64 r.2.1, .int .i64 r.2.2]) ∧ RdB w' T r.1.tok ∧ r.1.tok.length ≤ d ∧ d ≤ 9223372036854775807 ∧ Below w.heap.size w w'

theorem HBad.out {w : World} {E : Int} {e : Ending} {w' : World} (h : HBad w E e w') : HOut (hnil, 0, E) w e w' :=
  ⟨none, 0, h.1, Rd.nil, by simp [hnil], by decide, h.2⟩
theorem HGood.out {w : World} {H : HeadD} {u : Nat} {e : Ending} {w' : World} (h : HGood w H u e w') : HOut (H, u, 0) w e w' := h
theorem HTail.out {bs : List UInt8} {n k tt f u s : Nat} {t : List UInt8} {w : World} {e : Ending} {w' : World} (hn : bs.length = n) (h : HTail bs n k tt f t u s w e w') : HOut (htail bs k tt f t u s) w e w' := by
  unfold htail
  rw [hn]
  rcases h with ⟨h1, h2⟩ | ⟨h1, h2⟩
  · rw [if_pos h1]; exact h2.out
  · rw [if_neg (by omega)]; exact h2.out
theorem HLong.out {bs : List UInt8} {n k s : Nat} {w : World} {e : Ending} {w' : World} (hn : bs.length = n) (h3 : 3 ≤ n) (h : HLong bs n k (bs.getD 1 0).toNat (bs.getD 2 0).toNat s (decR (bs.drop 3)) w e w') : HOut (hlong bs k s) w e w' := by
  unfold hlong
  rw [hn, if_neg (by omega)]
  rcases h with ⟨h1, h2⟩ | ⟨h1, h3, h2⟩ | ⟨h1, h3, h4, h2⟩ | ⟨h1, h3, h4, h2⟩
  · rw [if_pos h1]; exact h2.out
  · rw [if_neg (by omega), if_pos h3]; exact h2.out
  · rw [if_neg (by omega), if_neg h3, if_pos h4]; exact h2.out
  · rw [if_neg (by omega), if_neg h3, if_neg h4]; exact h2.out hn

theorem hlong_few (bs : List UInt8) (k s : Nat) (h : bs.length < 3) : hlong bs k s = (hnil, 0, 4) := if_pos h
theorem hlong_three (bs : List UInt8) (k s : Nat) (h : bs.length = 3) : hlong bs k s = (hnil, 0, 4) := by
  unfold hlong
  rw [if_neg (by omega), List.drop_of_length_le (by omega)]
  rfl

theorem hDec_any (A : Option Addr) (bs : List UInt8) (n c : Nat) (w : World) (hn : bs.length = n) (h : RdB w A bs) (hc : n ≤ c) (hm : c ≤ 9223372036854775807) :
    Calls Tryz.prog 31 #[.slice A n c] w (HOut (hdec bs) w) := by
  unfold hdec
  rw [hn]
  by_cases h0 : n = 0
  · subst h0
    rw [if_pos rfl]
    exact (hDec_nil A c w).mono fun e w' h => h.out
  rw [if_neg h0]
  by_cases h1 : (bs.getD 0 0).toNat / 4 = 16
  · rw [if_pos h1]
    by_cases h2 : n < 2
    · rw [if_pos h2]
      obtain rfl : n = 1 := by omega
      exact (hDec_short1 A bs c w hn h hc hm _ rfl h1).mono fun e w' h => h.out
    · rw [if_neg h2]
      exact (hDec_short A bs n c w hn h hc hm (by omega) _ _ rfl h1 rfl).mono fun e w' h => h.out hn
  rw [if_neg h1]
  by_cases h2 : (bs.getD 0 0).toNat / 4 = 48
  · rw [if_pos h2]
    by_cases h3 : n < 3
    · rw [hlong_few bs _ _ (by omega)]
      exact (hDec_long0_few A bs n c w hn h hc hm (by omega) h3 _ _ rfl h2 rfl).mono fun e w' h => h.out
    · by_cases h4 : c = 3
      · rw [hlong_three bs _ _ (by omega)]
        exact (hDec_long0_three A bs n c w hn h hc hm (by omega) h4 _ _ rfl h2 rfl).mono fun e w' h => h.out
      · exact (hDec_long0 A bs n c w hn h hc hm (by omega) h4 _ rfl _ _ rfl h2 rfl).mono fun e w' h => h.out hn (by omega)
  rw [if_neg h2]
  by_cases h3 : (bs.getD 0 0).toNat = 240
  · rw [if_pos h3]
    by_cases h5 : n < 3
    · rw [hlong_few bs _ _ (by omega)]
      exact (hDec_long1_few A bs n c w hn h hc hm (by omega) h5 _ _ rfl h3 rfl).mono fun e w' h => h.out
    · by_cases h4 : c = 3
      · rw [hlong_three bs _ _ (by omega)]
        exact (hDec_long1_three A bs n c w hn h hc hm (by omega) h4 _ _ rfl h3 rfl).mono fun e w' h => h.out
      · exact (hDec_long1 A bs n c w hn h hc hm (by omega) h4 _ rfl _ _ rfl h3 rfl).mono fun e w' h => h.out hn (by omega)
  rw [if_neg h3]
  exact (hDec_none A bs n c w hn h hc hm (by omega) _ rfl h1 h2 h3).mono fun e w' h => h.out
end Go.Proofs.YtbcagdjfegobnaaGreat
/- Gates whose connections have just begun: gate.Hear of a first packet, whatever desk.first makes of it. -/
namespace Go.Proofs.YtbcagdjfegobnaaGreat
open Go.ChangeShapes Go.WideShapes Go.ChangeAt Go.RowKit
set_option linter.unusedVariables false

theorem gcs_part (g : GtD) (A : Option Addr) (n c : Nat) (O : Option Addr) (m co : Nat) : ∀ j v, (gcs g A n c)[j]? = some v → (dkc g A n c O m co)[0 + j]? = some v := by
  intro j v hv
  have hj : j < (gcs g A n c).size := (Array.getElem?_eq_some_iff.1 hv).1
  have e : dkc g A n c O m co = gcs g A n c ++ #[.slice O m co] := rfl
  rw [Nat.zero_add, e, Array.getElem?_append_left hj]
  exact hv
theorem Blk.und {w w' : World} {B g : Nat} {t : TypeId} {cs : Array Value} (h : Blk w g t cs) (hb : Below B w w') (hg : g < B) : Blk w' g t cs := (hb.block g hg).trans h
/-- Mail of the call's own. -/
def MlOwn (w : World) (base : Nat) (O : Option Addr) (co : Nat) (ms : List MlB) : Prop := OwnX mlc 2 w base 75 O co ms ∧ ∀ x ∈ ms, OwnX u8c 1 w 0 5 x.D x.c x.data ∧ x.data.length = x.n
theorem MlOwn.carry {w w' : World} {base : Nat} {O : Option Addr} {co : Nat} {ms : List MlB} (h : MlOwn w base O co ms) (hb : Below w.heap.size w w') : MlOwn w' base O co ms := ⟨h.1.carry hb, fun x hx => ⟨(h.2 x hx).1.carry hb, (h.2 x hx).2⟩⟩
/-- Mail that is read. -/
def MlRd (w : World) (O : Option Addr) (ms : List MlB) : Prop := RdX mlc 2 w O ms ∧ ∀ x ∈ ms, RdB w x.D x.data ∧ x.data.length = x.n ∧ x.n ≤ x.c ∧ x.c ≤ 9223372036854775807
theorem MlRd.below {w w' : World} {O : Option Addr} {ms : List MlB} (h : MlRd w O ms) (hb : Below w.heap.size w w') : MlRd w' O ms := ⟨RdX.below h.1 hb, fun x hx => ⟨(h.2 x hx).1.below hb, (h.2 x hx).2⟩⟩

theorem DkV.wrG {w w' : World} {base gd : Nat} {g : GtD} {A : Option Addr} {n c : Nat} {xs : List NtB} {O : Option Addr} {m co : Nat} {ms : List MlB} (h : DkV w base gd g A n c xs O m co ms) {q : Nat} {cs : Array Value} (hw : Wr q w w') (hq : Blk w q 29 cs) : DkV w' base gd g A n c xs O m co ms :=
  ⟨h.hn, h.hm, h.hg, h.d.wr hw (Blk.ne h.d hq (by decide)), h.nt.wr hw (own_ne h.nt hq (by decide)), h.ml.wr hw (own_ne h.ml hq (by decide)), fun x hx => ⟨(h.dat x hx).1.wr hw (own_ne (h.dat x hx).1 hq (by decide)), (h.dat x hx).2⟩⟩
set_option maxRecDepth 100000 in
set_option maxHeartbeats 8000000 in
theorem hear_first (p : Nat) (hp : p < 4) (t f : Nat) (tok : List UInt8) (U : Nat) (B : Option Addr) (bn bc : Nat) (bs : List UInt8) (hbn : bs.length = bn) (hbc : bn ≤ bc) (hbm : bc ≤ 9223372036854775807) (h400 : bn ≤ 400) (hdc : hdec bs = (⟨0, t, f, tok, 0, 1⟩, U, 0))
    (g : GtD) (A : Option Addr) (n c : Nat) (xs : List NtB) (hkf : (g.t p).1 = false) (h1 : (g.t p).2.1 ≤ 1099511627376) (h3 : (g.t p).2.2 ≤ 1099511627376) (tg : Tly) (htg : tg = (false, (g.t p).2.1 + bn, (g.t p).2.2)) (E : Int) (Pr : GtD → Nat → List NtB → Nat → List MlB → Prop)
    (hPr : ∀ g2 n2 ys m2 ms2, Pr g2 n2 ys m2 ms2 → GOk g2 ys ∧ ys.length = n2) (w : World) (hG : GtV w g A n c xs) (hB : RdB w B bs)
    (hfirst : ∀ (W : World) (base gd : Nat) (A1 : Option Addr) (c1 : Nat) (xs1 : List NtB) (T : Option Addr) (d : Nat), xs1.map NtB.pl = xs.map NtB.pl → (∀ y ∈ xs1, BgR y.cs y.last) → DkV W base gd (g.set p tg) A1 n c1 xs1 none 0 0 [] → base ≤ W.heap.size → RdB W T tok → tok.length ≤ d → d ≤ 9223372036854775807 → RdB W B bs →
      Calls Tryz.prog 60 #[.pointer (some ⟨gd, 0, none⟩), .int .i64 p, .agg #[.int .i64 (0 : Nat), .int .i64 t, .int .i64 f, .slice T tok.length d, .int .i64 (0 : Nat), .int .i64 (1 : Nat)], .int .i64 (U : Nat), .slice B bn bc] W fun e w' => e = .returned (.int .i64 E) ∧
        (∃ g2 A2 n2 c2 ys O2 m2 co2 ms2, DkV w' base gd g2 A2 n2 c2 ys O2 m2 co2 ms2 ∧ Pr g2 n2 ys m2 ms2) ∧ Below base W w') :
    Calls Tryz.prog 27 #[.agg (gcs g A n c), .int .i64 p, .slice B bn bc] w fun e w' => ∃ g2 A2 n2 c2 ys zs O2 m2 co2 ms2, e = .returned (.tuple #[.agg (gcs g2 A2 n2 c2), .slice O2 m2 co2, .int .i64 E]) ∧ GtV w' g2 A2 n2 c2 ys ∧ ys.map NtB.pl = zs.map NtB.pl ∧ Pr g2 n2 zs m2 ms2 ∧ ms2.length = m2 ∧ m2 ≤ co2 ∧ co2 ≤ 9223372036854775807 ∧ MlOwn w' w.heap.size O2 co2 ms2 ∧ OwnX ntc 29 w' w.heap.size 53 A2 c2 ys ∧ Below w.heap.size w w' := by
  have HG := Lib.hid hG
  have HB := Lib.hid hB
  have HBN := Lib.hid hbn
  have HD := Lib.hid hdc
  have HF := Lib.hid hfirst
  have HPR := Lib.hid hPr
  have HKF := Lib.hid hkf
  have HTG := Lib.hid htg
  have hok := hG.ok.tl p hp
  have HOK := Lib.hid hok
  have q0 := hG.ok.n0
  have q1 := hG.ok.n1
  have hw1 : (bn : Int) ≤ 400 := by omega
  clear hG hB hbn hdc hfirst hPr hkf htg hok
  go_enter Tryz.func27, Tryz.ntmps27
  unfold gcs
  -- [[p1
  go_upto_region 1 with (fail)
  refine wp_world (fun w' => Blk w' w.heap.size 29 (gcs g A n c) ∧ (∃ z, z.size = 18 ∧ Blk w' (w.heap.size + 1) 29 z) ∧ Below w.heap.size w w') ⟨(Blk.new _ _ _).alloc _, ⟨_, rfl, Blk.new1 _ _ _ _⟩, ((Below.refl _ _).alloc (Nat.le_refl _) _).alloc (by simp) _⟩ ?_
  rintro w1 ⟨hA, ⟨z, hz, hZ⟩, hb1⟩
  obtain ⟨qA, hqA⟩ : ∃ q, w.heap.size = q := ⟨_, rfl⟩
  obtain ⟨gR, hgR⟩ : ∃ q, w.heap.size + 1 = q := ⟨_, rfl⟩
  rw [hgR] at hZ ⊢
  rw [hqA] at hA ⊢
  have HA1 := Lib.hid hA
  have HZ1 := Lib.hid hZ
  have HB1 := Lib.hid hb1
  have hqr : w.heap.size ≤ gR := by omega
  clear hA hZ hb1 hqA hgR
  go_wp2_with (refine wpList_loadR rfl 29 (.tmp 3) rfl qA 0 rfl (gcs g A n c) _ Tryz.underlying29 rfl (by kernel_rfl) HA1.out.whole ?_)
  refine (gateCheck_ok g A n c xs _ (HG.out.below HB1.out)).mono ?_
  rintro e w2 ⟨rfl, hb2⟩
  have HA2 := Lib.hid (HA1.out.carry hb2)
  have HZ2 := Lib.hid (HZ1.out.carry hb2)
  have HB2 := Lib.hid (HB1.out.trans (hb2.mono HB1.out.size))
  clear hb2 HA1 HZ1 HB1
  go_wp2_with (refine wpList_loadR rfl 29 (.tmp 3) rfl qA 0 rfl (gcs g A n c) _ Tryz.underlying29 rfl (by kernel_rfl) HA2.out.whole ?_)
  refine (gateFresh_ok g A n c xs _ (HG.out.below HB2.out)).mono ?_
  rintro e w3 ⟨A1, c1, xs1, rfl, hO, hV, hpl, hb3⟩
  have HZ3 := Lib.hid (HZ2.out.carry hb3)
  have HB3 := Lib.hid (HB2.out.trans (hb3.mono HB2.out.size))
  have HO := Lib.hid (hO.mono (base' := gR + 1) (by have := HZ2.out.lt; omega))
  have HPL := Lib.hid hpl
  have HBG := Lib.hid (show ∀ y ∈ xs1, BgR y.cs y.last from fun y hy => (hV.ok.nts y hy).r)
  have HN1 := Lib.hid hV.hn
  clear hb3 hO hV hpl HA2 HZ2 HB2
  unfold gcs
  go_upto_region 9 with (fail)
  obtain ⟨gd, hgd⟩ : ∃ q, w3.heap.size = q := ⟨_, rfl⟩
  refine wp_world (fun w' => DkV w' (gR + 1) gd g A1 n c1 xs1 none 0 0 [] ∧ Blk w' gR 29 z ∧ Below w.heap.size w w')
    ⟨⟨HN1.out, rfl, by have := HZ3.out.lt; omega, Blk.newF hgd, HO.out.alloc _, OwnX.nil _ _ _, fun x hx => absurd hx List.not_mem_nil⟩, HZ3.out.alloc _, HB3.out.alloc HB3.out.size _⟩ ?_
  rw [hgd]
  clear hgd HZ3 HB3 HO HN1
  rintro w4 ⟨hV, hZ, hb⟩
  have HV4 := Lib.hid hV
  have HZ4 := Lib.hid hZ
  have HB4 := Lib.hid hb
  have hgl := hV.d.lt
  clear hV hZ hb
  have HGT := Lib.hid (fun W => tallyGot_f (g.t p).2.1 (g.t p).2.2 bn HOK.out.1.1 h1 HOK.out.2.1.1 h3 (HOK.out.2.2 HKF.out) (by omega) (by omega) W)
  have h4 : (p : Int) < 4 := by omega
  have h0 : (0 : Int) ≤ (p : Int) := by omega
  -- [[p2
  go_wp2_with (refine wpList_loadR rfl 26 (.tmp 42) rfl gd (4 + p * 3) rfl (tl3 (g.t p)) _ Tryz.underlying26 rfl (by kernel_rfl) (tly_at HV4.out.d p hp) ?_)
  unfold tl3
  rw [HKF.out]
  refine (HGT.out _).mono ?_
  rintro e w5 ⟨rfl, hb5⟩
  have HV5 := Lib.hid (HV4.out.carry hb5)
  have HZ5 := Lib.hid (HZ4.out.carry hb5)
  have HB5 := Lib.hid (HB4.out.trans (hb5.mono HB4.out.size))
  have hgl5 := HV5.out.d.lt
  clear hb5 HV4 HZ4 HB4
  go_upto_region 12 with (fail)
  obtain ⟨gT, hgT⟩ : ∃ q, w5.heap.size = q := ⟨_, rfl⟩
  refine wp_world (fun w' => Blk w' gT 26 (tl3 tg) ∧ DkV w' (gR + 1) gd g A1 n c1 xs1 none 0 0 [] ∧ Blk w' gR 29 z ∧ Below w.heap.size w w') ⟨by rw [HTG.out]; exact Blk.newF hgT, HV5.out.carry ((Below.refl _ _).alloc (Nat.le_refl _) _), HZ5.out.alloc _, HB5.out.alloc HB5.out.size _⟩ ?_
  try rw [hgT]
  clear hgT HV5 HZ5 HB5 hgl5
  rintro w6 ⟨hT, hV, hZ, hb⟩
  have HT6 := Lib.hid hT
  have HV6 := Lib.hid hV
  have HZ6 := Lib.hid hZ
  have HB6 := Lib.hid hb
  clear hT hV hZ hb
  -- [[p3
  refine wp_flow (fun k => decide (k < 7)) (fun k => false) 102 [0, 1, 2, 3, 4, 5, 6] (fun w' => Below w6.heap.size w6 w') (fun k a v w' => True) (by kernel_rfl) ?hflB ?hpuB ?hksB (fun _ _ _ _ _ h => h) rfl ?hst ?hC ?_
  case hflB => kernel_rfl
  case hpuB => kernel_rfl
  case hksB => kernel_rfl
  case hst => exact ⟨fun w0 w1 h1 hb => h1.trans (hb.mono h1.size), fun k a v w0 w1 hW hb => hW, fun k a b v w0 _ h => h⟩
  case hC => exact (Below.refl _ _).drew
  refine fq 54 (.pointer (some ⟨gd, 0, none⟩)) (by kernel_rfl) (by kernel_rfl) (by kernel_rfl) (by kernel_rfl) (fun w => (by kernel_rfl)) ?_
  refine fq 55 (.int .i64 p) (by kernel_rfl) (by kernel_rfl) (by kernel_rfl) (by kernel_rfl) (fun w => (by kernel_rfl)) ?_
  refine fqR 56 (tl3 tg) 26 (.tmp 11) gT 0 _ (by kernel_rfl) (by kernel_rfl) (by kernel_rfl) (by kernel_rfl) (by kernel_rfl) (by kernel_rfl) Tryz.underlying26 rfl (by kernel_rfl) (fun w hw => (HT6.out.carry hw.1).whole) ?_
  refine fq 57 (.pointer (some ⟨gd, 0, none⟩)) (by kernel_rfl) (by kernel_rfl) (by kernel_rfl) (by kernel_rfl) (fun w => (by kernel_rfl)) ?_
  refine fq 58 (.pointer (some ⟨gd, 0, none⟩)) (by kernel_rfl) (by kernel_rfl) (by kernel_rfl) (by kernel_rfl) (fun w => (by kernel_rfl)) ?_
  refine fq 59 (.pointer (some ⟨gd, 4, none⟩)) (by kernel_rfl) (by kernel_rfl) (by kernel_rfl) (by kernel_rfl) (fun w => (by kernel_rfl)) ?_
  refine fidxA 60 27 (.tmp 59) (.tmp 55) gd 4 4 .i64 (p : Nat) 3 (4 + p * 3) (by kernel_rfl) (by kernel_rfl) (by kernel_rfl) (by kernel_rfl) (by kernel_rfl) (by kernel_rfl) (by kernel_rfl) (by kernel_rfl) (fun w => (by kernel_rfl)) (by kernel_rfl) (by omega) (by omega) (by simp) ?_
  refine fend [7] (by kernel_rfl) (by kernel_rfl) ?_
  intro w10 hw10 _
  refine tstoreP (by kernel_rfl) (by kernel_rfl) 26 (.tmp 60) (.tmp 56) (by kernel_rfl) gd (4 + p * 3) (by kernel_rfl) (tl3 tg) (by kernel_rfl) 133 _ (HV6.out.d.carry hw10) (by kernel_rfl) (by simp [dkc, tl3]; omega) (tl3_one _) _ (tly_put g A1 n c1 none 0 0 p hp tg) ?_
  intro w11 hB11 hw11
  refine tend ?_
  go_simp
  refine (show ∀ (a : Act) (w : World), Code.wp _ _ _ a w → _ from by assumption) _ _ ?_
  refine wp_world (fun w' => DkV w' (gR + 1) gd (g.set p tg) A1 n c1 xs1 none 0 0 [] ∧ Blk w' gR 29 z ∧ Below w.heap.size w w') ⟨(HV6.out.carry hw10).wr (g' := g.set p tg) hB11 hw11, (HZ6.out.carry hw10).wr hw11 (Blk.ne (HZ6.out.carry hw10) (HV6.out.d.carry hw10) (by decide)), hw11.trans_below (HB6.out.trans (hw10.mono HB6.out.size)) (by have := HV6.out.hg; omega)⟩ ?_
  clear hw10 hw11 hB11 HT6 HV6 HZ6 HB6
  rintro w7 ⟨hV, hZ, hb⟩
  have HV7 := Lib.hid hV
  have HZ7 := Lib.hid hZ
  have HB7 := Lib.hid hb
  clear hV hZ hb
  have HDEC := hDec_any B bs bn bc w7 HBN.out (HB.out.below HB7.out) hbc hbm
  rw [HD.out] at HDEC
  have HDEC := Lib.hid HDEC
  go_wp2_with fail
  refine HDEC.out.mono ?_
  rintro e w8 ⟨T, d, rfl, hT, hTd, hTm, hb8⟩
  simp only at hT hTd
  simp only [hcells]
  have HV8 := Lib.hid (HV7.out.carry hb8)
  have HZ8 := Lib.hid (HZ7.out.carry hb8)
  have HB8 := Lib.hid (HB7.out.trans (hb8.mono HB7.out.size))
  have HT8 := Lib.hid hT
  clear hb8 HV7 HZ7 HB7 HDEC hT
  go_upto_region 15 with (fail)
  obtain ⟨gH, hgH⟩ : ∃ q, w8.heap.size = q := ⟨_, rfl⟩
  refine wp_world (fun w' => Blk w' gH 61 #[.int .i64 (0 : Nat), .int .i64 t, .int .i64 f, .slice T tok.length d, .int .i64 (0 : Nat), .int .i64 (1 : Nat)] ∧ RdB w' T tok ∧ DkV w' (gR + 1) gd (g.set p tg) A1 n c1 xs1 none 0 0 [] ∧ Blk w' gR 29 z ∧ Below w.heap.size w w') ⟨Blk.newF hgH, HT8.out.below ((Below.refl _ _).alloc (Nat.le_refl _) _), HV8.out.carry ((Below.refl _ _).alloc (Nat.le_refl _) _), HZ8.out.alloc _, HB8.out.alloc HB8.out.size _⟩ ?_
  try rw [hgH]
  clear hgH HV8 HZ8 HB8 HT8
  rintro w8 ⟨hH, hT, hV, hZ, hb⟩
  have HH8 := Lib.hid hH
  have HT8 := Lib.hid hT
  have HV8 := Lib.hid hV
  have HZ8 := Lib.hid hZ
  have HB8 := Lib.hid hb
  have k0 : w8.cell? ⟨gH, 0, none⟩ = some (.int .i64 (0 : Nat)) := by rw [hH.cell]; rfl
  have hHl := hH.lt
  clear hH hT hV hZ hb
  -- [[p4
  go_wp2_with (refine wpList_loadR rfl 61 (.tmp 13) rfl gH 0 rfl #[.int .i64 (0 : Nat), .int .i64 t, .int .i64 f, .slice T tok.length d, .int .i64 (0 : Nat), .int .i64 (1 : Nat)] _ Tryz.underlying61 rfl (by kernel_rfl) HH8.out.whole ?_)
  refine (HF.out w8 (gR + 1) gd A1 c1 xs1 T d HPL.out HBG.out HV8.out (by have := HZ8.out.lt; omega) HT8.out hTd hTm (HB.out.below HB8.out)).mono ?_
  rintro e w9 ⟨rfl, ⟨g2, A2, n2, c2, zs, O2, m2, co2, ms2, hV9, hp9⟩, hb9⟩
  obtain ⟨hgo, hzn⟩ := HPR.out _ _ _ _ _ hp9
  have HZ9 := Lib.hid (HZ8.out.und hb9 (by omega))
  have HB9 := Lib.hid (HB8.out.trans (hb9.mono (by omega)))
  have HV9 := Lib.hid hV9
  have HP9 := Lib.hid hp9
  have HGO := Lib.hid hgo
  have hz3 : n2 ≤ 3 := by have := hgo.few; omega
  have m0 := hgo.n0
  have m1 := hgo.n1
  clear hb9 hV9 hp9 hgo HH8 HT8 HV8 HZ8 HB8 k0 hHl
  go_wp2_with fail
  refine (flush_beg (gR + 1) gd g2 A2 n2 c2 zs O2 m2 co2 ms2 w9 HV9.out (by have := HZ9.out.lt; omega) hz3 (fun x hx => (HGO.out.nts x hx).r) m0 m1).mono ?_
  rintro e w10 ⟨rfl, ⟨A2, c2, hV10⟩, hb10⟩
  have HR9 := Lib.hid (HZ9.out.und hb10 (by omega))
  have HB10 := Lib.hid (HB9.out.trans (hb10.mono (by omega)))
  have HV9 := Lib.hid hV10
  have hrl := HR9.out.lt
  clear hb10 hV10 HZ9 HB9
  go_upto_region 21 with (fail)
  obtain ⟨w9, hw9⟩ : ∃ w9, w10 = w9 := ⟨_, rfl⟩
  subst hw9
  have f18 : w10.cell? ⟨gd, 18, none⟩ = some (.slice O2 m2 co2) := by rw [HV9.out.d.cell]; rfl
  -- [[p5
  have HST := Lib.hid (show ∀ w0 w1, Below w0.heap.size w0 w1 → Stays (fun w' => DkV w' (gR + 1) gd g2 A2 n2 c2 zs O2 m2 co2 ms2 ∧ (∃ z, z.size = 18 ∧ Blk w' gR 29 z) ∧ Below w.heap.size w w') (fun k v w' => (k = 4 → ∃ A3 c3 ys, v = .agg (gcs g2 A3 n2 c3) ∧ OwnX ntc 29 w' (gR + 1) 53 A3 c3 ys ∧ ys.length = n2 ∧ GOk g2 ys ∧ ys.map NtB.pl = zs.map NtB.pl) ∧ (k = 10 → ∃ A3 c3 ys, Blk w' gR 29 (gcs g2 A3 n2 c3) ∧ OwnX ntc 29 w' (gR + 1) 53 A3 c3 ys ∧ ys.length = n2 ∧ GOk g2 ys ∧ ys.map NtB.pl = zs.map NtB.pl)) w0 w1 from fun w0 w1 hb => ⟨fun h1 => by obtain ⟨h1, ⟨z, hz, hZ⟩, h3⟩ := h1; exact ⟨h1.carry hb, ⟨z, hz, hZ.carry hb⟩, h3.trans (hb.mono h3.size)⟩, fun k v hW => ⟨fun e => (fun hp => by obtain ⟨A3, c3, ys, e1, e2, e3⟩ := hp; exact ⟨A3, c3, ys, e1, e2.carry hb, e3⟩) (hW.1 e), fun e => (fun hp => by obtain ⟨A3, c3, ys, e1, e2, e3⟩ := hp; exact ⟨A3, c3, ys, e1.carry hb, e2.carry hb, e3⟩) (hW.2 e)⟩⟩)
  refine wp_flowS (fun k => decide (k < 11)) (fun k => k == 4 || k == 10) 102 [0, 1, 2, 3, 4, 5, 6, 7, 8, 9, 10] (fun w' => DkV w' (gR + 1) gd g2 A2 n2 c2 zs O2 m2 co2 ms2 ∧ (∃ z, z.size = 18 ∧ Blk w' gR 29 z) ∧ Below w.heap.size w w') (fun k v w' => (k = 4 → ∃ A3 c3 ys, v = .agg (gcs g2 A3 n2 c3) ∧ OwnX ntc 29 w' (gR + 1) 53 A3 c3 ys ∧ ys.length = n2 ∧ GOk g2 ys ∧ ys.map NtB.pl = zs.map NtB.pl) ∧ (k = 10 → ∃ A3 c3 ys, Blk w' gR 29 (gcs g2 A3 n2 c3) ∧ OwnX ntc 29 w' (gR + 1) 53 A3 c3 ys ∧ ys.length = n2 ∧ GOk g2 ys ∧ ys.map NtB.pl = zs.map NtB.pl)) (by kernel_rfl) ?hflB ?hpuB ?hksB (fun _ _ _ _ _ h => h) rfl ?hC ?_
  case hflB => kernel_rfl
  case hpuB => kernel_rfl
  case hksB => kernel_rfl
  case hC => exact ⟨HV9.out.carry (Below.refl _ _).drew, ⟨z, hz, HR9.out.carry (Below.refl _ _).drew⟩, HB10.out.trans ((Below.refl _ _).drew)⟩
  refine fq 92 (.pointer (some ⟨gd, 0, none⟩)) (by kernel_rfl) (by kernel_rfl) (by kernel_rfl) (by kernel_rfl) (fun w => (by kernel_rfl)) ?_
  refine fq 93 (.pointer (some ⟨gd, 0, none⟩)) (by kernel_rfl) (by kernel_rfl) (by kernel_rfl) (by kernel_rfl) (fun w => (by kernel_rfl)) ?_
  refine fq 94 (.pointer (some ⟨gd, 0, none⟩)) (by kernel_rfl) (by kernel_rfl) (by kernel_rfl) (by kernel_rfl) (fun w => (by kernel_rfl)) ?_
  refine fqR 95 (gcs g2 A2 n2 c2) 29 (.tmp 94) gd 0 _ (by kernel_rfl) (by kernel_rfl) (by kernel_rfl) (by kernel_rfl) (by kernel_rfl) (by kernel_rfl) Tryz.underlying29 rfl (by kernel_rfl) (fun w hw => hw.1.1.d.part 0 _ (gcs_part _ _ _ _ _ _ _)) ?_
  refine fcall 96 58 #[.agg (gcs g2 A2 n2 c2)] (by kernel_rfl) (by kernel_rfl) (by kernel_rfl) (by kernel_rfl) (fun w => (by kernel_rfl)) (fun w hw => (gateFresh_ok g2 A2 n2 c2 zs w ⟨hzn, by have := hw.1.1.nt.cap; rw [hzn] at this; exact this.1, hw.1.1.nt.cap.2, HGO.out, hw.1.1.nt.rd⟩).mono ?hx4_96) ?_
  case hx4_96 =>
    rintro e w' ⟨A3, c3, ys, rfl, hO, hV, hpl, hb⟩
    exact ⟨_, rfl, ⟨fun _ => ⟨A3, c3, ys, rfl, hO.mono (by obtain ⟨z, _, hZ⟩ := hw.1.2.1; have := hZ.lt; omega), hV.hn, hV.ok, hpl⟩, fun e => absurd e (by decide)⟩, (HST.out _ _ (hb)).1 hw.1, HST.out _ _ (hb)⟩
  rintro v ⟨w', hw', hW⟩
  obtain ⟨A3, c3, ys0, rfl, h4, h5⟩ := hW.1 rfl
  clear h4 h5 ys0 hW hw' w'
  refine fq 97 (.pointer (some ⟨gd, 0, none⟩)) (by kernel_rfl) (by kernel_rfl) (by kernel_rfl) (by kernel_rfl) (fun w => (by kernel_rfl)) ?_
  refine fq 98 (.pointer (some ⟨gd, 0, none⟩)) (by kernel_rfl) (by kernel_rfl) (by kernel_rfl) (by kernel_rfl) (fun w => (by kernel_rfl)) ?_
  refine fq 99 (.pointer (some ⟨gd, 18, none⟩)) (by kernel_rfl) (by kernel_rfl) (by kernel_rfl) (by kernel_rfl) (fun w => (by kernel_rfl)) ?_
  refine fq1 100 (.slice O2 m2 co2) 71 (.tmp 99) gd 18 _ (by kernel_rfl) (by kernel_rfl) (by kernel_rfl) (by kernel_rfl) (by kernel_rfl) (by kernel_rfl) Tryz.underlying71 rfl (fun w hw => by rw [hw.1.1.d.cell]; rfl) ?_
  refine fq 101 (.int .i64 E) (by kernel_rfl) (by kernel_rfl) (by kernel_rfl) (by kernel_rfl) (fun w => (by kernel_rfl)) ?_
  refine fstoreP (by kernel_rfl) (by kernel_rfl) (by kernel_rfl) (by kernel_rfl) 29 (.tmp 6) (.tmp 96) (by kernel_rfl) gR 0 (by kernel_rfl) (gcs g2 A3 n2 c3) (by kernel_rfl) 29 (by kernel_rfl) (gcs_one _ _ _ _) (fun W hw => ?hst10) ?_
  case hst10 =>
    obtain ⟨⟨hV, ⟨z, hz, hZ⟩, hb⟩, hfs⟩ := hw
    obtain ⟨A4, c4, ys, e2, hON, hg3⟩ := (hfs _ List.mem_cons_self (by kernel_rfl)).1 rfl
    obtain ⟨rfl, rfl⟩ : A3 = A4 ∧ c3 = c4 := by injection e2 with e2; simpa [gcs] using e2
    refine ⟨z, hZ, by simp [gcs, hz], fun w' hB' hw' => ?_⟩
    have hB' := hB'.as (splice_all _ _ (by simp [gcs, hz]))
    have hC' : DkV w' (gR + 1) gd g2 A2 n2 c2 zs O2 m2 co2 ms2 ∧ (∃ z, z.size = 18 ∧ Blk w' gR 29 z) ∧ Below w.heap.size w w' := ⟨hV.wrG hw' hZ, ⟨_, rfl, hB'⟩, hw'.trans_below hb hqr⟩
    have hO' := hON.wr hw' (own_ne hON hZ (by decide))
    exact ⟨⟨fun e => absurd e (by decide), fun _ => ⟨A3, c3, ys, hB', hO', hg3⟩⟩, hC', ⟨fun _ => hC', fun k v hv => ⟨fun e => by obtain ⟨A5, c5, ys5, e5, hO5, hg5⟩ := hv.1 e; exact ⟨A5, c5, ys5, e5, hO5.wr hw' (own_ne hO5 hZ (by decide)), hg5⟩, fun _ => ⟨A3, c3, ys, hB', hO', hg3⟩⟩⟩⟩
  rintro v -
  refine fend [11, 12] (by kernel_rfl) (by kernel_rfl) ?_
  intro w12 hw12 hF
  obtain ⟨A4, c4, ys, hR, hON, hyn, hyg, hpl⟩ := (hF _ List.mem_cons_self).2 rfl
  clear hF
  refine tval (some 7) (.slice O2 m2 co2) w12 (by kernel_rfl) (by kernel_rfl) (by kernel_rfl) ?_
  refine tval (some 8) (.int .i64 E) w12 (by kernel_rfl) (by kernel_rfl) (by kernel_rfl) ?_
  refine tend ?_
  go_simp
  refine (show ∀ (a : Act) (w : World), Code.wp _ _ _ a w → _ from by assumption) _ _ ?_
  have hcap := hON.cap
  rw [hyn] at hcap
  have hmc := hw12.1.ml.cap
  have hmm := hw12.1.hm
  rw [hmm] at hmc
  have HMC := Lib.hid hmc
  have HMM := Lib.hid hmm
  have HPL := Lib.hid hpl
  refine wp_world (fun w' => Blk w' gR 29 (gcs g2 A4 n2 c4) ∧ GtV w' g2 A4 n2 c4 ys ∧ MlOwn w' w.heap.size O2 co2 ms2 ∧ OwnX ntc 29 w' w.heap.size 53 A4 c4 ys ∧ Below w.heap.size w w') ⟨hR, ⟨hyn, hcap.1, hcap.2, hyg, hON.rd⟩, ⟨hw12.1.ml.mono (by omega), hw12.1.dat⟩, hON.mono (by omega), hw12.2.2⟩ ?_
  clear hR hON hyg hw12 HV9 HR9 HB10 f18 hmc hmm hcap HST hpl
  rintro w14 ⟨hR, hGV, hML, hON, hb⟩
  have HON := Lib.hid hON
  clear hON
  have HGV := Lib.hid hGV
  have HML := Lib.hid hML
  have HB := Lib.hid hb
  clear hGV hML hb
  go_wp2_with fail
  exact bodyPost_ret (results_c3 _ _ gR _ (gcs g2 A4 n2 c4) _ Tryz.results27 rfl hR Tryz.underlying29 rfl (by kernel_rfl) rfl rfl) rfl ⟨g2, A4, n2, c4, ys, zs, O2, m2, co2, ms2, rfl, HGV.out, HPL.out, HP9.out, HMM.out, HMC.out.1, HMC.out.2, HML.out, HON.out, HB.out⟩
  -- ]]p5
  -- ]]p4
  -- ]]p3
  -- ]]p2
  -- ]]p1
end Go.Proofs.YtbcagdjfegobnaaGreat
