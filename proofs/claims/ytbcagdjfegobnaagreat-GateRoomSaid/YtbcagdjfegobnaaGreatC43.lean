/- Texts of the proof, laid together: HeadDec2Walk. -/
import Derived.Test.YtbcagdjfegobnaaGreatC42
/- The contract of head.Decode, heads that are not short. -/
namespace Go.Proofs.YtbcagdjfegobnaaGreat
open Go.ChangeShapes Go.WideShapes Go.ChangeAt Go.RowKit
set_option linter.unusedVariables false

def HLong (bs : List UInt8) (n k tt ff s : Nat) (r : Int × Int × Int) (w : World) (e : Ending) (w' : World) : Prop :=
  (r.2.2 ≠ 0 ∧ HBad w 4 e w') ∨ (r.2.2 = 0 ∧ 120 < r.1.toNat ∧ HBad w 1 e w') ∨ (r.2.2 = 0 ∧ ¬ 120 < r.1.toNat ∧ n < 3 + r.2.1.toNat + r.1.toNat ∧ HBad w 4 e w') ∨
  (r.2.2 = 0 ∧ ¬ 120 < r.1.toNat ∧ ¬ n < 3 + r.2.1.toNat + r.1.toNat ∧ HTail bs n k tt ff ((bs.drop (3 + r.2.1.toNat)).take r.1.toNat) (3 + r.2.1.toNat + r.1.toNat) s w e w')

set_option maxRecDepth 100000 in
set_option maxHeartbeats 4000000 in
theorem hDec_long0_few (A : Option Addr) (bs : List UInt8) (n c : Nat) (w : World) (hn : bs.length = n) (h : RdB w A bs) (hc : n ≤ c) (hm : c ≤ 9223372036854775807) (h1n : 1 ≤ n) (h2n : n < 3) (b s : Nat) (hb : (bs.getD 0 0).toNat = b) (h1 : b / 4 = 48) (hs : b % 4 + 1 = s) :
    Calls Tryz.prog 31 #[.slice A n c] w (HBad w 4) := by
  obtain ⟨B, off, rfl, hcell⟩ := h.cell (by omega)
  have hc0 := hcell 0 (by omega)
  rw [hb] at hc0
  have hb256 : b < 256 := by have := (bs.getD 0 0).toNat_lt; omega
  simp only [Nat.add_zero] at hc0
  obtain ⟨x, hx⟩ : ∃ x, bits .andNot .u8 (b : Int) 3 = x := ⟨_, rfl⟩
  have hxv := andNot3 b hb256
  rw [hx] at hxv
  have e0 : (x == 64) = false := by rw [hxv]; simp; try omega
  have e1 : (x == 192) = true := by rw [hxv]; simp; try omega
  obtain ⟨y, hy⟩ : ∃ y, bits .and .u8 (b : Int) 3 = y := ⟨_, rfl⟩
  have hyv := and3 b hb256
  rw [hy] at hyv
  have hy0 : 0 ≤ y := by omega
  have hy3 : y ≤ 3 := by omega
  have e2 : y + 1 = (s : Int) := by omega
  have hs4 : s ≤ 4 := by omega
  have hs1 : 1 ≤ s := by omega
  clear hxv hyv hs h1
  have hg := World.block_lt_of_cell? w _ hc0
  have HR := Lib.hid h
  have HN := Lib.hid hn
  clear hcell h hn hb
  go_enter Tryz.func31, Tryz.ntmps31
  go_upto_region 12 with (fail)
  refine wp_world (fun w' => Blk w' w.heap.size 61 #[.int .i64 0, .int .i64 0, .int .i64 0, .slice none 0 0, .int .i64 0, .int .i64 0] ∧ Blk w' (w.heap.size + 1) 61 #[.int .i64 0, .int .i64 0, .int .i64 0, .slice none 0 0, .int .i64 0, .int .i64 s] ∧ Below w.heap.size w w')
    ⟨(Blk.new _ _ _).alloc _, (Blk.new1 _ _ _ _).as (by rw [← e2]), ((Below.refl _ _).alloc (Nat.le_refl _) _).alloc (by simp) _⟩ ?_
  clear hc0 hx hy e0 e1 e2
  rintro w1 ⟨hB2, hB5, hb1⟩
  have hFH := hB5.facts6
  have hFC := hB2.facts6
  have hz1 := hb1.size
  go_wp2_with fail
  refine bodyPost_ret (v := .tuple #[.agg #[.int .i64 0, .int .i64 0, .int .i64 0, .slice none 0 0, .int .i64 0, .int .i64 0], .int .i64 0, .int .i64 4]) ?_ rfl ⟨rfl, ?_⟩
  · simp [results, Tryz.results31, go_sem, hFC] <;> rfl
  · (repeat (first | with_reducible exact hb1 | with_reducible refine Below.drew ?_ | (with_reducible refine Below.set4 ?_ ?side _ _ _ _; case side => (first | omega | (simp; omega) | (simp; done))) | (with_reducible refine Below.setCell ?_ ?side _; case side => (first | omega | (simp; omega) | (simp; done))) | (with_reducible refine Below.alloc ?_ ?side _; case side => (first | omega | (simp; omega) | (simp; done)))))

set_option maxRecDepth 100000 in
set_option maxHeartbeats 4000000 in
theorem hDec_long1_few (A : Option Addr) (bs : List UInt8) (n c : Nat) (w : World) (hn : bs.length = n) (h : RdB w A bs) (hc : n ≤ c) (hm : c ≤ 9223372036854775807) (h1n : 1 ≤ n) (h2n : n < 3) (b s : Nat) (hb : (bs.getD 0 0).toNat = b) (h1 : b = 240) (hs : s = 0) :
    Calls Tryz.prog 31 #[.slice A n c] w (HBad w 4) := by
  obtain ⟨B, off, rfl, hcell⟩ := h.cell (by omega)
  have hc0 := hcell 0 (by omega)
  rw [hb] at hc0
  have hb256 : b < 256 := by have := (bs.getD 0 0).toNat_lt; omega
  simp only [Nat.add_zero] at hc0
  have HS0 := Lib.hid hs
  have hs4 : s ≤ 4 := by omega
  clear hs
  have e2 : ((240 : Nat) : Int) = 240 := rfl
  subst h1
  rw [e2] at hc0
  have e3 : bits .andNot .u8 240 3 = 240 := by kernel_rfl
  have hg := World.block_lt_of_cell? w _ hc0
  have HR := Lib.hid h
  have HN := Lib.hid hn
  clear hcell h hn hb
  go_enter Tryz.func31, Tryz.ntmps31
  go_upto_region 12 with (fail)
  refine wp_world (fun w' => Blk w' w.heap.size 61 #[.int .i64 0, .int .i64 0, .int .i64 0, .slice none 0 0, .int .i64 0, .int .i64 0] ∧ Blk w' (w.heap.size + 1) 61 #[.int .i64 1, .int .i64 0, .int .i64 0, .slice none 0 0, .int .i64 0, .int .i64 s] ∧ Below w.heap.size w w')
    ⟨(Blk.new _ _ _).alloc _, (Blk.new1 _ _ _ _).as (by rw [HS0.out]; rfl), ((Below.refl _ _).alloc (Nat.le_refl _) _).alloc (by simp) _⟩ ?_
  clear hc0 e2 e3
  rintro w1 ⟨hB2, hB5, hb1⟩
  have hFH := hB5.facts6
  have hFC := hB2.facts6
  have hz1 := hb1.size
  go_wp2_with fail
  refine bodyPost_ret (v := .tuple #[.agg #[.int .i64 0, .int .i64 0, .int .i64 0, .slice none 0 0, .int .i64 0, .int .i64 0], .int .i64 0, .int .i64 4]) ?_ rfl ⟨rfl, ?_⟩
  · simp [results, Tryz.results31, go_sem, hFC] <;> rfl
  · (repeat (first | with_reducible exact hb1 | with_reducible refine Below.drew ?_ | (with_reducible refine Below.set4 ?_ ?side _ _ _ _; case side => (first | omega | (simp; omega) | (simp; done))) | (with_reducible refine Below.setCell ?_ ?side _; case side => (first | omega | (simp; omega) | (simp; done))) | (with_reducible refine Below.alloc ?_ ?side _; case side => (first | omega | (simp; omega) | (simp; done)))))

set_option maxRecDepth 100000 in
set_option maxHeartbeats 4000000 in
theorem hDec_long0_three (A : Option Addr) (bs : List UInt8) (n c : Nat) (w : World) (hn : bs.length = n) (h : RdB w A bs) (hc : n ≤ c) (hm : c ≤ 9223372036854775807) (h3n : n = 3) (h3c : c = 3) (b s : Nat) (hb : (bs.getD 0 0).toNat = b) (h1 : b / 4 = 48) (hs : b % 4 + 1 = s) :
    Calls Tryz.prog 31 #[.slice A n c] w (HBad w 4) := by
  obtain ⟨B, off, rfl, hcell⟩ := h.cell (by omega)
  have hc0 := hcell 0 (by omega)
  have hc1 := hcell 1 (by omega)
  have hc2 := hcell 2 (by omega)
  obtain ⟨tt, htt⟩ : ∃ tt, (bs.getD 1 0).toNat = tt := ⟨_, rfl⟩
  have ht256 : tt < 256 := by have := (bs.getD 1 0).toNat_lt; omega
  obtain ⟨ff, hff⟩ : ∃ ff, (bs.getD 2 0).toNat = ff := ⟨_, rfl⟩
  have hf256 : ff < 256 := by have := (bs.getD 2 0).toNat_lt; omega
  rw [htt] at hc1
  rw [hff] at hc2
  rw [hb] at hc0
  have hb256 : b < 256 := by have := (bs.getD 0 0).toNat_lt; omega
  simp only [Nat.add_zero] at hc0
  obtain ⟨x, hx⟩ : ∃ x, bits .andNot .u8 (b : Int) 3 = x := ⟨_, rfl⟩
  have hxv := andNot3 b hb256
  rw [hx] at hxv
  have e0 : (x == 64) = false := by rw [hxv]; simp; try omega
  have e1 : (x == 192) = true := by rw [hxv]; simp; try omega
  obtain ⟨y, hy⟩ : ∃ y, bits .and .u8 (b : Int) 3 = y := ⟨_, rfl⟩
  have hyv := and3 b hb256
  rw [hy] at hyv
  have hy0 : 0 ≤ y := by omega
  have hy3 : y ≤ 3 := by omega
  have e2 : y + 1 = (s : Int) := by omega
  have hs4 : s ≤ 4 := by omega
  have hs1 : 1 ≤ s := by omega
  clear hxv hyv hs h1
  have hg := World.block_lt_of_cell? w _ hc0
  have HR := Lib.hid h
  have HN := Lib.hid hn
  clear hcell h hn hb
  go_enter Tryz.func31, Tryz.ntmps31
  go_upto_region 12 with (fail)
  refine wp_world (fun w' => Blk w' w.heap.size 61 #[.int .i64 0, .int .i64 0, .int .i64 0, .slice none 0 0, .int .i64 0, .int .i64 0] ∧ Blk w' (w.heap.size + 1) 61 #[.int .i64 0, .int .i64 0, .int .i64 0, .slice none 0 0, .int .i64 0, .int .i64 s] ∧ w'.cell? ⟨B, off + 1, none⟩ = some (.int .u8 tt) ∧ w'.cell? ⟨B, off + 2, none⟩ = some (.int .u8 ff) ∧ Below w.heap.size w w')
    ⟨(Blk.new _ _ _).alloc _, (Blk.new1 _ _ _ _).as (by rw [← e2]), by go_simp, by go_simp, ((Below.refl _ _).alloc (Nat.le_refl _) _).alloc (by simp) _⟩ ?_
  clear hc0 hx hy e0 e1 e2 hc1 hc2
  rintro w1 ⟨hB2, hB5, hc1, hc2, hb1⟩
  have hFH := hB5.facts6
  have hFC := hB2.facts6
  have hz1 := hb1.size
  subst h3n
  subst h3c
  go_wp2_with fail
  refine (dec_nil _ _ _).mono ?_
  rintro e w2 ⟨rfl, rfl⟩
  have hB2' : Blk ((w1.setCell ⟨w.heap.size + 1, 1, none⟩ (.int .i64 tt)).setCell ⟨w.heap.size + 1, 2, none⟩ (.int .i64 ff)) w.heap.size 61 #[.int .i64 0, .int .i64 0, .int .i64 0, .slice none 0 0, .int .i64 0, .int .i64 0] := by (apply Blk.as; (case h => (repeat (first | with_reducible exact hB2 | with_reducible apply Blk.drew | with_reducible apply Blk.set4 | with_reducible apply Blk.set_ | (with_reducible apply Blk.far4 (hne := ?side); case side => (first | omega | (simp; omega) | (simp; done))) | (with_reducible apply Blk.far (hp := ?side); case side => (first | omega | (simp; omega) | (simp; done))) | with_reducible apply Blk.alloc))); (case e => (first | with_reducible rfl | (simp; done) | rfl)))
  have hFC2 := hB2'.facts6
  go_wp2_with fail
  refine bodyPost_ret (v := .tuple #[.agg #[.int .i64 0, .int .i64 0, .int .i64 0, .slice none 0 0, .int .i64 0, .int .i64 0], .int .i64 0, .int .i64 4]) ?_ rfl ⟨rfl, ?_⟩
  · simp [results, Tryz.results31, go_sem, hFC2] <;> rfl
  · (repeat (first | with_reducible exact hb1 | with_reducible refine Below.drew ?_ | (with_reducible refine Below.set4 ?_ ?side _ _ _ _; case side => (first | omega | (simp; omega) | (simp; done))) | (with_reducible refine Below.setCell ?_ ?side _; case side => (first | omega | (simp; omega) | (simp; done))) | (with_reducible refine Below.alloc ?_ ?side _; case side => (first | omega | (simp; omega) | (simp; done)))))

set_option maxRecDepth 100000 in
set_option maxHeartbeats 4000000 in
theorem hDec_long0 (A : Option Addr) (bs : List UInt8) (n c : Nat) (w : World) (hn : bs.length = n) (h : RdB w A bs) (hc : n ≤ c) (hm : c ≤ 9223372036854775807) (h3n : 3 ≤ n) (h3c : ¬ c = 3) (r : Int × Int × Int) (hr : decR (bs.drop 3) = r) (b s : Nat) (hb : (bs.getD 0 0).toNat = b) (h1 : b / 4 = 48) (hs : b % 4 + 1 = s) :
    Calls Tryz.prog 31 #[.slice A n c] w (HLong bs n 0 (bs.getD 1 0).toNat (bs.getD 2 0).toNat s r w) := by
  obtain ⟨B, off, rfl, hcell⟩ := h.cell (by omega)
  have hcs := decR_cases (bs.drop 3)
  rw [hr] at hcs
  have hc0 := hcell 0 (by omega)
  have hc1 := hcell 1 (by omega)
  have hc2 := hcell 2 (by omega)
  obtain ⟨tt, htt⟩ : ∃ tt, (bs.getD 1 0).toNat = tt := ⟨_, rfl⟩
  have ht256 : tt < 256 := by have := (bs.getD 1 0).toNat_lt; omega
  obtain ⟨ff, hff⟩ : ∃ ff, (bs.getD 2 0).toNat = ff := ⟨_, rfl⟩
  have hf256 : ff < 256 := by have := (bs.getD 2 0).toNat_lt; omega
  rw [htt] at hc1
  rw [hff] at hc2
  rw [htt, hff]
  rw [hb] at hc0
  have hb256 : b < 256 := by have := (bs.getD 0 0).toNat_lt; omega
  simp only [Nat.add_zero] at hc0
  obtain ⟨x, hx⟩ : ∃ x, bits .andNot .u8 (b : Int) 3 = x := ⟨_, rfl⟩
  have hxv := andNot3 b hb256
  rw [hx] at hxv
  have e0 : (x == 64) = false := by rw [hxv]; simp; try omega
  have e1 : (x == 192) = true := by rw [hxv]; simp; try omega
  obtain ⟨y, hy⟩ : ∃ y, bits .and .u8 (b : Int) 3 = y := ⟨_, rfl⟩
  have hyv := and3 b hb256
  rw [hy] at hyv
  have hy0 : 0 ≤ y := by omega
  have hy3 : y ≤ 3 := by omega
  have e2 : y + 1 = (s : Int) := by omega
  have hs4 : s ≤ 4 := by omega
  have hs1 : 1 ≤ s := by omega
  clear hxv hyv hs h1
  have hg := World.block_lt_of_cell? w _ hc0
  have HR := Lib.hid h
  have HN := Lib.hid hn
  clear hcell h hn hb
  go_enter Tryz.func31, Tryz.ntmps31
  go_upto_region 12 with (fail)
  refine wp_world (fun w' => Blk w' w.heap.size 61 #[.int .i64 0, .int .i64 0, .int .i64 0, .slice none 0 0, .int .i64 0, .int .i64 0] ∧ Blk w' (w.heap.size + 1) 61 #[.int .i64 0, .int .i64 0, .int .i64 0, .slice none 0 0, .int .i64 0, .int .i64 s] ∧ w'.cell? ⟨B, off + 1, none⟩ = some (.int .u8 tt) ∧ w'.cell? ⟨B, off + 2, none⟩ = some (.int .u8 ff) ∧ Below w.heap.size w w')
    ⟨(Blk.new _ _ _).alloc _, (Blk.new1 _ _ _ _).as (by rw [← e2]), by go_simp, by go_simp, ((Below.refl _ _).alloc (Nat.le_refl _) _).alloc (by simp) _⟩ ?_
  clear hc0 hx hy e0 e1 e2 hc1 hc2
  rintro w1 ⟨hB2, hB5, hc1, hc2, hb1⟩
  have hFH := hB5.facts6
  have hFC := hB2.facts6
  have hz1 := hb1.size
  have hdl : (bs.drop 3).length = n - 3 := by rw [List.length_drop, HN.out]
  have hrd3 : ∀ (w' : World), Below w.heap.size w w' → RdB w' (some ⟨B, off + 3, none⟩) (bs.drop 3) := fun w' hw' => by
    have := (HR.out.below hw').cut (k := 3) (cap := c) (by rw [HN.out]; exact h3n) (by rw [HN.out]; exact hc)
    rw [if_neg h3c] at this
    simpa [add_none] using this
  have HRD3 := Lib.hid hrd3
  have HCS := Lib.hid hcs
  have HRR := Lib.hid hr
  have HDL := Lib.hid hdl
  clear hrd3 hcs hr hdl
  have hBs : ∀ u v, Blk ((w1.setCell ⟨w.heap.size + 1, 1, none⟩ u).setCell ⟨w.heap.size + 1, 2, none⟩ v) w.heap.size 61 #[.int .i64 0, .int .i64 0, .int .i64 0, .slice none 0 0, .int .i64 0, .int .i64 0] := fun u v => by (apply Blk.as; (case h => (repeat (first | with_reducible exact hB2 | with_reducible apply Blk.drew | with_reducible apply Blk.set4 | with_reducible apply Blk.set_ | (with_reducible apply Blk.far4 (hne := ?side); case side => (first | omega | (simp; omega) | (simp; done))) | (with_reducible apply Blk.far (hp := ?side); case side => (first | omega | (simp; omega) | (simp; done))) | with_reducible apply Blk.alloc))); (case e => (first | with_reducible rfl | (simp; done) | rfl)))
  have hFC2 := fun u v => (hBs u v).facts6
  clear hBs
  have HFC2 := Lib.hid hFC2
  clear hFC2
  go_wp2_with fail
  refine (decode_n (some ⟨B, off + 3, none⟩) (bs.drop 3) (n - 3) _ _ HDL.out (HRD3.out _ (by (repeat (first | with_reducible exact hb1 | with_reducible refine Below.drew ?_ | (with_reducible refine Below.set4 ?_ ?side _ _ _ _; case side => (first | omega | (simp; omega) | (simp; done))) | (with_reducible refine Below.setCell ?_ ?side _; case side => (first | omega | (simp; omega) | (simp; done))) | (with_reducible refine Below.alloc ?_ ?side _; case side => (first | omega | (simp; omega) | (simp; done))))))) (by omega) (by omega) r HRR.out).mono ?_
  rintro e w' ⟨rfl, rfl⟩
  rcases HCS.out with ⟨hrv, _⟩ | ⟨m, K, hrv, hK1, hmd, hK2, hK3, hm9⟩
  · subst hrv
    have hFC2 := HFC2.out (.int .i64 tt) (.int .i64 ff)
    go_wp2_with fail
    refine bodyPost_ret (v := .tuple #[.agg #[.int .i64 0, .int .i64 0, .int .i64 0, .slice none 0 0, .int .i64 0, .int .i64 0], .int .i64 0, .int .i64 4]) ?_ rfl (show HLong _ _ _ _ _ _ _ _ _ _ from Or.inl ⟨by simp, rfl, ?_⟩)
    · simp [results, Tryz.results31, go_sem, hFC2] <;> rfl
    · (repeat (first | with_reducible exact hb1 | with_reducible refine Below.drew ?_ | (with_reducible refine Below.set4 ?_ ?side _ _ _ _; case side => (first | omega | (simp; omega) | (simp; done))) | (with_reducible refine Below.setCell ?_ ?side _; case side => (first | omega | (simp; omega) | (simp; done))) | (with_reducible refine Below.alloc ?_ ?side _; case side => (first | omega | (simp; omega) | (simp; done)))))
  · have hms := (dec_size _ m K hK1 hm9).1
    have hK8 : K ≤ 8 := by have := decLen_cases (bs.drop 3); omega
    rw [HDL.out] at hK2
    subst hrv
    clear hm9 HCS hK1 hmd
    by_cases hm120 : 120 < m
    · have hmi : (120 : Int) < (m : Int) := by omega
      have hFC2 := HFC2.out (.int .i64 tt) (.int .i64 ff)
      go_wp2_with fail
      refine bodyPost_ret (v := .tuple #[.agg #[.int .i64 0, .int .i64 0, .int .i64 0, .slice none 0 0, .int .i64 0, .int .i64 0], .int .i64 0, .int .i64 1]) ?_ rfl (show HLong _ _ _ _ _ _ _ _ _ _ from Or.inr (Or.inl ⟨by simp, by simpa using hm120, rfl, ?_⟩))
      · simp [results, Tryz.results31, go_sem, hFC2] <;> rfl
      · (repeat (first | with_reducible exact hb1 | with_reducible refine Below.drew ?_ | (with_reducible refine Below.set4 ?_ ?side _ _ _ _; case side => (first | omega | (simp; omega) | (simp; done))) | (with_reducible refine Below.setCell ?_ ?side _; case side => (first | omega | (simp; omega) | (simp; done))) | (with_reducible refine Below.alloc ?_ ?side _; case side => (first | omega | (simp; omega) | (simp; done)))))
    · have hmi : (m : Int) ≤ 120 := by omega
      obtain ⟨u, hu⟩ : ∃ u, 3 + K = u := ⟨_, rfl⟩
      obtain ⟨v, hv⟩ : ∃ v, u + m = v := ⟨_, rfl⟩
      have hui : (3 : Int) + (K : Int) = (u : Int) := by omega
      have hvi : (u : Int) + (m : Int) = (v : Int) := by omega
      have hu11 : u ≤ 11 := by omega
      by_cases hnv : n < v
      · have hFC2 := HFC2.out (.int .i64 tt) (.int .i64 ff)
        have hnvi : (n : Int) < (v : Int) := by omega
        go_wp2_with fail
        refine bodyPost_ret (v := .tuple #[.agg #[.int .i64 0, .int .i64 0, .int .i64 0, .slice none 0 0, .int .i64 0, .int .i64 0], .int .i64 0, .int .i64 4]) ?_ rfl (show HLong _ _ _ _ _ _ _ _ _ _ from Or.inr (Or.inr (Or.inl ⟨by simp, by simpa using hm120, by simp; omega, rfl, ?_⟩)))
        · simp [results, Tryz.results31, go_sem, hFC2] <;> rfl
        · (repeat (first | with_reducible exact hb1 | with_reducible refine Below.drew ?_ | (with_reducible refine Below.set4 ?_ ?side _ _ _ _; case side => (first | omega | (simp; omega) | (simp; done))) | (with_reducible refine Below.setCell ?_ ?side _; case side => (first | omega | (simp; omega) | (simp; done))) | (with_reducible refine Below.alloc ?_ ?side _; case side => (first | omega | (simp; omega) | (simp; done)))))
      · have hnvi : ¬ (n : Int) < (v : Int) := by omega
        go_upto_region 28 with (fail)
        refine wp_world (fun w' => Blk w' w.heap.size 61 #[.int .i64 0, .int .i64 0, .int .i64 0, .slice none 0 0, .int .i64 0, .int .i64 0] ∧ Blk w' (w.heap.size + 1) 61 #[.int .i64 0, .int .i64 tt, .int .i64 ff, .slice none 0 0, .int .i64 0, .int .i64 s] ∧ Below w.heap.size w w')
          ⟨by (apply Blk.as; (case h => (repeat (first | with_reducible exact hB2 | with_reducible apply Blk.drew | with_reducible apply Blk.set4 | with_reducible apply Blk.set_ | (with_reducible apply Blk.far4 (hne := ?side); case side => (first | omega | (simp; omega) | (simp; done))) | (with_reducible apply Blk.far (hp := ?side); case side => (first | omega | (simp; omega) | (simp; done))) | with_reducible apply Blk.alloc))); (case e => (first | with_reducible rfl | (simp; done) | rfl))), by (apply Blk.as; (case h => (repeat (first | with_reducible exact hB5 | with_reducible apply Blk.drew | with_reducible apply Blk.set4 | with_reducible apply Blk.set_ | (with_reducible apply Blk.far4 (hne := ?side); case side => (first | omega | (simp; omega) | (simp; done))) | (with_reducible apply Blk.far (hp := ?side); case side => (first | omega | (simp; omega) | (simp; done))) | with_reducible apply Blk.alloc))); (case e => (first | with_reducible rfl | (simp; done) | rfl))), by (repeat (first | with_reducible exact hb1 | with_reducible refine Below.drew ?_ | (with_reducible refine Below.set4 ?_ ?side _ _ _ _; case side => (first | omega | (simp; omega) | (simp; done))) | (with_reducible refine Below.setCell ?_ ?side _; case side => (first | omega | (simp; omega) | (simp; done))) | (with_reducible refine Below.alloc ?_ ?side _; case side => (first | omega | (simp; omega) | (simp; done)))))⟩ ?_
        clear hFH hFC hB2 hB5 hb1 hc1 hc2 HFC2 HRD3 hz1
        rintro w3 ⟨hB2, hB5, hbz⟩
        have hg3 := hB5.lt
        have hvu : v - u = m := by omega
        have hcu : (v : Int) ≤ (c : Int) := by omega
        have huv : (u : Int) ≤ (v : Int) := by omega
        have hbz4 : ∀ o, Below w.heap.size w (w3.alloc o) := fun o => hbz.alloc hbz.size _
        have hml : ((bs.drop u).take m).length = m := by rw [List.length_take, List.length_drop, HN.out]; omega
        have HML := Lib.hid hml
        have HB2 := Lib.hid hB2
        have HB5 := Lib.hid hB5
        have HBZ := Lib.hid hbz
        have HBZ4 := Lib.hid hbz4
        clear hB2 hB5 hbz hbz4 hml
        obtain ⟨tok, htok⟩ : ∃ tok, (bs.drop u).take m = tok := ⟨_, rfl⟩
        have HTOK := Lib.hid htok
        clear htok
        go_upto_region 30 with (at_builtin; refine wpList_appB _ rfl (.tmp 90) (.tmp 96) _ rfl (w.heap.size + 2) 5 Tryz.underlying30 u8_info (some ⟨w3.heap.size, 0, none⟩) 0 0 [] rfl rfl (OwnB.made w3 _ _ hg3) _ m _ ((bs.drop u).take m) rfl HML.out (RdB.mid (HR.out.below (HBZ4.out _)) u m c (by rw [HN.out]; omega) (by rw [HN.out]; exact hc)) tok HTOK.out m (by omega) (by omega) (by simp; omega) ?_; intro T d w5 hO5 hd5 hm5 hb5; have hFH5 := ((HB5.out.alloc (.cells #[] 5)).below hb5 (by omega)).facts6)
        generalize (if c = u then (some (⟨B, off, none⟩ : Addr)) else some ⟨B, off + u, none⟩) = dead
        all_goals
          refine wp_world (fun w' => Blk w' w.heap.size 61 #[.int .i64 0, .int .i64 0, .int .i64 0, .slice none 0 0, .int .i64 0, .int .i64 0] ∧ Blk w' (w.heap.size + 1) 61 #[.int .i64 0, .int .i64 tt, .int .i64 ff, .slice T m d, .int .i64 0, .int .i64 s] ∧ w'.ownsRow (w.heap.size + 2) 5 1 (.slice T m d) m (u8s tok) ∧ Below w.heap.size w w')
            ⟨by (apply Blk.as; (case h => (repeat (first | with_reducible exact (HB2.out.alloc (.cells #[] 5)).below hb5 (by omega) | with_reducible apply Blk.drew | with_reducible apply Blk.set4 | with_reducible apply Blk.set_ | (with_reducible apply Blk.far4 (hne := ?side); case side => (first | omega | (simp; omega) | (simp; done))) | (with_reducible apply Blk.far (hp := ?side); case side => (first | omega | (simp; omega) | (simp; done))) | with_reducible apply Blk.alloc))); (case e => (first | with_reducible rfl | (simp; done) | rfl))), by (apply Blk.as; (case h => (repeat (first | with_reducible exact (HB5.out.alloc (.cells #[] 5)).below hb5 (by omega) | with_reducible apply Blk.drew | with_reducible apply Blk.set4 | with_reducible apply Blk.set_ | (with_reducible apply Blk.far4 (hne := ?side); case side => (first | omega | (simp; omega) | (simp; done))) | (with_reducible apply Blk.far (hp := ?side); case side => (first | omega | (simp; omega) | (simp; done))) | with_reducible apply Blk.alloc))); (case e => (first | with_reducible rfl | (simp; done) | rfl))), ?own9, by (repeat (first | with_reducible exact (HBZ4.out (.cells #[] 5)).trans (hb5.mono (by omega)) | with_reducible refine Below.drew ?_ | (with_reducible refine Below.set4 ?_ ?side _ _ _ _; case side => (first | omega | (simp; omega) | (simp; done))) | (with_reducible refine Below.setCell ?_ ?side _; case side => (first | omega | (simp; omega) | (simp; done))) | (with_reducible refine Below.alloc ?_ ?side _; case side => (first | omega | (simp; omega) | (simp; done)))))⟩ ?_
          case own9 =>
            have h9 : w5.ownsRow (w.heap.size + 2) 5 1 (.slice T m d) m (u8s tok) := by
              have h8 := hO5
              unfold OwnB at h8
              rw [← HTOK.out, HML.out] at h8
              rw [← HTOK.out]; exact h8
            (repeat (first | with_reducible exact h9 | with_reducible refine World.ownsRow.drew ?_ | (with_reducible refine ownsRow_setCell_below ?_ ?side _; case side => (first | omega | (simp; omega) | (simp; done))) | with_reducible refine World.ownsRow.alloc ?_ _))
          clear hFH5 hO5 hb5 HB2 HB5 HBZ HBZ4
          rintro w2 ⟨hB2, hB5, hT9, hbz⟩
          have HTL : Hid (tok.length = m) := by show _ = _; rw [← HTOK.out]; exact HML.out
          have HFN : Hid (∀ e w', HTail bs n 0 tt ff tok v s w e w' → HLong bs n 0 tt ff s ((m : Int), (K : Int), 0) w e w') := fun e w' h => by
            refine Or.inr (Or.inr (Or.inr ⟨rfl, by simpa using hm120, by simp; omega, ?_⟩))
            simp only [Int.toNat_natCast]
            rw [hu, hv, HTOK.out]
            exact h
          have HT := Lib.hid hT9
          have HG2 : Hid (w.heap.size + 2 ≤ w2.heap.size) := hB5.lt
          have HB2 := Lib.hid hB2
          have HB5 := Lib.hid hB5
          have HBZ := Lib.hid hbz
          clear hB2 hB5 hbz hT9 hg3
          have hFC := HB2.out.facts6
          have hFH := HB5.out.facts6
          have hu0 : v + s ≤ 9223372036854775807 := by omega
          by_cases hsh : n < v + s
          · have hti := decide_eq_true (show (n : Int) < ((v : Nat) : Int) + (s : Int) by omega)
            have hbd : ((v : Nat) : Int) + (s : Int) ≤ 9223372036854775807 := by omega
            go_wp2_with fail
            refine bodyPost_ret (v := .tuple #[.agg #[.int .i64 0, .int .i64 0, .int .i64 0, .slice none 0 0, .int .i64 0, .int .i64 0], .int .i64 0, .int .i64 4]) ?_ rfl ?_
            · simp [results, Tryz.results31, go_sem, hFC] <;> rfl
            · refine HFN.out _ _ (Or.inl ⟨hsh, rfl, ?_⟩)
              (repeat (first | with_reducible exact HBZ.out | with_reducible refine Below.drew ?_ | (with_reducible refine Below.set4 ?_ ?side _ _ _ _; case side => (first | omega | (simp; omega) | (simp; done))) | (with_reducible refine Below.setCell ?_ ?side _; case side => (first | omega | (simp; omega) | (simp; done))) | (with_reducible refine Below.alloc ?_ ?side _; case side => (first | omega | (simp; omega) | (simp; done)))))
          · have hcv : ¬ c = v := by omega
            obtain ⟨ms, hms⟩ : ∃ ms, (bs.drop v).take s = ms := ⟨_, rfl⟩
            have hmsl : ms.length = s := by rw [← hms, List.length_take, List.length_drop, HN.out]; omega
            have hcell : ∀ (w' : World), Below w.heap.size w w' → ∀ k, k < s → w'.cell? ⟨B, off + v + k, none⟩ = some (.int .u8 ((ms.getD k 0).toNat : Int)) := by
              intro w' hw' k hk
              obtain ⟨B', off', hA', hc'⟩ := (HR.out.below hw').cell (by have := HN.out; omega)
              injection hA' with hA'
              injection hA' with h1 h2
              subst h1 h2
              have := hc' (v + k) (by have := HN.out; omega)
              rw [← Nat.add_assoc] at this
              rw [this, ← hms]
              simp [List.getD, hk, List.getElem?_drop]
            have HMS := Lib.hid hms
            have HML := Lib.hid hmsl
            have HCELL := Lib.hid hcell
            have hz2 : w.heap.size ≤ w2.heap.size := HBZ.out.size
            have hnu : v + s - v = s := by omega
            have hti := decide_eq_false (show ¬ (n : Int) < ((v : Nat) : Int) + (s : Int) by omega)
            have hbd : ((v : Nat) : Int) + (s : Int) ≤ 9223372036854775807 := by omega
            have hcu : ((v + s : Nat) : Int) ≤ (c : Int) := by omega
            clear hms hmsl hcell
            have HFC := Lib.hid hFC
            clear hFC
            have hcu1 : (if c = v then (some (⟨B, off, none⟩ : Addr)) else some ⟨B, off + v, none⟩) = (if c = v then some ⟨B, off, none⟩ else some ⟨B, off + v, none⟩) := rfl
            go_wp2_with fail
            clear hFH
            go_loopw [118] (fun i wr => ∃ k : Nat, k ≤ s ∧ i = .int .i64 k ∧ Blk wr (w.heap.size + 1) 61 #[.int .i64 0, .int .i64 tt, .int .i64 ff, .slice T m d, .int .i64 (valB (ms.take k) 0 : Nat), .int .i64 s] ∧ Blk wr w.heap.size 61 #[.int .i64 0, .int .i64 0, .int .i64 0, .slice none 0 0, .int .i64 0, .int .i64 0] ∧ Below w.heap.size w wr ∧ wr.ownsRow (w.heap.size + 2) 5 1 (.slice T m d) m (u8s tok) ∧ w.heap.size + 2 ≤ wr.heap.size) (fun i _ => s - (intOf i).toNat)
            case atStart => exact ⟨0, Nat.zero_le _, rfl, HB5.out, HB2.out, HBZ.out, HT.out, HG2.out⟩
            case round =>
              obtain ⟨k, hk, rfl, hB5, hB2, hbz, hT, hg2⟩ := hrel
              have HTT := Lib.hid hT
              clear hT
              have HB5 := Lib.hid hB5
              have HB2 := Lib.hid hB2
              have hFH := hB5.facts6
              clear hB5 hB2
              by_cases hlt : k < s
              · have hck := HCELL.out wr hbz k hlt
                have hv : Hid (valB (ms.take (k + 1)) 0 = valB (ms.take k) 0 * 256 + (ms.getD k 0).toNat) := by
                  show _ = _
                  rw [List.take_succ_eq_append_getElem (by rw [HML.out]; exact hlt), valB_snoc]; simp [List.getD, HML.out, hlt]
                have hvl : valB (ms.take k) 0 < 18014398509481984 := by
                  have h1 := valB_bound (ms.take k)
                  have h2 : 256 ^ (ms.take k).length ≤ 256 ^ 4 := Nat.pow_le_pow_right (by decide) (by rw [List.length_take]; omega)
                  omega
                have hv0 : valB (ms.take k) 0 * 256 < 4611686018427387904 := by omega
                generalize hbk : ms.getD k 0 = bk at *
                generalize hvk : valB (ms.take k) 0 = vk at *
                obtain ⟨vn, hvn⟩ : ∃ vn, valB (ms.take (k + 1)) 0 = vn := ⟨_, rfl⟩
                have h9 : (bk.toNat : Int) < 256 := by have := bk.toNat_lt; omega
                have hor := or_byte vk bk.toNat hvl (by omega)
                have hvn' : Hid (vk * 256 + bk.toNat = vn) := by show _ = _; rw [← hvn]; exact hv.out.symm
                have HVN := Lib.hid hvn
                rw [hvn'.out] at hor
                clear hbk hvk hvn hv
                go_wp2_with fail
                go_roundw
                case rel => exact ⟨k + 1, by omega, by go_num, by rw [HVN.out]; (apply Blk.as; (case h => (repeat (first | with_reducible exact HB5.out | with_reducible apply Blk.drew | with_reducible apply Blk.set4 | with_reducible apply Blk.set_ | (with_reducible apply Blk.far4 (hne := ?side); case side => (first | omega | (simp; omega) | (simp; done))) | (with_reducible apply Blk.far (hp := ?side); case side => (first | omega | (simp; omega) | (simp; done))) | with_reducible apply Blk.alloc))); (case e => (first | with_reducible rfl | (simp; done) | rfl))), by (apply Blk.as; (case h => (repeat (first | with_reducible exact HB2.out | with_reducible apply Blk.drew | with_reducible apply Blk.set4 | with_reducible apply Blk.set_ | (with_reducible apply Blk.far4 (hne := ?side); case side => (first | omega | (simp; omega) | (simp; done))) | (with_reducible apply Blk.far (hp := ?side); case side => (first | omega | (simp; omega) | (simp; done))) | with_reducible apply Blk.alloc))); (case e => (first | with_reducible rfl | (simp; done) | rfl))), by (repeat (first | with_reducible exact hbz | with_reducible refine Below.drew ?_ | (with_reducible refine Below.set4 ?_ ?side _ _ _ _; case side => (first | omega | (simp; omega) | (simp; done))) | (with_reducible refine Below.setCell ?_ ?side _; case side => (first | omega | (simp; omega) | (simp; done))) | (with_reducible refine Below.alloc ?_ ?side _; case side => (first | omega | (simp; omega) | (simp; done))))), by (repeat (first | with_reducible exact HTT.out | with_reducible refine World.ownsRow.drew ?_ | (with_reducible refine ownsRow_setCell_below ?_ ?side _; case side => (first | omega | (simp; omega) | (simp; done))) | with_reducible refine World.ownsRow.alloc ?_ _)), by simp; omega⟩
                case measure => simp [intOf]; omega
              · obtain rfl : k = s := by omega
                have hfin : valB (ms.take k) 0 = valB ((bs.drop v).take k) 0 := by rw [HMS.out, List.take_of_length_le (by rw [HML.out]; exact Nat.le_refl _)]
                have HFIN := Lib.hid hfin
                have hFC := HB2.out.facts6
                have hvk : valB (ms.take k) 0 < 4611686018427387904 := by
                  have h1 := valB_bound (ms.take k)
                  have h2 : 256 ^ (ms.take k).length ≤ 256 ^ 4 := Nat.pow_le_pow_right (by decide) (by rw [List.length_take]; omega)
                  omega
                generalize valB (ms.take k) 0 = vk at *
                clear hfin hlt
                go_wp2_with fail
                go_region
                all_goals
                  go_wp2_with fail
                  refine bodyPost_ret (v := .tuple #[.agg #[.int .i64 0, .int .i64 tt, .int .i64 ff, .slice T m d, .int .i64 vk, .int .i64 k], .int .i64 ((v : Int) + k), .int .i64 0]) ?_ rfl ?_
                  · simp [results, Tryz.results31, go_sem, hFC] <;> rfl
                  · refine HFN.out _ _ (Or.inr ⟨by omega, T, d, ?_, ?_, ?_, ?_, ?_⟩)
                    · simp [hcells, HTL.out, ← HFIN.out]
                    · refine rd_of_own8 (base := w.heap.size + 2) (e := 5) (l := m) (c := d) ?_ (by simp [HTL.out])
                      (repeat (first | with_reducible exact HTT.out | with_reducible refine World.ownsRow.drew ?_ | (with_reducible refine ownsRow_setCell_below ?_ ?side _; case side => (first | omega | (simp; omega) | (simp; done))) | with_reducible refine World.ownsRow.alloc ?_ _))
                    · have := own_cap8 HTT.out; simp only [HTL.out]; exact this.1
                    · exact (own_cap8 HTT.out).2
                    · (repeat (first | with_reducible exact hbz | with_reducible refine Below.drew ?_ | (with_reducible refine Below.set4 ?_ ?side _ _ _ _; case side => (first | omega | (simp; omega) | (simp; done))) | (with_reducible refine Below.setCell ?_ ?side _; case side => (first | omega | (simp; omega) | (simp; done))) | (with_reducible refine Below.alloc ?_ ?side _; case side => (first | omega | (simp; omega) | (simp; done)))))

set_option maxRecDepth 100000 in
set_option maxHeartbeats 4000000 in
theorem hDec_long1_three (A : Option Addr) (bs : List UInt8) (n c : Nat) (w : World) (hn : bs.length = n) (h : RdB w A bs) (hc : n ≤ c) (hm : c ≤ 9223372036854775807) (h3n : n = 3) (h3c : c = 3) (b s : Nat) (hb : (bs.getD 0 0).toNat = b) (h1 : b = 240) (hs : s = 0) :
    Calls Tryz.prog 31 #[.slice A n c] w (HBad w 4) := by
  obtain ⟨B, off, rfl, hcell⟩ := h.cell (by omega)
  have hc0 := hcell 0 (by omega)
  have hc1 := hcell 1 (by omega)
  have hc2 := hcell 2 (by omega)
  obtain ⟨tt, htt⟩ : ∃ tt, (bs.getD 1 0).toNat = tt := ⟨_, rfl⟩
  have ht256 : tt < 256 := by have := (bs.getD 1 0).toNat_lt; omega
  obtain ⟨ff, hff⟩ : ∃ ff, (bs.getD 2 0).toNat = ff := ⟨_, rfl⟩
  have hf256 : ff < 256 := by have := (bs.getD 2 0).toNat_lt; omega
  rw [htt] at hc1
  rw [hff] at hc2
  rw [hb] at hc0
  have hb256 : b < 256 := by have := (bs.getD 0 0).toNat_lt; omega
  simp only [Nat.add_zero] at hc0
  have HS0 := Lib.hid hs
  have hs4 : s ≤ 4 := by omega
  clear hs
  have e2 : ((240 : Nat) : Int) = 240 := rfl
  subst h1
  rw [e2] at hc0
  have e3 : bits .andNot .u8 240 3 = 240 := by kernel_rfl
  have hg := World.block_lt_of_cell? w _ hc0
  have HR := Lib.hid h
  have HN := Lib.hid hn
  clear hcell h hn hb
  go_enter Tryz.func31, Tryz.ntmps31
  go_upto_region 12 with (fail)
  refine wp_world (fun w' => Blk w' w.heap.size 61 #[.int .i64 0, .int .i64 0, .int .i64 0, .slice none 0 0, .int .i64 0, .int .i64 0] ∧ Blk w' (w.heap.size + 1) 61 #[.int .i64 1, .int .i64 0, .int .i64 0, .slice none 0 0, .int .i64 0, .int .i64 s] ∧ w'.cell? ⟨B, off + 1, none⟩ = some (.int .u8 tt) ∧ w'.cell? ⟨B, off + 2, none⟩ = some (.int .u8 ff) ∧ Below w.heap.size w w')
    ⟨(Blk.new _ _ _).alloc _, (Blk.new1 _ _ _ _).as (by rw [HS0.out]; rfl), by go_simp, by go_simp, ((Below.refl _ _).alloc (Nat.le_refl _) _).alloc (by simp) _⟩ ?_
  clear hc0 e2 e3 hc1 hc2
  rintro w1 ⟨hB2, hB5, hc1, hc2, hb1⟩
  have hFH := hB5.facts6
  have hFC := hB2.facts6
  have hz1 := hb1.size
  subst h3n
  subst h3c
  go_wp2_with fail
  refine (dec_nil _ _ _).mono ?_
  rintro e w2 ⟨rfl, rfl⟩
  have hB2' : Blk ((w1.setCell ⟨w.heap.size + 1, 1, none⟩ (.int .i64 tt)).setCell ⟨w.heap.size + 1, 2, none⟩ (.int .i64 ff)) w.heap.size 61 #[.int .i64 0, .int .i64 0, .int .i64 0, .slice none 0 0, .int .i64 0, .int .i64 0] := by (apply Blk.as; (case h => (repeat (first | with_reducible exact hB2 | with_reducible apply Blk.drew | with_reducible apply Blk.set4 | with_reducible apply Blk.set_ | (with_reducible apply Blk.far4 (hne := ?side); case side => (first | omega | (simp; omega) | (simp; done))) | (with_reducible apply Blk.far (hp := ?side); case side => (first | omega | (simp; omega) | (simp; done))) | with_reducible apply Blk.alloc))); (case e => (first | with_reducible rfl | (simp; done) | rfl)))
  have hFC2 := hB2'.facts6
  go_wp2_with fail
  refine bodyPost_ret (v := .tuple #[.agg #[.int .i64 0, .int .i64 0, .int .i64 0, .slice none 0 0, .int .i64 0, .int .i64 0], .int .i64 0, .int .i64 4]) ?_ rfl ⟨rfl, ?_⟩
  · simp [results, Tryz.results31, go_sem, hFC2] <;> rfl
  · (repeat (first | with_reducible exact hb1 | with_reducible refine Below.drew ?_ | (with_reducible refine Below.set4 ?_ ?side _ _ _ _; case side => (first | omega | (simp; omega) | (simp; done))) | (with_reducible refine Below.setCell ?_ ?side _; case side => (first | omega | (simp; omega) | (simp; done))) | (with_reducible refine Below.alloc ?_ ?side _; case side => (first | omega | (simp; omega) | (simp; done)))))

set_option maxRecDepth 100000 in
set_option maxHeartbeats 4000000 in
theorem hDec_long1 (A : Option Addr) (bs : List UInt8) (n c : Nat) (w : World) (hn : bs.length = n) (h : RdB w A bs) (hc : n ≤ c) (hm : c ≤ 9223372036854775807) (h3n : 3 ≤ n) (h3c : ¬ c = 3) (r : Int × Int × Int) (hr : decR (bs.drop 3) = r) (b s : Nat) (hb : (bs.getD 0 0).toNat = b) (h1 : b = 240) (hs : s = 0) :
    Calls Tryz.prog 31 #[.slice A n c] w (HLong bs n 1 (bs.getD 1 0).toNat (bs.getD 2 0).toNat s r w) := by
  obtain ⟨B, off, rfl, hcell⟩ := h.cell (by omega)
  have hcs := decR_cases (bs.drop 3)
  rw [hr] at hcs
  have hc0 := hcell 0 (by omega)
  have hc1 := hcell 1 (by omega)
  have hc2 := hcell 2 (by omega)
  obtain ⟨tt, htt⟩ : ∃ tt, (bs.getD 1 0).toNat = tt := ⟨_, rfl⟩
  have ht256 : tt < 256 := by have := (bs.getD 1 0).toNat_lt; omega
  obtain ⟨ff, hff⟩ : ∃ ff, (bs.getD 2 0).toNat = ff := ⟨_, rfl⟩
  have hf256 : ff < 256 := by have := (bs.getD 2 0).toNat_lt; omega
  rw [htt] at hc1
  rw [hff] at hc2
  rw [htt, hff]
  rw [hb] at hc0
  have hb256 : b < 256 := by have := (bs.getD 0 0).toNat_lt; omega
  simp only [Nat.add_zero] at hc0
  have HS0 := Lib.hid hs
  have hs4 : s ≤ 4 := by omega
  clear hs
  have e2 : ((240 : Nat) : Int) = 240 := rfl
  subst h1
  rw [e2] at hc0
  have e3 : bits .andNot .u8 240 3 = 240 := by kernel_rfl
  have hg := World.block_lt_of_cell? w _ hc0
  have HR := Lib.hid h
  have HN := Lib.hid hn
  clear hcell h hn hb
  go_enter Tryz.func31, Tryz.ntmps31
  go_upto_region 12 with (fail)
  refine wp_world (fun w' => Blk w' w.heap.size 61 #[.int .i64 0, .int .i64 0, .int .i64 0, .slice none 0 0, .int .i64 0, .int .i64 0] ∧ Blk w' (w.heap.size + 1) 61 #[.int .i64 1, .int .i64 0, .int .i64 0, .slice none 0 0, .int .i64 0, .int .i64 s] ∧ w'.cell? ⟨B, off + 1, none⟩ = some (.int .u8 tt) ∧ w'.cell? ⟨B, off + 2, none⟩ = some (.int .u8 ff) ∧ Below w.heap.size w w')
    ⟨(Blk.new _ _ _).alloc _, (Blk.new1 _ _ _ _).as (by rw [HS0.out]; rfl), by go_simp, by go_simp, ((Below.refl _ _).alloc (Nat.le_refl _) _).alloc (by simp) _⟩ ?_
  clear hc0 e2 e3 hc1 hc2
  rintro w1 ⟨hB2, hB5, hc1, hc2, hb1⟩
  have hFH := hB5.facts6
  have hFC := hB2.facts6
  have hz1 := hb1.size
  have hdl : (bs.drop 3).length = n - 3 := by rw [List.length_drop, HN.out]
  have hrd3 : ∀ (w' : World), Below w.heap.size w w' → RdB w' (some ⟨B, off + 3, none⟩) (bs.drop 3) := fun w' hw' => by
    have := (HR.out.below hw').cut (k := 3) (cap := c) (by rw [HN.out]; exact h3n) (by rw [HN.out]; exact hc)
    rw [if_neg h3c] at this
    simpa [add_none] using this
  have HRD3 := Lib.hid hrd3
  have HCS := Lib.hid hcs
  have HRR := Lib.hid hr
  have HDL := Lib.hid hdl
  clear hrd3 hcs hr hdl
  have hBs : ∀ u v, Blk ((w1.setCell ⟨w.heap.size + 1, 1, none⟩ u).setCell ⟨w.heap.size + 1, 2, none⟩ v) w.heap.size 61 #[.int .i64 0, .int .i64 0, .int .i64 0, .slice none 0 0, .int .i64 0, .int .i64 0] := fun u v => by (apply Blk.as; (case h => (repeat (first | with_reducible exact hB2 | with_reducible apply Blk.drew | with_reducible apply Blk.set4 | with_reducible apply Blk.set_ | (with_reducible apply Blk.far4 (hne := ?side); case side => (first | omega | (simp; omega) | (simp; done))) | (with_reducible apply Blk.far (hp := ?side); case side => (first | omega | (simp; omega) | (simp; done))) | with_reducible apply Blk.alloc))); (case e => (first | with_reducible rfl | (simp; done) | rfl)))
  have hFC2 := fun u v => (hBs u v).facts6
  clear hBs
  have HFC2 := Lib.hid hFC2
  clear hFC2
  go_wp2_with fail
  refine (decode_n (some ⟨B, off + 3, none⟩) (bs.drop 3) (n - 3) _ _ HDL.out (HRD3.out _ (by (repeat (first | with_reducible exact hb1 | with_reducible refine Below.drew ?_ | (with_reducible refine Below.set4 ?_ ?side _ _ _ _; case side => (first | omega | (simp; omega) | (simp; done))) | (with_reducible refine Below.setCell ?_ ?side _; case side => (first | omega | (simp; omega) | (simp; done))) | (with_reducible refine Below.alloc ?_ ?side _; case side => (first | omega | (simp; omega) | (simp; done))))))) (by omega) (by omega) r HRR.out).mono ?_
  rintro e w' ⟨rfl, rfl⟩
  rcases HCS.out with ⟨hrv, _⟩ | ⟨m, K, hrv, hK1, hmd, hK2, hK3, hm9⟩
  · subst hrv
    have hFC2 := HFC2.out (.int .i64 tt) (.int .i64 ff)
    go_wp2_with fail
    refine bodyPost_ret (v := .tuple #[.agg #[.int .i64 0, .int .i64 0, .int .i64 0, .slice none 0 0, .int .i64 0, .int .i64 0], .int .i64 0, .int .i64 4]) ?_ rfl (show HLong _ _ _ _ _ _ _ _ _ _ from Or.inl ⟨by simp, rfl, ?_⟩)
    · simp [results, Tryz.results31, go_sem, hFC2] <;> rfl
    · (repeat (first | with_reducible exact hb1 | with_reducible refine Below.drew ?_ | (with_reducible refine Below.set4 ?_ ?side _ _ _ _; case side => (first | omega | (simp; omega) | (simp; done))) | (with_reducible refine Below.setCell ?_ ?side _; case side => (first | omega | (simp; omega) | (simp; done))) | (with_reducible refine Below.alloc ?_ ?side _; case side => (first | omega | (simp; omega) | (simp; done)))))
  · have hms := (dec_size _ m K hK1 hm9).1
    have hK8 : K ≤ 8 := by have := decLen_cases (bs.drop 3); omega
    rw [HDL.out] at hK2
    subst hrv
    clear hm9 HCS hK1 hmd
    by_cases hm120 : 120 < m
    · have hmi : (120 : Int) < (m : Int) := by omega
      have hFC2 := HFC2.out (.int .i64 tt) (.int .i64 ff)
      go_wp2_with fail
      refine bodyPost_ret (v := .tuple #[.agg #[.int .i64 0, .int .i64 0, .int .i64 0, .slice none 0 0, .int .i64 0, .int .i64 0], .int .i64 0, .int .i64 1]) ?_ rfl (show HLong _ _ _ _ _ _ _ _ _ _ from Or.inr (Or.inl ⟨by simp, by simpa using hm120, rfl, ?_⟩))
      · simp [results, Tryz.results31, go_sem, hFC2] <;> rfl
      · (repeat (first | with_reducible exact hb1 | with_reducible refine Below.drew ?_ | (with_reducible refine Below.set4 ?_ ?side _ _ _ _; case side => (first | omega | (simp; omega) | (simp; done))) | (with_reducible refine Below.setCell ?_ ?side _; case side => (first | omega | (simp; omega) | (simp; done))) | (with_reducible refine Below.alloc ?_ ?side _; case side => (first | omega | (simp; omega) | (simp; done)))))
    · have hmi : (m : Int) ≤ 120 := by omega
      obtain ⟨u, hu⟩ : ∃ u, 3 + K = u := ⟨_, rfl⟩
      obtain ⟨v, hv⟩ : ∃ v, u + m = v := ⟨_, rfl⟩
      have hui : (3 : Int) + (K : Int) = (u : Int) := by omega
      have hvi : (u : Int) + (m : Int) = (v : Int) := by omega
      have hu11 : u ≤ 11 := by omega
      by_cases hnv : n < v
      · have hFC2 := HFC2.out (.int .i64 tt) (.int .i64 ff)
        have hnvi : (n : Int) < (v : Int) := by omega
        go_wp2_with fail
        refine bodyPost_ret (v := .tuple #[.agg #[.int .i64 0, .int .i64 0, .int .i64 0, .slice none 0 0, .int .i64 0, .int .i64 0], .int .i64 0, .int .i64 4]) ?_ rfl (show HLong _ _ _ _ _ _ _ _ _ _ from Or.inr (Or.inr (Or.inl ⟨by simp, by simpa using hm120, by simp; omega, rfl, ?_⟩)))
        · simp [results, Tryz.results31, go_sem, hFC2] <;> rfl
        · (repeat (first | with_reducible exact hb1 | with_reducible refine Below.drew ?_ | (with_reducible refine Below.set4 ?_ ?side _ _ _ _; case side => (first | omega | (simp; omega) | (simp; done))) | (with_reducible refine Below.setCell ?_ ?side _; case side => (first | omega | (simp; omega) | (simp; done))) | (with_reducible refine Below.alloc ?_ ?side _; case side => (first | omega | (simp; omega) | (simp; done)))))
      · have hnvi : ¬ (n : Int) < (v : Int) := by omega
        go_upto_region 28 with (fail)
        refine wp_world (fun w' => Blk w' w.heap.size 61 #[.int .i64 0, .int .i64 0, .int .i64 0, .slice none 0 0, .int .i64 0, .int .i64 0] ∧ Blk w' (w.heap.size + 1) 61 #[.int .i64 1, .int .i64 tt, .int .i64 ff, .slice none 0 0, .int .i64 0, .int .i64 s] ∧ Below w.heap.size w w')
          ⟨by (apply Blk.as; (case h => (repeat (first | with_reducible exact hB2 | with_reducible apply Blk.drew | with_reducible apply Blk.set4 | with_reducible apply Blk.set_ | (with_reducible apply Blk.far4 (hne := ?side); case side => (first | omega | (simp; omega) | (simp; done))) | (with_reducible apply Blk.far (hp := ?side); case side => (first | omega | (simp; omega) | (simp; done))) | with_reducible apply Blk.alloc))); (case e => (first | with_reducible rfl | (simp; done) | rfl))), by (apply Blk.as; (case h => (repeat (first | with_reducible exact hB5 | with_reducible apply Blk.drew | with_reducible apply Blk.set4 | with_reducible apply Blk.set_ | (with_reducible apply Blk.far4 (hne := ?side); case side => (first | omega | (simp; omega) | (simp; done))) | (with_reducible apply Blk.far (hp := ?side); case side => (first | omega | (simp; omega) | (simp; done))) | with_reducible apply Blk.alloc))); (case e => (first | with_reducible rfl | (simp; done) | rfl))), by (repeat (first | with_reducible exact hb1 | with_reducible refine Below.drew ?_ | (with_reducible refine Below.set4 ?_ ?side _ _ _ _; case side => (first | omega | (simp; omega) | (simp; done))) | (with_reducible refine Below.setCell ?_ ?side _; case side => (first | omega | (simp; omega) | (simp; done))) | (with_reducible refine Below.alloc ?_ ?side _; case side => (first | omega | (simp; omega) | (simp; done)))))⟩ ?_
        clear hFH hFC hB2 hB5 hb1 hc1 hc2 HFC2 HRD3 hz1
        rintro w3 ⟨hB2, hB5, hbz⟩
        have hg3 := hB5.lt
        have hvu : v - u = m := by omega
        have hcu : (v : Int) ≤ (c : Int) := by omega
        have huv : (u : Int) ≤ (v : Int) := by omega
        have hbz4 : ∀ o, Below w.heap.size w (w3.alloc o) := fun o => hbz.alloc hbz.size _
        have hml : ((bs.drop u).take m).length = m := by rw [List.length_take, List.length_drop, HN.out]; omega
        have HML := Lib.hid hml
        have HB2 := Lib.hid hB2
        have HB5 := Lib.hid hB5
        have HBZ := Lib.hid hbz
        have HBZ4 := Lib.hid hbz4
        clear hB2 hB5 hbz hbz4 hml
        obtain ⟨tok, htok⟩ : ∃ tok, (bs.drop u).take m = tok := ⟨_, rfl⟩
        have HTOK := Lib.hid htok
        clear htok
        go_upto_region 30 with (at_builtin; refine wpList_appB _ rfl (.tmp 90) (.tmp 96) _ rfl (w.heap.size + 2) 5 Tryz.underlying30 u8_info (some ⟨w3.heap.size, 0, none⟩) 0 0 [] rfl rfl (OwnB.made w3 _ _ hg3) _ m _ ((bs.drop u).take m) rfl HML.out (RdB.mid (HR.out.below (HBZ4.out _)) u m c (by rw [HN.out]; omega) (by rw [HN.out]; exact hc)) tok HTOK.out m (by omega) (by omega) (by simp; omega) ?_; intro T d w5 hO5 hd5 hm5 hb5; have hFH5 := ((HB5.out.alloc (.cells #[] 5)).below hb5 (by omega)).facts6)
        generalize (if c = u then (some (⟨B, off, none⟩ : Addr)) else some ⟨B, off + u, none⟩) = dead
        all_goals
          refine wp_world (fun w' => Blk w' w.heap.size 61 #[.int .i64 0, .int .i64 0, .int .i64 0, .slice none 0 0, .int .i64 0, .int .i64 0] ∧ Blk w' (w.heap.size + 1) 61 #[.int .i64 1, .int .i64 tt, .int .i64 ff, .slice T m d, .int .i64 0, .int .i64 s] ∧ w'.ownsRow (w.heap.size + 2) 5 1 (.slice T m d) m (u8s tok) ∧ Below w.heap.size w w')
            ⟨by (apply Blk.as; (case h => (repeat (first | with_reducible exact (HB2.out.alloc (.cells #[] 5)).below hb5 (by omega) | with_reducible apply Blk.drew | with_reducible apply Blk.set4 | with_reducible apply Blk.set_ | (with_reducible apply Blk.far4 (hne := ?side); case side => (first | omega | (simp; omega) | (simp; done))) | (with_reducible apply Blk.far (hp := ?side); case side => (first | omega | (simp; omega) | (simp; done))) | with_reducible apply Blk.alloc))); (case e => (first | with_reducible rfl | (simp; done) | rfl))), by (apply Blk.as; (case h => (repeat (first | with_reducible exact (HB5.out.alloc (.cells #[] 5)).below hb5 (by omega) | with_reducible apply Blk.drew | with_reducible apply Blk.set4 | with_reducible apply Blk.set_ | (with_reducible apply Blk.far4 (hne := ?side); case side => (first | omega | (simp; omega) | (simp; done))) | (with_reducible apply Blk.far (hp := ?side); case side => (first | omega | (simp; omega) | (simp; done))) | with_reducible apply Blk.alloc))); (case e => (first | with_reducible rfl | (simp; done) | rfl))), ?own9, by (repeat (first | with_reducible exact (HBZ4.out (.cells #[] 5)).trans (hb5.mono (by omega)) | with_reducible refine Below.drew ?_ | (with_reducible refine Below.set4 ?_ ?side _ _ _ _; case side => (first | omega | (simp; omega) | (simp; done))) | (with_reducible refine Below.setCell ?_ ?side _; case side => (first | omega | (simp; omega) | (simp; done))) | (with_reducible refine Below.alloc ?_ ?side _; case side => (first | omega | (simp; omega) | (simp; done)))))⟩ ?_
          case own9 =>
            have h9 : w5.ownsRow (w.heap.size + 2) 5 1 (.slice T m d) m (u8s tok) := by
              have h8 := hO5
              unfold OwnB at h8
              rw [← HTOK.out, HML.out] at h8
              rw [← HTOK.out]; exact h8
            (repeat (first | with_reducible exact h9 | with_reducible refine World.ownsRow.drew ?_ | (with_reducible refine ownsRow_setCell_below ?_ ?side _; case side => (first | omega | (simp; omega) | (simp; done))) | with_reducible refine World.ownsRow.alloc ?_ _))
          clear hFH5 hO5 hb5 HB2 HB5 HBZ HBZ4
          rintro w2 ⟨hB2, hB5, hT9, hbz⟩
          have HTL : Hid (tok.length = m) := by show _ = _; rw [← HTOK.out]; exact HML.out
          have HFN : Hid (∀ e w', HTail bs n 1 tt ff tok v s w e w' → HLong bs n 1 tt ff s ((m : Int), (K : Int), 0) w e w') := fun e w' h => by
            refine Or.inr (Or.inr (Or.inr ⟨rfl, by simpa using hm120, by simp; omega, ?_⟩))
            simp only [Int.toNat_natCast]
            rw [hu, hv, HTOK.out]
            exact h
          have HT := Lib.hid hT9
          have HG2 : Hid (w.heap.size + 2 ≤ w2.heap.size) := hB5.lt
          have HB2 := Lib.hid hB2
          have HB5 := Lib.hid hB5
          have HBZ := Lib.hid hbz
          clear hB2 hB5 hbz hT9 hg3
          have hFC := HB2.out.facts6
          have hFH := HB5.out.facts6
          have hu0 : v + s ≤ 9223372036854775807 := by omega
          by_cases hsh : n < v + s
          · have hti := decide_eq_true (show (n : Int) < ((v : Nat) : Int) + (s : Int) by omega)
            have hbd : ((v : Nat) : Int) + (s : Int) ≤ 9223372036854775807 := by omega
            go_wp2_with fail
            refine bodyPost_ret (v := .tuple #[.agg #[.int .i64 0, .int .i64 0, .int .i64 0, .slice none 0 0, .int .i64 0, .int .i64 0], .int .i64 0, .int .i64 4]) ?_ rfl ?_
            · simp [results, Tryz.results31, go_sem, hFC] <;> rfl
            · refine HFN.out _ _ (Or.inl ⟨hsh, rfl, ?_⟩)
              (repeat (first | with_reducible exact HBZ.out | with_reducible refine Below.drew ?_ | (with_reducible refine Below.set4 ?_ ?side _ _ _ _; case side => (first | omega | (simp; omega) | (simp; done))) | (with_reducible refine Below.setCell ?_ ?side _; case side => (first | omega | (simp; omega) | (simp; done))) | (with_reducible refine Below.alloc ?_ ?side _; case side => (first | omega | (simp; omega) | (simp; done)))))
          · rcases Nat.decEq c v with hcv | hcv
            all_goals
              obtain ⟨ms, hms⟩ : ∃ ms, (bs.drop v).take s = ms := ⟨_, rfl⟩
              have hmsl : ms.length = s := by rw [← hms, List.length_take, List.length_drop, HN.out]; omega
              have hcell : ∀ (w' : World), Below w.heap.size w w' → ∀ k, k < s → w'.cell? ⟨B, off + v + k, none⟩ = some (.int .u8 ((ms.getD k 0).toNat : Int)) := by
                intro w' hw' k hk
                obtain ⟨B', off', hA', hc'⟩ := (HR.out.below hw').cell (by have := HN.out; omega)
                injection hA' with hA'
                injection hA' with h1 h2
                subst h1 h2
                have := hc' (v + k) (by have := HN.out; omega)
                rw [← Nat.add_assoc] at this
                rw [this, ← hms]
                simp [List.getD, hk, List.getElem?_drop]
              have HMS := Lib.hid hms
              have HML := Lib.hid hmsl
              have HCELL := Lib.hid hcell
              have hz2 : w.heap.size ≤ w2.heap.size := HBZ.out.size
              have hnu : v + s - v = s := by omega
              have hti := decide_eq_false (show ¬ (n : Int) < ((v : Nat) : Int) + (s : Int) by omega)
              have hbd : ((v : Nat) : Int) + (s : Int) ≤ 9223372036854775807 := by omega
              have hcu : ((v + s : Nat) : Int) ≤ (c : Int) := by omega
              clear hms hmsl hcell
              have HFC := Lib.hid hFC
              clear hFC
              have hcu1 : (if c = v then (some (⟨B, off, none⟩ : Addr)) else some ⟨B, off + v, none⟩) = (if c = v then some ⟨B, off, none⟩ else some ⟨B, off + v, none⟩) := rfl
              go_wp2_with fail
              clear hFH
              go_loopw [118] (fun i wr => ∃ k : Nat, k ≤ s ∧ i = .int .i64 k ∧ Blk wr (w.heap.size + 1) 61 #[.int .i64 1, .int .i64 tt, .int .i64 ff, .slice T m d, .int .i64 (valB (ms.take k) 0 : Nat), .int .i64 s] ∧ Blk wr w.heap.size 61 #[.int .i64 0, .int .i64 0, .int .i64 0, .slice none 0 0, .int .i64 0, .int .i64 0] ∧ Below w.heap.size w wr ∧ wr.ownsRow (w.heap.size + 2) 5 1 (.slice T m d) m (u8s tok) ∧ w.heap.size + 2 ≤ wr.heap.size) (fun i _ => s - (intOf i).toNat)
              case atStart => exact ⟨0, Nat.zero_le _, rfl, HB5.out, HB2.out, HBZ.out, HT.out, HG2.out⟩
              case round =>
                obtain ⟨k, hk, rfl, hB5, hB2, hbz, hT, hg2⟩ := hrel
                have HTT := Lib.hid hT
                clear hT
                have HB5 := Lib.hid hB5
                have HB2 := Lib.hid hB2
                have hFH := hB5.facts6
                clear hB5 hB2
                by_cases hlt : k < s
                · exact absurd hlt (by have := HS0.out; omega)
                · obtain rfl : k = s := by omega
                  have hfin : valB (ms.take k) 0 = valB ((bs.drop v).take k) 0 := by rw [HMS.out, List.take_of_length_le (by rw [HML.out]; exact Nat.le_refl _)]
                  have HFIN := Lib.hid hfin
                  have hFC := HB2.out.facts6
                  have hvk : valB (ms.take k) 0 < 4611686018427387904 := by
                    have h1 := valB_bound (ms.take k)
                    have h2 : 256 ^ (ms.take k).length ≤ 256 ^ 4 := Nat.pow_le_pow_right (by decide) (by rw [List.length_take]; omega)
                    omega
                  generalize valB (ms.take k) 0 = vk at *
                  clear hfin hlt
                  go_wp2_with fail
                  go_region
                  all_goals
                    go_wp2_with fail
                    refine bodyPost_ret (v := .tuple #[.agg #[.int .i64 1, .int .i64 tt, .int .i64 ff, .slice T m d, .int .i64 vk, .int .i64 k], .int .i64 ((v : Int) + k), .int .i64 0]) ?_ rfl ?_
                    · simp [results, Tryz.results31, go_sem, hFC] <;> rfl
                    · refine HFN.out _ _ (Or.inr ⟨by omega, T, d, ?_, ?_, ?_, ?_, ?_⟩)
                      · simp [hcells, HTL.out, ← HFIN.out]
                      · refine rd_of_own8 (base := w.heap.size + 2) (e := 5) (l := m) (c := d) ?_ (by simp [HTL.out])
                        (repeat (first | with_reducible exact HTT.out | with_reducible refine World.ownsRow.drew ?_ | (with_reducible refine ownsRow_setCell_below ?_ ?side _; case side => (first | omega | (simp; omega) | (simp; done))) | with_reducible refine World.ownsRow.alloc ?_ _))
                      · have := own_cap8 HTT.out; simp only [HTL.out]; exact this.1
                      · exact (own_cap8 HTT.out).2
                      · (repeat (first | with_reducible exact hbz | with_reducible refine Below.drew ?_ | (with_reducible refine Below.set4 ?_ ?side _ _ _ _; case side => (first | omega | (simp; omega) | (simp; done))) | (with_reducible refine Below.setCell ?_ ?side _; case side => (first | omega | (simp; omega) | (simp; done))) | (with_reducible refine Below.alloc ?_ ?side _; case side => (first | omega | (simp; omega) | (simp; done)))))

end Go.Proofs.YtbcagdjfegobnaaGreat
