/- The contract of head.Decode. -/
import Derived.Test.YtenlgfeldkfmiaaHeadEncWalk
namespace Go.Proofs.Ytenlgfeldkfmiaa
open Go.ChangeShapes Go.WideShapes Go.ChangeAt Go.RowKit
set_option linter.unusedVariables false

theorem andNot3 (c : Nat) (h : c < 256) : bits .andNot .u8 (c : Int) 3 = ((c / 4 * 4 : Nat) : Int) := by
  have key : ∀ c : Fin 256, (bits .andNot .u8 ((c.val : Nat) : Int) 3 == ((c.val / 4 * 4 : Nat) : Int)) = true := of_decide_eq_true (by kernel_rfl)
  simpa using key ⟨c, h⟩

theorem and3 (c : Nat) (h : c < 256) : bits .and .u8 (c : Int) 3 = ((c % 4 : Nat) : Int) := by
  have key : ∀ c : Fin 256, (bits .and .u8 ((c.val : Nat) : Int) 3 == ((c.val % 4 : Nat) : Int)) = true := of_decide_eq_true (by kernel_rfl)
  simpa using key ⟨c, h⟩

/-- What Decode answers where something is wrong. -/
def HBad (w : World) (E : Int) (e : Ending) (w' : World) : Prop := e = .returned (.tuple #[.agg #[.int .i64 0, .int .i64 0, .int .i64 0, .slice none 0 0, .int .i64 0, .int .i64 0], .int .i64 0, .int .i64 E]) ∧ Below w.heap.size w w'

set_option maxRecDepth 100000 in
theorem hDec_nil (A : Option Addr) (c : Nat) (w : World) :
    Calls Try.prog 11 #[.slice A 0 c] w (HBad w 4) := by
  have hC : Blk (w.alloc (.cells #[.int .i64 0, .int .i64 0, .int .i64 0, .slice none 0 0, .int .i64 0, .int .i64 0] 26)) w.heap.size 26 #[.int .i64 0, .int .i64 0, .int .i64 0, .slice none 0 0, .int .i64 0, .int .i64 0] := Blk.new _ _ _
  have hbz : Below w.heap.size w (w.alloc (.cells #[.int .i64 0, .int .i64 0, .int .i64 0, .slice none 0 0, .int .i64 0, .int .i64 0] 26)) := (Below.refl _ _).alloc (Nat.le_refl _) _
  have FC := hC.facts6
  go_enter Try.func11, Try.ntmps11
  go_wp2_with fail
  refine bodyPost_ret (v := .tuple #[.agg #[.int .i64 0, .int .i64 0, .int .i64 0, .slice none 0 0, .int .i64 0, .int .i64 0], .int .i64 0, .int .i64 4]) ?_ rfl ⟨rfl, ?_⟩
  · simp [results, Try.results11, go_sem, FC] <;> rfl
  · (repeat (first | with_reducible exact hbz | with_reducible refine Below.drew ?_ | (with_reducible refine Below.set4 ?_ ?side _ _ _ _; case side => (first | omega | (simp; omega) | (simp; done))) | (with_reducible refine Below.setCell ?_ ?side _; case side => (first | omega | (simp; omega) | (simp; done))) | (with_reducible refine Below.alloc ?_ ?side _; case side => (first | omega | (simp; omega) | (simp; done)))))

set_option maxRecDepth 100000 in
set_option maxHeartbeats 1000000 in
theorem hDec_none (A : Option Addr) (bs : List UInt8) (n c : Nat) (w : World) (hn : bs.length = n) (h : RdB w A bs) (hc : n ≤ c) (hm : c ≤ 9223372036854775807) (h0 : 1 ≤ n) (b : Nat) (hb : (bs.getD 0 0).toNat = b) (h1 : b / 4 ≠ 16) (h2 : b / 4 ≠ 48) (h3 : b ≠ 240) :
    Calls Try.prog 11 #[.slice A n c] w (HBad w 2) := by
  obtain ⟨B, off, rfl, hcell⟩ := h.cell (by omega)
  have hc0 := hcell 0 (by omega)
  rw [hb] at hc0
  have hb256 : b < 256 := by have := (bs.getD 0 0).toNat_lt; omega
  simp only [Nat.add_zero] at hc0
  obtain ⟨x, hx⟩ : ∃ x, bits .andNot .u8 (b : Int) 3 = x := ⟨_, rfl⟩
  have hxv := andNot3 b hb256
  rw [hx] at hxv
  have e1 : (x == 64) = false := by rw [hxv]; simp; omega
  have e2 : (x == 192) = false := by rw [hxv]; simp; omega
  have e3 : ((b : Int) == 240) = false := by simp; omega
  have hg := World.block_lt_of_cell? w _ hc0
  clear hxv hcell h hn hb
  have hC : Blk ((w.alloc (.cells #[.int .i64 0, .int .i64 0, .int .i64 0, .slice none 0 0, .int .i64 0, .int .i64 0] 26)).alloc (.cells #[.int .i64 0, .int .i64 0, .int .i64 0, .slice none 0 0, .int .i64 0, .int .i64 0] 26)) w.heap.size 26 #[.int .i64 0, .int .i64 0, .int .i64 0, .slice none 0 0, .int .i64 0, .int .i64 0] := (Blk.new _ _ _).alloc _
  have hbz : Below w.heap.size w ((w.alloc (.cells #[.int .i64 0, .int .i64 0, .int .i64 0, .slice none 0 0, .int .i64 0, .int .i64 0] 26)).alloc (.cells #[.int .i64 0, .int .i64 0, .int .i64 0, .slice none 0 0, .int .i64 0, .int .i64 0] 26)) := ((Below.refl _ _).alloc (Nat.le_refl _) _).alloc (by simp) _
  have FC := hC.facts6
  go_enter Try.func11, Try.ntmps11
  go_wp2_with fail
  refine bodyPost_ret (v := .tuple #[.agg #[.int .i64 0, .int .i64 0, .int .i64 0, .slice none 0 0, .int .i64 0, .int .i64 0], .int .i64 0, .int .i64 2]) ?_ rfl ⟨rfl, ?_⟩
  · simp [results, Try.results11, go_sem, FC] <;> rfl
  · (repeat (first | with_reducible exact hbz | with_reducible refine Below.drew ?_ | (with_reducible refine Below.set4 ?_ ?side _ _ _ _; case side => (first | omega | (simp; omega) | (simp; done))) | (with_reducible refine Below.setCell ?_ ?side _; case side => (first | omega | (simp; omega) | (simp; done))) | (with_reducible refine Below.alloc ?_ ?side _; case side => (first | omega | (simp; omega) | (simp; done)))))
/-- What Decode answers where a head was read. -/
def HGood (w : World) (H : HeadD) (u : Nat) (e : Ending) (w' : World) : Prop := ∃ T d, e = .returned (.tuple #[.agg (hcells H T d), .int .i64 u, .int .i64 0]) ∧ RdB w' T H.tok ∧ H.tok.length ≤ d ∧ d ≤ 9223372036854775807 ∧ Below w.heap.size w w'
def HTail (bs : List UInt8) (n k tt f : Nat) (t : List UInt8) (u s : Nat) (w : World) (e : Ending) (w' : World) : Prop :=
  (n < u + s ∧ HBad w 4 e w') ∨ (u + s ≤ n ∧ HGood w ⟨k, tt, f, t, valB ((bs.drop u).take s) 0, s⟩ (u + s) e w')

theorem rd_of_own8 {w : World} {base : Nat} {e : TypeId} {A : Option Addr} {l c : Nat} {bs : List UInt8} (h : w.ownsRow base e 1 (.slice A l c) l (u8s bs)) (hl : bs.length = l) : RdB w A bs := by
  subst hl; exact RdB.of_own h
theorem own_cap8 {w : World} {base : Nat} {e : TypeId} {A : Option Addr} {l c : Nat} {bs : List Value} (h : w.ownsRow base e 1 (.slice A l c) l bs) : l ≤ c ∧ c ≤ 9223372036854775807 := by
  rcases h.2 with ⟨h1, h2⟩ | ⟨g, cap, cur, hv, _, _, h3, h4, _⟩
  · injection h1 with _ h1 h3; omega
  · injection hv with _ h5 h6; unfold maxLen at h4; omega

set_option maxRecDepth 100000 in
set_option maxHeartbeats 2000000 in
theorem hDec_short (A : Option Addr) (bs : List UInt8) (n c : Nat) (w : World) (hn : bs.length = n) (h : RdB w A bs) (hc : n ≤ c) (hm : c ≤ 9223372036854775807) (h2n : 2 ≤ n) (b s : Nat) (hb : (bs.getD 0 0).toNat = b) (h1 : b / 4 = 16) (hs : b % 4 + 1 = s) :
    Calls Try.prog 11 #[.slice A n c] w (HTail bs n 2 (bs.getD 1 0).toNat 0 [] 2 s w) := by
  obtain ⟨B, off, rfl, hcell⟩ := h.cell (by omega)
  have hc0 := hcell 0 (by omega)
  have hc1 := hcell 1 (by omega)
  rw [hb] at hc0
  have hb256 : b < 256 := by have := (bs.getD 0 0).toNat_lt; omega
  obtain ⟨tt, hto⟩ : ∃ tt, (bs.getD 1 0).toNat = tt := ⟨_, rfl⟩
  have hto256 : tt < 256 := by have := (bs.getD 1 0).toNat_lt; omega
  rw [hto] at hc1 ⊢
  simp only [Nat.add_zero] at hc0
  obtain ⟨x, hx⟩ : ∃ x, bits .andNot .u8 (b : Int) 3 = x := ⟨_, rfl⟩
  have hxv := andNot3 b hb256
  rw [hx] at hxv
  have e1 : (x == 64) = true := by rw [hxv]; simp; try omega
  obtain ⟨y, hy⟩ : ∃ y, bits .and .u8 (b : Int) 3 = y := ⟨_, rfl⟩
  have hyv := and3 b hb256
  rw [hy] at hyv
  have hy0 : 0 ≤ y := by omega
  have hy3 : y ≤ 3 := by omega
  have e2 : y + 1 = (s : Int) := by omega
  have hs1 : 1 ≤ s := by omega
  have hs4 : s ≤ 4 := by omega
  have hg := World.block_lt_of_cell? w _ hc0
  have HR := Lib.hid h
  have HN := Lib.hid hn
  clear hxv hyv hcell h hn hb hto h1
  go_enter Try.func11, Try.ntmps11
  go_upto_region 12 with (fail)
  refine wp_world (fun w' => Blk w' w.heap.size 26 #[.int .i64 0, .int .i64 0, .int .i64 0, .slice none 0 0, .int .i64 0, .int .i64 0] ∧ Blk w' (w.heap.size + 1) 26 #[.int .i64 2, .int .i64 0, .int .i64 0, .slice none 0 0, .int .i64 0, .int .i64 s] ∧ w'.cell? ⟨B, off + 1, none⟩ = some (.int .u8 tt) ∧ Below w.heap.size w w')
    ⟨(Blk.new _ _ _).alloc _, (Blk.new1 _ _ _ _).as (by rw [← e2]), by go_simp, ((Below.refl _ _).alloc (Nat.le_refl _) _).alloc (by simp) _⟩ ?_
  clear hc0 hc1 hx hy e1 e2
  rintro w1 ⟨hB2, hB5, hc1, hb1⟩
  have hFH := hB5.facts6
  have hz1 := hb1.size
  go_upto_region 30 with (fail)
  refine wp_world (fun w' => Blk w' w.heap.size 26 #[.int .i64 0, .int .i64 0, .int .i64 0, .slice none 0 0, .int .i64 0, .int .i64 0] ∧ Blk w' (w.heap.size + 1) 26 #[.int .i64 2, .int .i64 tt, .int .i64 0, .slice none 0 0, .int .i64 0, .int .i64 s] ∧ Below w.heap.size w w')
    ⟨by (apply Blk.as; (case h => (repeat (first | with_reducible exact hB2 | with_reducible apply Blk.drew | with_reducible apply Blk.set4 | with_reducible apply Blk.set_ | (with_reducible apply Blk.far4 (hne := ?side); case side => (first | omega | (simp; omega) | (simp; done))) | (with_reducible apply Blk.far (hp := ?side); case side => (first | omega | (simp; omega) | (simp; done))) | with_reducible apply Blk.alloc))); (case e => (first | with_reducible rfl | (simp; done) | rfl))), by (apply Blk.as; (case h => (repeat (first | with_reducible exact hB5 | with_reducible apply Blk.drew | with_reducible apply Blk.set4 | with_reducible apply Blk.set_ | (with_reducible apply Blk.far4 (hne := ?side); case side => (first | omega | (simp; omega) | (simp; done))) | (with_reducible apply Blk.far (hp := ?side); case side => (first | omega | (simp; omega) | (simp; done))) | with_reducible apply Blk.alloc))); (case e => (first | with_reducible rfl | (simp; done) | rfl))), by (repeat (first | with_reducible exact hb1 | with_reducible refine Below.drew ?_ | (with_reducible refine Below.set4 ?_ ?side _ _ _ _; case side => (first | omega | (simp; omega) | (simp; done))) | (with_reducible refine Below.setCell ?_ ?side _; case side => (first | omega | (simp; omega) | (simp; done))) | (with_reducible refine Below.alloc ?_ ?side _; case side => (first | omega | (simp; omega) | (simp; done)))))⟩ ?_
  clear hFH hB2 hB5 hb1 hc1
  rintro w2 ⟨hB2, hB5, hbz⟩
  have HT : Hid (w2.ownsRow (w.heap.size + 2) 5 1 (.slice none 0 0) 0 (u8s [])) := OwnB.nil w2 _ _
  have HG2 : Hid (w.heap.size + 2 ≤ w2.heap.size) := hB5.lt
  have HB2 := Lib.hid hB2
  have HB5 := Lib.hid hB5
  have HBZ := Lib.hid hbz
  clear hB2 hB5 hbz hz1
  have hFC := HB2.out.facts6
  have hFH := HB5.out.facts6
  have hu0 : 2 + s ≤ 9223372036854775807 := by omega
  by_cases hsh : n < 2 + s
  · go_wp2_with fail
    refine bodyPost_ret (v := .tuple #[.agg #[.int .i64 0, .int .i64 0, .int .i64 0, .slice none 0 0, .int .i64 0, .int .i64 0], .int .i64 0, .int .i64 4]) ?_ rfl ?_
    · simp [results, Try.results11, go_sem, hFC] <;> rfl
    · refine Or.inl ⟨hsh, rfl, ?_⟩
      (repeat (first | with_reducible exact HBZ.out | with_reducible refine Below.drew ?_ | (with_reducible refine Below.set4 ?_ ?side _ _ _ _; case side => (first | omega | (simp; omega) | (simp; done))) | (with_reducible refine Below.setCell ?_ ?side _; case side => (first | omega | (simp; omega) | (simp; done))) | (with_reducible refine Below.alloc ?_ ?side _; case side => (first | omega | (simp; omega) | (simp; done)))))
  · obtain ⟨ms, hms⟩ : ∃ ms, (bs.drop 2).take s = ms := ⟨_, rfl⟩
    have hmsl : ms.length = s := by rw [← hms, List.length_take, List.length_drop, HN.out]; omega
    have hcell : ∀ (w' : World), Below w.heap.size w w' → ∀ k, k < s → w'.cell? ⟨B, off + 2 + k, none⟩ = some (.int .u8 ((ms.getD k 0).toNat : Int)) := by
      intro w' hw' k hk
      obtain ⟨B', off', hA', hc'⟩ := (HR.out.below hw').cell (by have := HN.out; omega)
      injection hA' with hA'
      injection hA' with h1 h2
      subst h1 h2
      have := hc' (2 + k) (by have := HN.out; omega)
      rw [← Nat.add_assoc] at this
      rw [this, ← hms]
      simp [List.getD, hk, List.getElem?_drop]
    have HMS := Lib.hid hms
    have HML := Lib.hid hmsl
    have HCELL := Lib.hid hcell
    have hz2 : w.heap.size ≤ w2.heap.size := HBZ.out.size
    have hnu : 2 + s - 2 = s := by omega
    have hcu : ((2 + s : Nat) : Int) ≤ (c : Int) := by omega
    clear hms hmsl hcell
    have HFC := Lib.hid hFC
    clear hFC
    have hcu1 : (if c = 2 then (some (⟨B, off, none⟩ : Addr)) else some ⟨B, off + 2, none⟩) = (if c = 2 then some ⟨B, off, none⟩ else some ⟨B, off + 2, none⟩) := rfl
    go_wp2_with fail
    clear hFH
    go_loopw [118] (fun i wr => ∃ k : Nat, k ≤ s ∧ i = .int .i64 k ∧ Blk wr (w.heap.size + 1) 26 #[.int .i64 2, .int .i64 tt, .int .i64 0, .slice none 0 0, .int .i64 (valB (ms.take k) 0 : Nat), .int .i64 s] ∧ Blk wr w.heap.size 26 #[.int .i64 0, .int .i64 0, .int .i64 0, .slice none 0 0, .int .i64 0, .int .i64 0] ∧ Below w.heap.size w wr ∧ wr.ownsRow (w.heap.size + 2) 5 1 (.slice none 0 0) 0 (u8s []) ∧ w.heap.size + 2 ≤ wr.heap.size) (fun i _ => s - (intOf i).toNat)
    case atStart => exact ⟨0, Nat.zero_le _, rfl, HB5.out, HB2.out, HBZ.out, HT.out, HG2.out⟩
    case round =>
      obtain ⟨k, hk, rfl, hB5, hB2, hbz, hT, hg2⟩ := hrel
      have HTT := Lib.hid hT
      clear hT
      have HB5 := Lib.hid hB5
      have HB2 := Lib.hid hB2
      have hFH := hB5.facts6
      clear hB5 hB2
      by_cases hlt : k < s
      · have hck := HCELL.out wr hbz k hlt
        have hv : Hid (valB (ms.take (k + 1)) 0 = valB (ms.take k) 0 * 256 + (ms.getD k 0).toNat) := by
          show _ = _
          rw [List.take_succ_eq_append_getElem (by rw [HML.out]; exact hlt), valB_snoc]; simp [List.getD, HML.out, hlt]
        have hvl : valB (ms.take k) 0 < 18014398509481984 := by
          have h1 := valB_bound (ms.take k)
          have h2 : 256 ^ (ms.take k).length ≤ 256 ^ 4 := Nat.pow_le_pow_right (by decide) (by rw [List.length_take]; omega)
          omega
        have hv0 : valB (ms.take k) 0 * 256 < 4611686018427387904 := by omega
        generalize hbk : ms.getD k 0 = bk at *
        generalize hvk : valB (ms.take k) 0 = vk at *
        obtain ⟨vn, hvn⟩ : ∃ vn, valB (ms.take (k + 1)) 0 = vn := ⟨_, rfl⟩
        have h9 : (bk.toNat : Int) < 256 := by have := bk.toNat_lt; omega
        have hor := or_byte vk bk.toNat hvl (by omega)
        have hvn' : Hid (vk * 256 + bk.toNat = vn) := by show _ = _; rw [← hvn]; exact hv.out.symm
        have HVN := Lib.hid hvn
        rw [hvn'.out] at hor
        clear hbk hvk hvn hv
        go_wp2_with fail
        go_roundw
        case rel => exact ⟨k + 1, by omega, by go_num, by rw [HVN.out]; (apply Blk.as; (case h => (repeat (first | with_reducible exact HB5.out | with_reducible apply Blk.drew | with_reducible apply Blk.set4 | with_reducible apply Blk.set_ | (with_reducible apply Blk.far4 (hne := ?side); case side => (first | omega | (simp; omega) | (simp; done))) | (with_reducible apply Blk.far (hp := ?side); case side => (first | omega | (simp; omega) | (simp; done))) | with_reducible apply Blk.alloc))); (case e => (first | with_reducible rfl | (simp; done) | rfl))), by (apply Blk.as; (case h => (repeat (first | with_reducible exact HB2.out | with_reducible apply Blk.drew | with_reducible apply Blk.set4 | with_reducible apply Blk.set_ | (with_reducible apply Blk.far4 (hne := ?side); case side => (first | omega | (simp; omega) | (simp; done))) | (with_reducible apply Blk.far (hp := ?side); case side => (first | omega | (simp; omega) | (simp; done))) | with_reducible apply Blk.alloc))); (case e => (first | with_reducible rfl | (simp; done) | rfl))), by (repeat (first | with_reducible exact hbz | with_reducible refine Below.drew ?_ | (with_reducible refine Below.set4 ?_ ?side _ _ _ _; case side => (first | omega | (simp; omega) | (simp; done))) | (with_reducible refine Below.setCell ?_ ?side _; case side => (first | omega | (simp; omega) | (simp; done))) | (with_reducible refine Below.alloc ?_ ?side _; case side => (first | omega | (simp; omega) | (simp; done))))), by (repeat (first | with_reducible exact HTT.out | with_reducible refine World.ownsRow.drew ?_ | (with_reducible refine ownsRow_setCell_below ?_ ?side _; case side => (first | omega | (simp; omega) | (simp; done))) | with_reducible refine World.ownsRow.alloc ?_ _)), by simp; omega⟩
        case measure => simp [intOf]; omega
      · obtain rfl : k = s := by omega
        have hfin : valB (ms.take k) 0 = valB ((bs.drop 2).take k) 0 := by rw [HMS.out, List.take_of_length_le (by rw [HML.out]; exact Nat.le_refl _)]
        have HFIN := Lib.hid hfin
        have hFC := HB2.out.facts6
        have hvk : valB (ms.take k) 0 < 4611686018427387904 := by
          have h1 := valB_bound (ms.take k)
          have h2 : 256 ^ (ms.take k).length ≤ 256 ^ 4 := Nat.pow_le_pow_right (by decide) (by rw [List.length_take]; omega)
          omega
        generalize valB (ms.take k) 0 = vk at *
        clear hfin hlt
        go_wp2_with fail
        go_region
        all_goals
          go_wp2_with fail
          refine bodyPost_ret (v := .tuple #[.agg #[.int .i64 2, .int .i64 tt, .int .i64 0, .slice none 0 0, .int .i64 vk, .int .i64 k], .int .i64 ((2 : Int) + k), .int .i64 0]) ?_ rfl ?_
          · simp [results, Try.results11, go_sem, hFC] <;> rfl
          · refine Or.inr ⟨by omega, none, 0, ?_, ?_, ?_, ?_, ?_⟩
            · simp [hcells, List.length_nil, ← HFIN.out]
            · refine rd_of_own8 (base := w.heap.size + 2) (e := 5) (l := 0) (c := 0) ?_ (by simp [List.length_nil])
              (repeat (first | with_reducible exact HTT.out | with_reducible refine World.ownsRow.drew ?_ | (with_reducible refine ownsRow_setCell_below ?_ ?side _; case side => (first | omega | (simp; omega) | (simp; done))) | with_reducible refine World.ownsRow.alloc ?_ _))
            · have := own_cap8 HTT.out; simp only [List.length_nil]; exact this.1
            · exact (own_cap8 HTT.out).2
            · (repeat (first | with_reducible exact hbz | with_reducible refine Below.drew ?_ | (with_reducible refine Below.set4 ?_ ?side _ _ _ _; case side => (first | omega | (simp; omega) | (simp; done))) | (with_reducible refine Below.setCell ?_ ?side _; case side => (first | omega | (simp; omega) | (simp; done))) | (with_reducible refine Below.alloc ?_ ?side _; case side => (first | omega | (simp; omega) | (simp; done)))))

set_option maxRecDepth 100000 in
set_option maxHeartbeats 1000000 in
theorem hDec_short1 (A : Option Addr) (bs : List UInt8) (c : Nat) (w : World) (hn : bs.length = 1) (h : RdB w A bs) (hc : 1 ≤ c) (hm : c ≤ 9223372036854775807) (b : Nat) (hb : (bs.getD 0 0).toNat = b) (h1 : b / 4 = 16) :
    Calls Try.prog 11 #[.slice A 1 c] w (HBad w 4) := by
  obtain ⟨B, off, rfl, hcell⟩ := h.cell (by omega)
  have hc0 := hcell 0 (by omega)
  rw [hb] at hc0
  have hb256 : b < 256 := by have := (bs.getD 0 0).toNat_lt; omega
  simp only [Nat.add_zero] at hc0
  obtain ⟨x, hx⟩ : ∃ x, bits .andNot .u8 (b : Int) 3 = x := ⟨_, rfl⟩
  have hxv := andNot3 b hb256
  rw [hx] at hxv
  have e1 : (x == 64) = true := by rw [hxv]; simp; try omega
  obtain ⟨y, hy⟩ : ∃ y, bits .and .u8 (b : Int) 3 = y := ⟨_, rfl⟩
  have hyv := and3 b hb256
  rw [hy] at hyv
  have hy0 : 0 ≤ y := by omega
  have hy3 : y ≤ 3 := by omega
  have hg := World.block_lt_of_cell? w _ hc0
  clear hxv hyv hcell h hn hb h1
  go_enter Try.func11, Try.ntmps11
  go_upto_region 12 with (fail)
  refine wp_world (fun w' => Blk w' w.heap.size 26 #[.int .i64 0, .int .i64 0, .int .i64 0, .slice none 0 0, .int .i64 0, .int .i64 0] ∧ Blk w' (w.heap.size + 1) 26 #[.int .i64 2, .int .i64 0, .int .i64 0, .slice none 0 0, .int .i64 0, .int .i64 (y + 1)] ∧ Below w.heap.size w w')
    ⟨(Blk.new _ _ _).alloc _, Blk.new1 _ _ _ _, ((Below.refl _ _).alloc (Nat.le_refl _) _).alloc (by simp) _⟩ ?_
  clear hc0 hx hy e1
  rintro w1 ⟨hB2, hB5, hb1⟩
  have hFH := hB5.facts6
  have hFC := hB2.facts6
  go_wp2_with fail
  refine bodyPost_ret (v := .tuple #[.agg #[.int .i64 0, .int .i64 0, .int .i64 0, .slice none 0 0, .int .i64 0, .int .i64 0], .int .i64 0, .int .i64 4]) ?_ rfl ⟨rfl, ?_⟩
  · simp [results, Try.results11, go_sem, hFC] <;> rfl
  · (repeat (first | with_reducible exact hb1 | with_reducible refine Below.drew ?_ | (with_reducible refine Below.set4 ?_ ?side _ _ _ _; case side => (first | omega | (simp; omega) | (simp; done))) | (with_reducible refine Below.setCell ?_ ?side _; case side => (first | omega | (simp; omega) | (simp; done))) | (with_reducible refine Below.alloc ?_ ?side _; case side => (first | omega | (simp; omega) | (simp; done)))))

theorem RdB.mid {w : World} {B off : Nat} {bs : List UInt8} (h : RdB w (some ⟨B, off, none⟩) bs) (u m c : Nat) (hu : u + m ≤ bs.length) (hc : bs.length ≤ c) : RdB w (if c = u then some ⟨B, off, none⟩ else some ⟨B, off + u, none⟩) ((bs.drop u).take m) := by
  have h1 := (h.cut (k := u) (cap := c) (by omega) hc).front (k := m) (by simp; omega)
  simpa [add_none] using h1

end Go.Proofs.Ytenlgfeldkfmiaa
