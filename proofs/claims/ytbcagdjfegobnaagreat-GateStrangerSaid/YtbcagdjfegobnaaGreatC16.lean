/- Texts of the proof, laid together: SizeWalk EncodeWalk. -/
import Derived.Test.YtbcagdjfegobnaaGreatC00
import Derived.Test.YtbcagdjfegobnaaGreatC14
/- The contract of varint.Size. -/
namespace Go.Proofs.YtbcagdjfegobnaaGreat
open Go.ChangeShapes Go.WideShapes Go.ChangeAt Go.RowKit
set_option linter.unusedVariables false

theorem size_any (n : Int) (w : World) :
    Calls Tryz.prog 85 #[.int .i64 n] w fun e w' => e = .returned (.tuple #[.int .i64 (sizeI n), .int .i64 (sizeE n)]) ∧ w = w' := by
  by_cases h : n < 0 ∨ 4611686018427387903 < n
  · have e1 : sizeI n = 0 := if_pos h
    have e2 : sizeE n = 6 := if_pos h
    rw [e1, e2]
    clear e1 e2
    rcases h with h | h
    all_goals
      go_enter Tryz.func85, Tryz.ntmps85
      go_wp2
      go_ret2
      exact ⟨rfl, rfl⟩
  · have h0 : 0 ≤ n := by omega
    have h1 : n ≤ 4611686018427387903 := by omega
    rw [sizeE_ok n h0 h1]
    clear h
    rcases sizeI_cases n h0 h1 with ⟨a, e⟩ | ⟨a, b, e⟩ | ⟨a, b, e⟩ | ⟨a, e⟩
    all_goals
      rw [e]; clear e
      go_enter Tryz.func85, Tryz.ntmps85
      go_wp2
      go_ret2
      exact ⟨rfl, rfl⟩
end Go.Proofs.YtbcagdjfegobnaaGreat
/- The contract of varint.Encode. -/
namespace Go.Proofs.YtbcagdjfegobnaaGreat
open Go.ChangeShapes Go.WideShapes Go.ChangeAt Go.RowKit
set_option linter.unusedVariables false

theorem u8_info : (Tryz.prog.info? 5).map (fun i => (i.zero, i.size, i.bytes)) = some (some (.int .u8 0), 1, 1) := by kernel_rfl

set_option maxRecDepth 100000 in
set_option maxHeartbeats 1000000 in
theorem encode_any (n0 : Nat) (h1 : (n0 : Int) ≤ 4611686018427387903) (w : World) :
    Calls Tryz.prog 51 #[.int .i64 n0] w fun e w' =>
      e = .returned (.tuple #[.slice (some ⟨w.heap.size, 0, none⟩) (encB n0).length (encB n0).length, .int .i64 0]) ∧ Blk w' w.heap.size 5 (u8s (encB n0)).toArray ∧ Below w.heap.size w w' := by
  have he := sizeE_ok n0 (by omega) h1
  have hsz := sizeI_cases n0 (by omega) h1
  rw [encB_length]
  unfold encB
  obtain ⟨K, hK⟩ : ∃ K : Nat, sizeI n0 = (K : Int) := ⟨(sizeI n0).toNat, by omega⟩
  have hKc : (K = 1 ∧ n0 < 64) ∨ (K = 2 ∧ n0 < 64 * 256) ∨ (K = 4 ∧ n0 < 64 * 256 ^ 3) ∨ (K = 8 ∧ n0 < 64 * 256 ^ 7) := by omega
  rw [hK, Int.toNat_natCast]
  have hK8 : K ≤ 8 := by omega
  have hK1 : 1 ≤ K := by omega
  clear hsz
  have hmk : ∀ W, (Instr.makeSlice 30 (.int .i64 (K : Int)) (.int .i64 (K : Int))).run Tryz.prog W = .ok (.slice (some ⟨W.heap.size, 0, none⟩) K K) (W.alloc (.cells (madeCells #[.int .u8 0] K) 5)) :=
    fun W => run_make_row' 30 5 (.int .u8 0) 1 Tryz.underlying30 u8_info rfl .i64 .i64 K (by omega) (by omega) W
  have hB0 : Blk (w.alloc (.cells (madeCells #[.int .u8 0] K) 5)) w.heap.size 5 (u8s (List.replicate K 0 ++ beB 0 n0)).toArray := by
    have := Blk.new w 5 (madeCells #[.int .u8 0] K)
    rw [zeros_u8] at this ⊢
    simpa [beB] using this
  have hb0 : Below w.heap.size w (w.alloc (.cells (madeCells #[.int .u8 0] K) 5)) := (Below.refl _ _).alloc (Nat.le_refl _) _
  have HKc := Lib.hid hKc; clear hKc
  go_enter Tryz.func51, Tryz.ntmps51
  go_wp2_with fail
  refine (size_any _ _).mono ?_
  rw [hK, he]
  clear hK he
  rintro e w' ⟨rfl, rfl⟩
  go_wp2_with fail
  go_loopw [0, 7] (fun n i wr => ∃ m : Nat, m ≤ K ∧ i = .int .i64 ((m : Int) - 1) ∧ n = .int .i64 (n0 / 256 ^ (K - m) : Nat) ∧
      Blk wr w.heap.size 5 (u8s (List.replicate m 0 ++ beB (K - m) n0)).toArray ∧ Below w.heap.size w wr) (fun _ i _ => (intOf i + 1).toNat)
  case atStart => exact ⟨K, Nat.le_refl _, rfl, by simp, by rw [Nat.sub_self]; exact hB0, hb0⟩
  case round =>
    obtain ⟨m, hm, rfl, rfl, hB, hb⟩ := hrel
    clear hB0 hb0 hmk
    by_cases hlt : 1 ≤ m
    · have hl : (List.replicate m 0 ++ beB (K - m) n0).length = K := by simp [beB_length]; omega
      have hc : wr.cell? ⟨w.heap.size, m - 1, none⟩ = some (.int .u8 (((List.replicate m 0 ++ beB (K - m) n0).getD (m - 1) 0).toNat : Int)) := by
        rw [hB.cell]; exact u8s_at _ _ (by omega)
      have hf := hB.frozen (m - 1)
      generalize hN : n0 / 256 ^ (K - m) = N at *
      have hN1 : N ≤ n0 := by rw [← hN]; exact Nat.div_le_self _ _
      have HN := Lib.hid hN
      have HB := Lib.hid hB
      clear hN hB
      go_wp2_with fail
      go_roundw
      case rel =>
        refine ⟨m - 1, by omega, by congr 1; omega, ?_, ?_, hb.setCell (Nat.le_refl _) _⟩
        · rw [← HN.out, show K - (m - 1) = K - m + 1 from by omega, Nat.pow_succ, ← Nat.div_div_eq_div_mul]; simp
        · have := HB.out.set_ (m - 1) (.int .u8 (((UInt8.ofNat N).toNat : Nat) : Int))
          rw [u8s_set, replicate_set _ _ _ (beB_length _ _) hlt, show ((UInt8.ofNat N).toNat : Int) = (N : Int) % 256 from by simp] at this
          rw [show K - (m - 1) = K - m + 1 from by omega, beB, HN.out]
          exact this
      case measure => simp [intOf]; omega
    · obtain rfl : m = 0 := by omega
      simp only [List.replicate_zero, List.nil_append, Nat.sub_zero] at hB
      by_cases h1K : K = 1
      · have HB := Lib.hid hB
        have HK := Lib.hid h1K
        have h1a : K ≤ 1 := by omega
        clear hB h1K HKc
        go_wp2_with fail
        go_ret2
        refine ⟨rfl, ?_, hb⟩
        have := HB.out
        rw [HK.out] at this ⊢
        exact this
      · obtain ⟨t, L, htL, ht4, hKL, hq⟩ : ∃ t L : Nat, (K = L + 1 ∧ t = tagOf K) ∧ (t = 1 ∧ K = 2 ∨ t = 2 ∧ K = 4 ∨ t = 3 ∧ K = 8) ∧ n0 < 64 * 256 ^ L ∧ n0 / 256 ^ L < 64 := by
          have hdv : ∀ L, n0 < 64 * 256 ^ L → n0 / 256 ^ L < 64 := fun L h => by rwa [Nat.div_lt_iff_lt_mul (Nat.pow_pos (by decide))]
          rcases HKc.out with ⟨e, hn⟩ | ⟨e, hn⟩ | ⟨e, hn⟩ | ⟨e, hn⟩
          · omega
          · exact ⟨1, 1, ⟨e, by rw [e]; rfl⟩, .inl ⟨rfl, e⟩, by simpa using hn, hdv _ (by simpa using hn)⟩
          · exact ⟨2, 3, ⟨e, by rw [e]; rfl⟩, .inr (.inl ⟨rfl, e⟩), by simpa using hn, hdv _ (by simpa using hn)⟩
          · exact ⟨3, 7, ⟨e, by rw [e]; rfl⟩, .inr (.inr ⟨rfl, e⟩), by simpa using hn, hdv _ (by simpa using hn)⟩
        rw [htL.1, beB] at hB
        have hc := hB.cell 0
        have hf := hB.frozen 0
        rw [u8s_at _ _ (by simp)] at hc
        simp only [List.getD, List.getElem?_cons_zero, Option.getD_some] at hc
        have hd : (UInt8.ofNat (n0 / 256 ^ L)).toNat = n0 / 256 ^ L := by simp; omega
        have HB := Lib.hid hB
        have HE := Lib.hid (encK_cons L n0 hKL)
        have HT := Lib.hid htL
        rw [hd] at hc
        generalize hN : n0 / 256 ^ L = N at *
        have HN := Lib.hid hN
        have HD := Lib.hid hd
        clear hB HKc htL hN hd
        have HO := Lib.hid (or_tag N hq)
        rcases ht4 with ⟨ht, hk⟩ | ⟨ht, hk⟩ | ⟨ht, hk⟩
        all_goals
          have hka := Nat.le_of_eq hk
          have hkb := Nat.le_of_eq hk.symm
          have HK := Lib.hid hk
          have HTT := Lib.hid ht
          clear hk ht
          go_wp2_with fail
          go_ret2
          refine ⟨rfl, ?_, hb.setCell (Nat.le_refl _) _⟩
          have := HB.out.set_ 0 (.int .u8 (((UInt8.ofNat (N + tagOf K * 64)).toNat : Nat) : Int))
          rw [u8s_set, List.set_cons_zero] at this
          rw [HT.out.1, HE.out, ← HT.out.1]
          simpa [← HT.out.2, HTT.out, HO.out] using this
end Go.Proofs.YtbcagdjfegobnaaGreat
