/- The walk of the law FlowSum. -/
import Derived.Test.YteajdkbilbopoaaFlowWalk
namespace Go.Proofs.Yteajdkbilbopoaa
open Go.ChangeShapes Go.WideShapes Go.ChangeAt Go.RowKit
set_option linter.unusedVariables false

theorem some_any (A : Option Addr) (len cap k : Nat) (m : Int) (hl : len ≤ cap) (hc : cap ≤ 9223372036854775807) (hm0 : 0 ≤ m) (hm : m ≤ 9223372036854775807) (hk : min (len : Int) m = k) (w : World) :
    Calls Try.prog 31 #[.slice A len cap, .int .i64 m] w fun e w' => e = .returned (.slice A k cap) ∧ w = w' := by
  obtain ⟨M, rfl⟩ := Int.eq_ofNat_of_zero_le hm0
  rcases Nat.lt_trichotomy len M with h | h | h
  · obtain rfl : k = len := by omega
    clear hk
    go_enter Try.func31, Try.ntmps31
    go_wp2_with fail
    all_goals (go_ret; exact ⟨rfl, rfl⟩)
  · subst h
    obtain rfl : k = len := by omega
    clear hk
    go_enter Try.func31, Try.ntmps31
    go_wp2_with fail
    all_goals (go_ret; exact ⟨rfl, rfl⟩)
  · obtain rfl : k = M := by omega
    clear hk
    go_enter Try.func31, Try.ntmps31
    go_wp2_with fail
    all_goals (go_ret; exact ⟨rfl, rfl⟩)

set_option maxRecDepth 100000 in
set_option maxHeartbeats 1000000 in
theorem flowSum_walk (A : Option Addr) (len cap : Nat) (rs : List RawD) (w : World) (h : IsRaws w A len cap rs) :
    Calls Try.prog 10 #[.slice A len cap] w fun e w' => e = .returned (.bool true) ∧ Below w.heap.size w w' := by
  have hlc := h.2.2.1
  have hcm := h.2.2.2.1
  unfold maxLen at hcm
  go_enter Try.func10, Try.ntmps10
  go_wp2_with fail
  refine (some_any A len cap (min len 20) 20 hlc (by omega) (by decide) (by decide) (by omega) _).mono ?_
  rintro e w' ⟨rfl, rfl⟩
  have hF := h.front (min len 20) (by omega)
  generalize rs.take (min len 20) = ts at *
  have hk20 : min len 20 ≤ 20 := by omega
  generalize min len 20 = K at *
  clear h hlc
  go_wp2_with fail
  have hB0 : Blk (w.alloc (.cells #[.int .i64 50, .int .i64 0] 48)) w.heap.size 48 #[.int .i64 50, .int .i64 0] := Blk.new _ _ _
  have hb0 : Below w.heap.size w (w.alloc (.cells #[.int .i64 50, .int .i64 0] 48)) := (Below.refl _ _).alloc (Nat.le_refl _) _
  go_loopw [4, 5, 17] (fun u t i wr => ∃ (k : Nat) (used top : Int), k ≤ K ∧ i = .int .i64 k ∧ u = .int .i64 used ∧ t = .int .i64 top ∧ 0 ≤ used ∧ used ≤ top ∧ top ≤ 100 ∧
      Blk wr w.heap.size 48 #[.int .i64 top, .int .i64 used] ∧ Below w.heap.size w wr) (fun _ _ i _ => K - (intOf i).toNat)
  case atStart => exact ⟨0, 0, 50, Nat.zero_le _, rfl, rfl, rfl, by decide, by decide, by decide, hB0, hb0⟩
  case round =>
    obtain ⟨k, used, top, hk, rfl, rfl, rfl, hu0, hut, ht, hB, hb⟩ := hrel
    clear hB0 hb0
    by_cases hlt : k < K
    · have hR : IsRaws wr A K cap ts := hF.keep hb
      obtain ⟨b, off, rfl, hcell⟩ := hR.at_ (by omega)
      obtain ⟨c0, c1, c2, c3⟩ := hcell k hlt
      have hok := hF.2.2.2.2 k hlt
      generalize ts.getD k rawNone = r at *
      obtain ⟨o0, o1, o2, _⟩ := hok
      have f0 := hB.cell 0
      have f1 := hB.cell 1
      simp at f0 f1
      have HB := Lib.hid hB
      clear hcell hR hB
      go_wp2_with fail
      refine (picked_ex _ _ o1.1 o1.2 (by decide) (by decide) _).mono ?_
      rintro e w' ⟨n, n0, n1, rfl, rfl⟩
      have hBr : Blk (wr.alloc (.cells #[.int .i64 r.kind, .int .i64 r.a, .int .i64 r.b, .string r.text] 51)) wr.heap.size 51 #[.int .i64 r.kind, .int .i64 r.a, .int .i64 r.b, .string r.text] := Blk.new _ _ _
      have hBf := HB.out.alloc (.cells #[.int .i64 r.kind, .int .i64 r.a, .int .i64 r.b, .string r.text] 51)
      have hbr : Below w.heap.size w (wr.alloc (.cells #[.int .i64 r.kind, .int .i64 r.a, .int .i64 r.b, .string r.text] 51)) := hb.alloc hb.size _
      have hg1 : w.heap.size < (wr.alloc (.cells #[.int .i64 r.kind, .int .i64 r.a, .int .i64 r.b, .string r.text] 51)).heap.size := hBf.lt
      have hg2 : wr.heap.size < (wr.alloc (.cells #[.int .i64 r.kind, .int .i64 r.a, .int .i64 r.b, .string r.text] 51)).heap.size := hBr.lt
      have fz := hBf.frozen 0
      have fz1 := hBf.frozen 1
      clear HB c0 c1 c2 c3 f0 f1 hb
      have f0 := hBf.cell 0
      have f1 := hBf.cell 1
      simp at f0 f1
      generalize wr.alloc (.cells #[.int .i64 r.kind, .int .i64 r.a, .int .i64 r.b, .string r.text] 51) = W0 at *
      go_wp2_with fail
      clear f0 f1 fz fz1
      by_cases hn : n ≤ top - used
      · skip
        refine (spend_ok top used n hu0 hut (by omega) n0 (by omega) _).mono ?_
        rintro e w1 ⟨rfl, hb1⟩
        have hBr1 := hBr.below hb1 hg2
        have hBf1 := hBf.below hb1 hg1
        have hbw1 := hbr.trans (hb1.mono hbr.size)
        have r0 := hBr1.cell 0
        simp at r0
        obtain ⟨f0, f1, fz, fz1⟩ := hBf1.two
        have hg3 := hBf1.lt
        have hg4 := hBr1.lt
        have HBf1 := Lib.hid hBf1
        clear hBr hBf hbr hg1 hg2 hBr1 hBf1 hb1 W0
        go_wp2_with fail
        refine (picked_ex _ _ o0.1 o0.2 (by decide) (by decide) _).mono ?_
        rintro e w' ⟨p, p0, p1, rfl, rfl⟩
        by_cases hp : p = 0
        · subst hp
          have hBx := Blk.new w1 48 #[.int .i64 top, .int .i64 (used + n)]
          have hBy := HBf1.out.alloc (.cells #[.int .i64 top, .int .i64 (used + n)] 48)
          have hbz : Below w.heap.size w (w1.alloc (.cells #[.int .i64 top, .int .i64 (used + n)] 48)) := hbw1.alloc hbw1.size _
          have HX := Lib.hid hBx
          have HY := Lib.hid hBy
          clear hBx hBy r0
          go_wp2_with fail
          all_goals
            refine (grant_ok top used (2 * n) _ hu0 hut (by omega) (by omega) (by omega) rfl _).mono ?_
            rintro e w2 ⟨rfl, hb2⟩
            have hX2 := HX.out.below hb2 HX.out.lt
            have hY2 := HY.out.below hb2 HY.out.lt
            have hz2 := hbz.trans (hb2.mono hbz.size)
            obtain ⟨x0, x1, x2, x3⟩ := hX2.two
            obtain ⟨y0, y1, y2, y3⟩ := hY2.two
            have HX2 := Lib.hid hX2
            have HY2 := Lib.hid hY2
            have hne : w.heap.size ≠ w1.heap.size := by omega
            have hmx : top ≤ max top (2 * n) ∧ 2 * n ≤ max top (2 * n) ∧ (max top (2 * n) = top ∨ max top (2 * n) = 2 * n) := by omega
            generalize hmv : max top (2 * n) = M at *
            have HM := Lib.hid hmv
            clear hX2 hY2 hb2 f0 f1 fz fz1 hmv
            go_wp2_with fail
            go_roundw
            case rel =>
              refine ⟨k + 1, used, M, by omega, by go_num, by go_num, by congr 1; omega, hu0, by omega, by omega, ?_, ?_⟩
              · exact (HY2.out.far2 hne _ _).set2 _ _
              · exact (((hz2.setCell hbw1.size _).setCell hbw1.size _).setCell (Nat.le_refl _) _).setCell (Nat.le_refl _) _
            case measure => simp [intOf]; omega
        · go_wp2_with fail
          all_goals
            go_roundw
            case rel =>
              refine ⟨k + 1, used + n, top, by omega, by go_num, rfl, rfl, by omega, by omega, ht, ?_, ?_⟩
              · exact (HBf1.out.set2 _ _).alloc _
              · exact ((hbw1.setCell (Nat.le_refl _) _).setCell (Nat.le_refl _) _).alloc (by simpa using hbw1.size) _
            case measure => simp [intOf]; omega
      · skip
        refine (spend_more top used n hu0 hut (by omega) n0 (by omega) _).mono ?_
        rintro e w1 ⟨rfl, hb1⟩
        have hBr1 := hBr.below hb1 hg2
        have hBf1 := hBf.below hb1 hg1
        have hbw1 := hbr.trans (hb1.mono hbr.size)
        have r0 := hBr1.cell 0
        simp at r0
        obtain ⟨f0, f1, fz, fz1⟩ := hBf1.two
        have hg3 := hBf1.lt
        have hg4 := hBr1.lt
        have HBf1 := Lib.hid hBf1
        clear hBr hBf hbr hg1 hg2 hBr1 hBf1 hb1 W0
        go_wp2_with fail
        refine (picked_ex _ _ o0.1 o0.2 (by decide) (by decide) _).mono ?_
        rintro e w' ⟨p, p0, p1, rfl, rfl⟩
        by_cases hp : p = 0
        · subst hp
          have hBx := Blk.new w1 48 #[.int .i64 0, .int .i64 0]
          have hBy := HBf1.out.alloc (.cells #[.int .i64 0, .int .i64 0] 48)
          have hbz : Below w.heap.size w (w1.alloc (.cells #[.int .i64 0, .int .i64 0] 48)) := hbw1.alloc hbw1.size _
          have HX := Lib.hid hBx
          have HY := Lib.hid hBy
          clear hBx hBy r0
          go_wp2_with fail
          all_goals
            refine (grant_ok top used (2 * n) _ hu0 hut (by omega) (by omega) (by omega) rfl _).mono ?_
            rintro e w2 ⟨rfl, hb2⟩
            have hX2 := HX.out.below hb2 HX.out.lt
            have hY2 := HY.out.below hb2 HY.out.lt
            have hz2 := hbz.trans (hb2.mono hbz.size)
            obtain ⟨x0, x1, x2, x3⟩ := hX2.two
            obtain ⟨y0, y1, y2, y3⟩ := hY2.two
            have HX2 := Lib.hid hX2
            have HY2 := Lib.hid hY2
            have hne : w.heap.size ≠ w1.heap.size := by omega
            have hmx : top ≤ max top (2 * n) ∧ 2 * n ≤ max top (2 * n) ∧ (max top (2 * n) = top ∨ max top (2 * n) = 2 * n) := by omega
            generalize hmv : max top (2 * n) = M at *
            have HM := Lib.hid hmv
            clear hX2 hY2 hb2 f0 f1 fz fz1 hmv
            go_wp2_with fail
            go_roundw
            case rel =>
              refine ⟨k + 1, used, M, by omega, by go_num, by go_num, by congr 1; omega, hu0, by omega, by omega, ?_, ?_⟩
              · exact (HY2.out.far2 hne _ _).set2 _ _
              · exact (((hz2.setCell hbw1.size _).setCell hbw1.size _).setCell (Nat.le_refl _) _).setCell (Nat.le_refl _) _
            case measure => simp [intOf]; omega
        · go_wp2_with fail
          all_goals
            go_roundw
            case rel =>
              refine ⟨k + 1, used, top, by omega, by go_num, rfl, rfl, by omega, by omega, ht, ?_, ?_⟩
              · exact HBf1.out.alloc _
              · exact hbw1.alloc hbw1.size _
            case measure => simp [intOf]; omega
    · obtain rfl : k = K := by omega
      obtain ⟨f0, f1, fz, fz1⟩ := hB.two
      go_wp2_with fail
      refine (spend_more top used _ hu0 hut (by omega) (by omega) (by omega) _).mono ?_
      rintro e w1 ⟨rfl, hb1⟩
      have hB1 := hB.below hb1 hB.lt
      have hz1 := hb.trans (hb1.mono hb.size)
      obtain ⟨y0, y1, y2, y3⟩ := hB1.two
      have hlt1 := hB1.lt
      clear f0 f1 fz fz1 hB1 hB hb1 hb
      go_wp2_with fail
      refine (flowCheck_ok top used hu0 hut (by omega) _).mono ?_
      rintro e w2 ⟨rfl, hb2⟩
      have hz2 : Below w.heap.size w w2 := (hz1.alloc hz1.size _).trans (hb2.mono (by simp; omega))
      clear hb2 hz1 y0 y1 y2 y3
      go_wp2_with fail
      refine (flowCheck_bad 0 1 (by decide) _).mono ?_
      rintro e w3 ⟨rfl, hb3⟩
      have hz3 := hz2.trans (hb3.mono hz2.size)
      clear hb3 hz2
      go_wp2_with fail
      go_ret
      exact ⟨rfl, hz3⟩
end Go.Proofs.Yteajdkbilbopoaa
