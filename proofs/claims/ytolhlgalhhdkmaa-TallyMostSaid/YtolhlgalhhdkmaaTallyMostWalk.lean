/- The walk of the law TallyMost. -/
import Derived.Test.YtolhlgalhhdkmaaTallyWalk
import Derived.Test.YtolhlgalhhdkmaaSomeWalk
namespace Go.Proofs.Ytolhlgalhhdkmaa
open Go.ChangeShapes Go.WideShapes Go.ChangeAt Go.RowKit
set_option linter.unusedVariables false

set_option maxRecDepth 100000 in
set_option maxHeartbeats 1000000 in
theorem tallyMost_walk (A : Option Addr) (len cap : Nat) (rs : List RawD) (w : World) (h : IsRaws w A len cap rs) :
    Calls Try.prog 3 #[.slice A len cap] w fun e w' => e = .returned (.bool true) ∧ Below w.heap.size w w' := by
  have hlc := h.2.2.1
  have hcm := h.2.2.2.1
  unfold maxLen at hcm
  go_enter Try.func3, Try.ntmps3
  go_wp2_with fail
  refine (some_any A len cap (min len 30) 30 hlc (by omega) (by decide) (by decide) (by omega) _).mono ?_
  rintro e w' ⟨rfl, rfl⟩
  have hF := h.front (min len 30) (by omega)
  generalize rs.take (min len 30) = ts at *
  have hk30 : min len 30 ≤ 30 := by omega
  generalize min len 30 = K at *
  clear h hlc
  go_wp2_with fail
  have hB0 : Blk (w.alloc (.cells #[.bool false, .int .i64 0, .int .i64 0] 24)) w.heap.size 24 #[.bool false, .int .i64 0, .int .i64 0] := Blk.new _ _ _
  have hb0 : Below w.heap.size w (w.alloc (.cells #[.bool false, .int .i64 0, .int .i64 0] 24)) := (Below.refl _ _).alloc (Nat.le_refl _) _
  go_loopw [4, 5, 22] (fun gv sv i wr => ∃ (k : Nat) (g s : Int), k ≤ K ∧ i = .int .i64 k ∧ gv = .int .i64 g ∧ sv = .int .i64 s ∧ 0 ≤ g ∧ g ≤ 400 * k ∧ 0 ≤ s ∧ s ≤ 3 * g ∧
      Blk wr w.heap.size 24 #[.bool false, .int .i64 g, .int .i64 s] ∧ Below w.heap.size w wr) (fun _ _ i _ => K - (intOf i).toNat)
  case atStart => exact ⟨0, 0, 0, Nat.zero_le _, rfl, rfl, rfl, by decide, by decide, by decide, by decide, hB0, hb0⟩
  case round =>
    obtain ⟨k, g, s, hk, rfl, rfl, rfl, hg0, hgk, hs0, hsg, hB, hb⟩ := hrel
    clear hB0 hb0
    by_cases hlt : k < K
    · have hR : IsRaws wr A K cap ts := hF.keep hb
      obtain ⟨b, off, rfl, hcell⟩ := hR.at_ (by omega)
      obtain ⟨c0, c1, c2, c3⟩ := hcell k hlt
      have hok := hF.2.2.2.2 k hlt
      generalize ts.getD k rawNone = r at *
      obtain ⟨o0, o1, o2, _⟩ := hok
      have HB := Lib.hid hB
      clear hcell hR hB
      go_wp2_with fail
      refine (picked_ex _ _ o1.1 o1.2 (by decide) (by decide) _).mono ?_
      rintro e w' ⟨n, n0, n1, rfl, rfl⟩
      have hBr : Blk (wr.alloc (.cells #[.int .i64 r.kind, .int .i64 r.a, .int .i64 r.b, .string r.text] 27)) wr.heap.size 27 #[.int .i64 r.kind, .int .i64 r.a, .int .i64 r.b, .string r.text] := Blk.new _ _ _
      have hBf := HB.out.alloc (.cells #[.int .i64 r.kind, .int .i64 r.a, .int .i64 r.b, .string r.text] 27)
      have hbr : Below w.heap.size w (wr.alloc (.cells #[.int .i64 r.kind, .int .i64 r.a, .int .i64 r.b, .string r.text] 27)) := hb.alloc hb.size _
      have hg1 : w.heap.size < (wr.alloc (.cells #[.int .i64 r.kind, .int .i64 r.a, .int .i64 r.b, .string r.text] 27)).heap.size := hBf.lt
      have hg2 : wr.heap.size < (wr.alloc (.cells #[.int .i64 r.kind, .int .i64 r.a, .int .i64 r.b, .string r.text] 27)).heap.size := hBr.lt
      clear HB c0 c1 c2 c3 hb
      obtain ⟨f0, f1, f2, z0, z1, z2⟩ := hBf.three
      have HBf := Lib.hid hBf
      clear hBf
      generalize wr.alloc (.cells #[.int .i64 r.kind, .int .i64 r.a, .int .i64 r.b, .string r.text] 27) = W0 at *
      have r0 := hBr.cell 0
      simp at r0
      go_wp2_with fail
      refine (picked_ex _ _ o0.1 o0.2 (by decide) (by decide) _).mono ?_
      rintro e w' ⟨p, p0, p1, rfl, rfl⟩
      by_cases hp : p = 0
      · subst hp
        go_wp2_with fail
        refine (tallyGot_f g s n hg0 (by omega) hs0 (by omega) hsg n0 (by omega) _).mono ?_
        rintro e w1 ⟨rfl, hb1⟩
        have hB1 := HBf.out.below hb1 hg1
        have hbw1 := hbr.trans (hb1.mono hbr.size)
        have hBy := hB1.alloc (.cells #[.bool false, .int .i64 (g + n), .int .i64 s] 24)
        have hbz : Below w.heap.size w (w1.alloc (.cells #[.bool false, .int .i64 (g + n), .int .i64 s] 24)) := hbw1.alloc hbw1.size _
        obtain ⟨x0, x1, x2, x3, x4, x5⟩ := hBy.three
        have HBy := Lib.hid hBy
        clear f0 f1 f2 z0 z1 z2 r0 hBr hBy hB1 hb1
        go_wp2_with fail
        go_roundw
        case rel =>
          refine ⟨k + 1, g + n, s, by omega, by go_num, rfl, rfl, by omega, by omega, by omega, by omega, HBy.out.set3 _ _ _, ?_⟩
          exact ((hbz.setCell (Nat.le_refl _) _).setCell (Nat.le_refl _) _).setCell (Nat.le_refl _) _
        case measure => simp [intOf]; omega
      · have hpb : (p == 0) = false := by simpa using hp
        go_wp2_with fail
        by_cases hsn : s + n ≤ 3 * g
        · refine (tallySend_f g s n hg0 (by omega) hs0 (by omega) hsg n0 (by omega) hsn _).mono ?_
          rintro e w1 ⟨rfl, hb1⟩
          have hB1 := HBf.out.below hb1 hg1
          have hbw1 := hbr.trans (hb1.mono hbr.size)
          have hBy := hB1.alloc (.cells #[.bool false, .int .i64 g, .int .i64 (s + n)] 24)
          have hbz : Below w.heap.size w (w1.alloc (.cells #[.bool false, .int .i64 g, .int .i64 (s + n)] 24)) := hbw1.alloc hbw1.size _
          obtain ⟨x0, x1, x2, x3, x4, x5⟩ := hBy.three
          have HBy := Lib.hid hBy
          clear f0 f1 f2 z0 z1 z2 r0 hBr hBy hB1 hb1
          go_wp2_with fail
          go_roundw
          case rel =>
            refine ⟨k + 1, g, s + n, by omega, by go_num, rfl, rfl, by omega, by omega, by omega, by omega, HBy.out.set3 _ _ _, ?_⟩
            exact ((hbz.setCell (Nat.le_refl _) _).setCell (Nat.le_refl _) _).setCell (Nat.le_refl _) _
          case measure => simp [intOf]; omega
        · refine (tallySend_amp g s n hg0 (by omega) hs0 (by omega) hsg n0 (by omega) (by omega) _).mono ?_
          rintro e w1 ⟨rfl, hb1⟩
          have hB1 := HBf.out.below hb1 hg1
          have hbw1 := hbr.trans (hb1.mono hbr.size)
          have hBy := hB1.alloc (.cells #[.bool false, .int .i64 0, .int .i64 0] 24)
          have hbz : Below w.heap.size w (w1.alloc (.cells #[.bool false, .int .i64 0, .int .i64 0] 24)) := hbw1.alloc hbw1.size _
          have HBy := Lib.hid hBy
          clear f0 f1 f2 z0 z1 z2 r0 hBr hBy hB1 hb1
          go_wp2_with fail
          go_roundw
          case rel => exact ⟨k + 1, g, s, by omega, by go_num, rfl, rfl, by omega, by omega, by omega, by omega, HBy.out, hbz⟩
          case measure => simp [intOf]; omega
    · obtain ⟨f0, f1, f2, z0, z1, z2⟩ := hB.three
      have HB := Lib.hid hB
      clear hB
      go_wp2_with fail
      refine (tallyKnow_f g s hg0 (by omega) hs0 (by omega) hsg _).mono ?_
      rintro e w1 ⟨rfl, hb1⟩
      have hB1 := HB.out.below hb1 HB.out.lt
      have hbw1 := hb.trans (hb1.mono hb.size)
      have hBk := Blk.new w1 24 #[.bool true, .int .i64 g, .int .i64 s]
      have hBy := hB1.alloc (.cells #[.bool true, .int .i64 g, .int .i64 s] 24)
      have hbz : Below w.heap.size w (w1.alloc (.cells #[.bool true, .int .i64 g, .int .i64 s] 24)) := hbw1.alloc hbw1.size _
      clear f0 f1 f2 z0 z1 z2 hB1 hb1 HB hb
      obtain ⟨f0, f1, f2, z0, z1, z2⟩ := hBy.three
      obtain ⟨q0, q1, q2, r0, r1, r2⟩ := hBk.three
      go_wp2_with fail
      refine (tallySend_t g s 400 hg0 (by omega) hs0 (by omega) (by decide) (by decide) _).mono ?_
      rintro e w3 ⟨rfl, hb3⟩
      have hBy3 := hBy.below hb3 hBy.lt
      have hBk3 := hBk.below hb3 hBk.lt
      have hbw3 := hbz.trans (hb3.mono hbz.size)
      clear f0 f1 f2 z0 z1 z2 q0 q1 q2 r0 r1 r2 hBy hBk hb3 hbz
      have hBy4 := hBy3.alloc (.cells #[.bool true, .int .i64 g, .int .i64 (s + 400)] 24)
      have hBk4 := hBk3.alloc (.cells #[.bool true, .int .i64 g, .int .i64 (s + 400)] 24)
      have hbw4 : Below w.heap.size w (w3.alloc (.cells #[.bool true, .int .i64 g, .int .i64 (s + 400)] 24)) := hbw3.alloc hbw3.size _
      clear hBy3 hBk3
      obtain ⟨f0, f1, f2, z0, z1, z2⟩ := hBy4.three
      obtain ⟨q0, q1, q2, r0, r1, r2⟩ := hBk4.three
      go_wp2_with fail
      refine (tallyGot_bad g s (-1) hg0 (by omega) hs0 (by omega) hsg (by decide) _).mono ?_
      rintro e w5 ⟨rfl, hb5⟩
      have hBy5 := hBy4.below hb5 hBy4.lt
      have hBk5 := hBk4.below hb5 hBk4.lt
      have hbw5 := hbw4.trans (hb5.mono hbw4.size)
      have hBy6 := hBy5.alloc (.cells #[.bool false, .int .i64 0, .int .i64 0] 24)
      have hBk6 := hBk5.alloc (.cells #[.bool false, .int .i64 0, .int .i64 0] 24)
      have hbw6 : Below w.heap.size w (w5.alloc (.cells #[.bool false, .int .i64 0, .int .i64 0] 24)) := hbw5.alloc hbw5.size _
      clear f0 f1 f2 z0 z1 z2 q0 q1 q2 r0 r1 r2 hBy4 hBk4 hb5 hBy5 hBk5
      obtain ⟨f0, f1, f2, z0, z1, z2⟩ := hBy6.three
      obtain ⟨q0, q1, q2, r0, r1, r2⟩ := hBk6.three
      go_wp2_with fail
      refine (tallyCheck_f g s hg0 (by omega) hs0 (by omega) hsg _).mono ?_
      rintro e w7 ⟨rfl, hb7⟩
      have hBk7 := hBk6.below hb7 hBk6.lt
      have hbw7 := hbw6.trans (hb7.mono hbw6.size)
      clear f0 f1 f2 z0 z1 z2 q0 q1 q2 r0 r1 r2 hBy6 hBk6 hb7
      obtain ⟨q0, q1, q2, r0, r1, r2⟩ := hBk7.three
      go_wp2_with fail
      go_ret
      exact ⟨by simp, hbw7⟩
end Go.Proofs.Ytolhlgalhhdkmaa
