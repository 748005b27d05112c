/- The contract of ranges.Add. -/
import Derived.Test.YtbcagdjfegobnaaGreatRangeWalk
namespace Go.Proofs.YtbcagdjfegobnaaGreat
open Go.ChangeShapes Go.WideShapes Go.ChangeAt Go.RowKit
set_option linter.unusedVariables false

theorem rngInfo : (Tryz.prog.info? 116).map (fun i => (i.zero, i.size, i.bytes)) = some (some (.agg #[.int .i64 0, .int .i64 0]), 2, 16) := by kernel_rfl

theorem addR_at (l : List Rng) (k : Nat) (hk : k < l.length) (r : Rng) (put : Bool) : addR (l.drop k) r put =
    (let x := l.getD k (0, 0)
     if x.2 + 1 < r.1 then x :: addR (l.drop (k + 1)) r put
     else if r.2 + 1 < x.1 then (if put then x :: addR (l.drop (k + 1)) r put else r :: x :: addR (l.drop (k + 1)) r true)
     else addR (l.drop (k + 1)) (min r.1 x.1, max r.2 x.2) put) := by
  rw [List.drop_eq_getElem_cons hk, show l.getD k (0, 0) = l[k] from by simp [List.getD, hk]]
  rfl

set_option maxRecDepth 100000 in
set_option maxHeartbeats 1000000 in
theorem rAdd_own (A : Option Addr) (n c : Nat) (l : List Rng) (hn : l.length = n) (hl : goodFrom 0 l) (hnc : n ≤ c) (hcm : c ≤ 9223372036854775807) (hnb : n ≤ 1000000) (lo hi : Int) (h0 : 0 ≤ lo) (h1 : lo ≤ hi) (h2 : hi ≤ 4611686018427387903)
    (R : List Rng) (k_ : Nat) (hR : addR l (lo, hi) false = R) (hk : R.length = k_) (w : World) (hr : RdX rcells 2 w A l) :
    Calls Tryz.prog 169 #[.slice A n c, .agg #[.int .i64 lo, .int .i64 hi]] w fun e w' => ∃ A' c', e = .returned (.tuple #[.slice A' k_ c', .int .i64 0]) ∧ k_ ≤ c' ∧ c' ≤ 9223372036854775807 ∧ OwnX rcells 2 w' w.heap.size 116 A' c' R ∧ Below w.heap.size w w' := by
  have HN := Lib.hid hn
  have HL := Lib.hid hl
  have HR := Lib.hid hr
  have HRR := Lib.hid hR
  have HK := Lib.hid hk
  clear hn hl hr hR hk
  go_enter Tryz.func169, Tryz.ntmps169
  go_wp2_with fail
  refine (rFault_ok A n c l HN.out HL.out hnc hcm lo hi h0 h1 h2 _ (HR.out.alloc _)).mono ?_
  rintro e w1 ⟨rfl, hb1⟩
  have hB := (Blk.new w 116 #[.int .i64 lo, .int .i64 hi]).carry hb1
  have hb : Below w.heap.size w w1 := ((Below.refl _ _).alloc (Nat.le_refl _) _).trans (hb1.mono (by simp))
  have hg := hB.lt
  clear hb1
  go_wp2_with fail
  go_loopw [7, 8, 19] (fun out put i wr => ∃ (k : Nat) (r1 r2 : Int) (p : Bool) (A' : Option Addr) (m c' : Nat) (xs : List Rng), k ≤ n ∧ i = .int .i64 k ∧ put = .bool p ∧ out = .slice A' m c' ∧ xs.length = m ∧ m ≤ 2 * k ∧
      Hid (xs ++ addR (l.drop k) (r1, r2) p = R) ∧ 0 ≤ r1 ∧ r1 ≤ r2 ∧ r2 ≤ 4611686018427387903 ∧ Blk wr w.heap.size 116 #[.int .i64 r1, .int .i64 r2] ∧ OwnX rcells 2 wr (w.heap.size + 1) 116 A' c' xs ∧ Below w.heap.size w wr) (fun _ _ i _ => n - (intOf i).toNat)
  case atStart => exact ⟨0, lo, hi, false, none, 0, 0, [], Nat.zero_le _, rfl, rfl, rfl, rfl, by decide, HRR.out, h0, h1, h2, hB, OwnX.nil _ _ _, hb⟩
  case round =>
    obtain ⟨k, r1, r2, p, A', m, c', xs, hk, rfl, rfl, rfl, hm, hmk, HX, q0, q1, q2, hB, hown, hb⟩ := hrel
    have HM := Lib.hid hm
    have HO := Lib.hid hown
    clear hm hown
    by_cases hlt : k < n
    · have hlen := HN.out
      obtain ⟨b, off, rfl, hcell⟩ := (RdX.below HR.out hb).rcell (by omega)
      obtain ⟨c0, c1⟩ := hcell k (by omega)
      obtain ⟨g0, g1, g2⟩ := goodFrom_at HL.out (by decide) k (by omega)
      have HX2 : Hid (xs ++ (let x := l.getD k (0, 0)
         if x.2 + 1 < r1 then x :: addR (l.drop (k + 1)) (r1, r2) p
         else if r2 + 1 < x.1 then (if p then x :: addR (l.drop (k + 1)) (r1, r2) p else (r1, r2) :: x :: addR (l.drop (k + 1)) (r1, r2) true)
         else addR (l.drop (k + 1)) (min r1 x.1, max r2 x.2) p) = R) := by
        have := HX.out; rw [addR_at l k (by omega)] at this; exact this
      obtain ⟨x1, x2, hx⟩ : ∃ x1 x2, l.getD k (0, 0) = (x1, x2) := ⟨_, _, rfl⟩
      rw [hx] at c0 c1 g0 g1 g2 HX2
      replace g0 : 0 ≤ x1 := g0
      replace g1 : x1 ≤ x2 := g1
      replace g2 : x2 ≤ 4611686018427387903 := g2
      clear hx HX hlen hcell
      have FB := hB.two
      have hgl := hB.lt
      by_cases h3 : x2 + 1 < r1
      · have HX3 : Hid ((xs ++ [(x1, x2)]) ++ addR (l.drop (k + 1)) (r1, r2) p = R) := by
          have := HX2.out; simp only [if_pos h3] at this; rw [List.append_assoc]; exact this
        clear HX2
        go_wp2_with (at_builtin
                     refine wpList_appX rcells 2 rcells_one _ rfl (.tmp 41) (.tmp 43) _ rfl (w.heap.size + 1) 116 _ 16 Tryz.underlying32 rngInfo rfl (by decide) (by decide) A' m c' xs rfl HM.out ((HO.out.alloc _).alloc _) _ 1 1 [(x1, x2)] rfl rfl (RdX.oneH _ _ (x1, x2) _ rfl rfl (by simp)) _ rfl (m + 1) rfl (by omega) (by simp; omega) ?_
                     intro A1 c2 w1 hO1 hc1 hc1' hb1 hgr1)
        have hBn : Blk w1 w.heap.size 116 #[.int .i64 r1, .int .i64 r2] := ((hB.alloc _).alloc _).below hb1 (by omega)
        have hbn := ((hb.alloc hb.size _).alloc (by simp; omega) _).trans (hb1.mono (by omega))
        clear FB hB hb hb1 c0 c1 HO
        go_wp2_with fail
        go_roundw
        case rel => exact ⟨k + 1, r1, r2, p, A1, m + 1, c2, xs ++ [(x1, x2)], by omega, by go_num, rfl, rfl, by simp [HM.out], by omega, HX3, q0, q1, q2, hBn, hO1, hbn⟩
        case measure => simp [intOf]; omega
      · by_cases h4 : r2 + 1 < x1
        · cases p
          · have HX3 : Hid (((xs ++ [(r1, r2)]) ++ [(x1, x2)]) ++ addR (l.drop (k + 1)) (r1, r2) true = R) := by
              have := HX2.out; simp only [if_neg h3, if_pos h4] at this; rw [List.append_assoc, List.append_assoc]; exact this
            clear HX2
            have hl1 : (xs ++ [(r1, r2)]).length = m + 1 := by simp [HM.out]
            have HL1 := Lib.hid hl1
            clear hl1
            go_wp2_with (first
              | (at_builtin
                 refine wpList_appX rcells 2 rcells_one _ rfl (.tmp 54) (.tmp 56) _ rfl (w.heap.size + 1) 116 _ 16 Tryz.underlying32 rngInfo rfl (by decide) (by decide) A' m c' xs rfl HM.out ((HO.out.alloc _).alloc _) _ 1 1 [(r1, r2)] rfl rfl (RdX.oneH _ _ (r1, r2) _ rfl rfl (by simp)) _ rfl (m + 1) rfl (by omega) (by simp; omega) ?_
                 intro A1 c2 w1 hO1 hc1 hc1' hb1 hgr1
                 have FX := (((Blk.new wr 116 #[.int .i64 x1, .int .i64 x2]).alloc _).grown hgr1 (fun h => (by have := (HO.out.lt _ h.symm).2; omega))).two
                 have HO1 := Lib.hid hO1
                 have hgx := hb1.size
                 simp at hgx
                 clear hO1)
              | (at_builtin
                 refine wpList_appX rcells 2 rcells_one _ rfl (.tmp 58) (.tmp 60) _ rfl (w.heap.size + 1) 116 _ 16 Tryz.underlying32 rngInfo rfl (by decide) (by decide) A1 (m + 1) c2 (xs ++ [(r1, r2)]) rfl HL1.out (HO1.out.alloc _) _ 1 1 [(x1, x2)] rfl rfl (RdX.oneH _ _ (x1, x2) _ rfl rfl (by simp)) _ rfl ((m + 1) + 1) rfl (by omega) (by simp; omega) ?_
                 intro A3 c3 w3 hO3 hc3 hc3' hb3 hgr3))
            have hBn : Blk w1 w.heap.size 116 #[.int .i64 r1, .int .i64 r2] := ((hB.alloc _).alloc _).below hb1 (by omega)
            have hbn := ((hb.alloc hb.size _).alloc (by simp; omega) _).trans (hb1.mono (by omega))
            clear FB hB hb hb1 c0 c1 HO
            have hBm : Blk w3 w.heap.size 116 #[.int .i64 r1, .int .i64 r2] := (hBn.alloc _).below hb3 (by omega)
            have hbm := (hbn.alloc hbn.size _).trans (hb3.mono (by omega))
            clear hbn hb3
            go_wp2_with fail
            go_roundw
            case rel => exact ⟨k + 1, r1, r2, true, A3, m + 1 + 1, c3, _, by omega, by go_num, rfl, rfl, by simp [HM.out], by omega, HX3, q0, q1, q2, hBm, hO3, hbm⟩
            case measure => simp [intOf]; omega
          · have HX3 : Hid ((xs ++ [(x1, x2)]) ++ addR (l.drop (k + 1)) (r1, r2) true = R) := by
              have := HX2.out; simp only [if_neg h3, if_pos h4, if_true] at this; rw [List.append_assoc]; exact this
            clear HX2
            go_wp2_with (at_builtin
                         refine wpList_appX rcells 2 rcells_one _ rfl (.tmp 58) (.tmp 60) _ rfl (w.heap.size + 1) 116 _ 16 Tryz.underlying32 rngInfo rfl (by decide) (by decide) A' m c' xs rfl HM.out ((HO.out.alloc _).alloc _) _ 1 1 [(x1, x2)] rfl rfl (RdX.oneH _ _ (x1, x2) _ rfl rfl (by simp)) _ rfl (m + 1) rfl (by omega) (by simp; omega) ?_
                         intro A1 c2 w1 hO1 hc1 hc1' hb1 hgr1)
            have hBn : Blk w1 w.heap.size 116 #[.int .i64 r1, .int .i64 r2] := ((hB.alloc _).alloc _).below hb1 (by omega)
            have hbn := ((hb.alloc hb.size _).alloc (by simp; omega) _).trans (hb1.mono (by omega))
            clear FB hB hb hb1 c0 c1 HO
            go_wp2_with fail
            go_roundw
            case rel => exact ⟨k + 1, r1, r2, true, A1, m + 1, c2, xs ++ [(x1, x2)], by omega, by go_num, rfl, rfl, by simp [HM.out], by omega, HX3, q0, q1, q2, hBn, hO1, hbn⟩
            case measure => simp [intOf]; omega
        · have HX3 : Hid (xs ++ addR (l.drop (k + 1)) (min r1 x1, max r2 x2) p = R) := by
            have := HX2.out; simp only [if_neg h3, if_neg h4] at this; exact this
          have hmn : (if x1 < r1 then x1 else r1) = min r1 x1 := by split <;> omega
          have hmx : (if r2 < x2 then x2 else r2) = max r2 x2 := by split <;> omega
          have hb01 : 0 ≤ min r1 x1 ∧ min r1 x1 ≤ max r2 x2 ∧ max r2 x2 ≤ 4611686018427387903 := by omega
          generalize min r1 x1 = y1 at *
          generalize max r2 x2 = y2 at *
          clear HX2
          go_wp2_with fail
          go_roundw
          case rel => exact ⟨k + 1, y1, y2, p, A', m, c', xs, by omega, by go_num, rfl, rfl, HM.out, by omega, HX3, hb01.1, hb01.2.1, hb01.2.2, (hB.set2 _ _).alloc _, ((HO.out.set_below (by simp) _).set_below (by simp) _).alloc _, ((hb.setCell (Nat.le_refl _) _).setCell (Nat.le_refl _) _).alloc (by have := hb.size; simpa using this) _⟩
          case measure => simp [intOf]; omega
    · obtain rfl : k = n := by omega
      have hd : l.drop k = [] := List.drop_of_length_le (by have := HN.out; omega)
      have HXe : Hid (xs ++ (if p then [] else [(r1, r2)]) = R) := by have := HX.out; rw [hd] at this; cases p <;> exact this
      have FB := hB.two
      have hgl := hB.lt
      clear HX hd
      cases p
      · go_wp2_with (at_builtin
                     refine wpList_appX rcells 2 rcells_one _ rfl (.tmp 65) (.tmp 67) _ rfl (w.heap.size + 1) 116 _ 16 Tryz.underlying32 rngInfo rfl (by decide) (by decide) A' m c' xs rfl HM.out (HO.out.alloc _) _ 1 1 [(r1, r2)] rfl rfl (RdX.oneH _ _ (r1, r2) _ rfl rfl (by simp)) _ rfl (m + 1) rfl (by omega) (by simp; omega) ?_
                     intro A1 c2 w1 hO1 hc1 hc1' hb1 hgr1)
        have hR : xs ++ [(r1, r2)] = R := HXe.out
        have hkk := HK.out
        rw [← hR] at hkk
        have hkm : m + 1 = k_ := by have := HM.out; simp at hkk; omega
        subst hkm
        rw [hR] at hO1
        go_ret2
        exact ⟨A1, c2, rfl, hc1, hc1', hO1.mono (by omega), (hb.alloc hb.size _).trans (hb1.mono (by omega))⟩
      · have hR : xs = R := by have := HXe.out; simpa using this
        have hkk := HK.out
        have hkm : m = k_ := by have := HM.out; rw [hR] at this; omega
        subst hkm
        have hO := HO.out
        rw [hR] at hO
        have hcp := hO.cap
        rw [hkk] at hcp
        have HO2 := Lib.hid hO
        clear hO hR hkk
        go_wp2_with fail
        go_ret2
        exact ⟨A', c', rfl, hcp.1, hcp.2, HO2.out.mono (by omega), hb⟩
end Go.Proofs.YtbcagdjfegobnaaGreat
