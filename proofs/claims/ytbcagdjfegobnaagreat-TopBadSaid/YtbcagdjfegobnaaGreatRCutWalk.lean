/- The contract of ranges.Cut. -/
import Derived.Test.YtbcagdjfegobnaaGreatAddWalk
namespace Go.Proofs.YtbcagdjfegobnaaGreat
open Go.ChangeShapes Go.WideShapes Go.ChangeAt Go.RowKit
set_option linter.unusedVariables false

theorem cutR_at (l : List Rng) (k : Nat) (hk : k < l.length) (r : Rng) : cutR (l.drop k) r =
    (let x := l.getD k (0, 0)
     (if x.1 < r.1 then [(x.1, min x.2 (r.1 - 1))] else []) ++ ((if r.2 < x.2 then [(max x.1 (r.2 + 1), x.2)] else []) ++ cutR (l.drop (k + 1)) r)) := by
  rw [List.drop_eq_getElem_cons hk, show l.getD k (0, 0) = l[k] from by simp [List.getD, hk]]
  rfl

set_option maxRecDepth 100000 in
set_option maxHeartbeats 1000000 in
theorem rCut_own (A : Option Addr) (n c : Nat) (l : List Rng) (hn : l.length = n) (hl : goodFrom 0 l) (hnc : n ≤ c) (hcm : c ≤ 9223372036854775807) (hnb : n ≤ 1000000) (lo hi : Int) (h0 : 0 ≤ lo) (h1 : lo ≤ hi) (h2 : hi ≤ 4611686018427387903)
    (R : List Rng) (k_ : Nat) (hR : cutR l (lo, hi) = R) (hk : R.length = k_) (w : World) (hr : RdX rcells 2 w A l) :
    Calls Tryz.prog 186 #[.slice A n c, .agg #[.int .i64 lo, .int .i64 hi]] w fun e w' => ∃ A' c', e = .returned (.tuple #[.slice A' k_ c', .int .i64 0]) ∧ k_ ≤ c' ∧ c' ≤ 9223372036854775807 ∧ OwnX rcells 2 w' w.heap.size 116 A' c' R ∧ Below w.heap.size w w' := by
  have HN := Lib.hid hn
  have HL := Lib.hid hl
  have HR := Lib.hid hr
  have HRR := Lib.hid hR
  have HK := Lib.hid hk
  clear hn hl hr hR hk
  go_enter Tryz.func186, Tryz.ntmps186
  go_wp2_with fail
  refine (rFault_ok A n c l HN.out HL.out hnc hcm lo hi h0 h1 h2 _ (HR.out.alloc _)).mono ?_
  rintro e w1 ⟨rfl, hb1⟩
  have hB := (Blk.new w 116 #[.int .i64 lo, .int .i64 hi]).carry hb1
  have hb : Below w.heap.size w w1 := ((Below.refl _ _).alloc (Nat.le_refl _) _).trans (hb1.mono (by simp))
  clear hb1
  go_wp2_with fail
  go_loopw [7, 18] (fun out i wr => ∃ (k : Nat) (A' : Option Addr) (m c' : Nat) (xs : List Rng), k ≤ n ∧ i = .int .i64 k ∧ out = .slice A' m c' ∧ xs.length = m ∧ m ≤ 2 * k ∧
      Hid (xs ++ cutR (l.drop k) (lo, hi) = R) ∧ Blk wr w.heap.size 116 #[.int .i64 lo, .int .i64 hi] ∧ OwnX rcells 2 wr (w.heap.size + 1) 116 A' c' xs ∧ Below w.heap.size w wr) (fun _ i _ => n - (intOf i).toNat)
  case atStart => exact ⟨0, none, 0, 0, [], Nat.zero_le _, rfl, rfl, rfl, by decide, HRR.out, hB, OwnX.nil _ _ _, hb⟩
  case round =>
    obtain ⟨k, A', m, c', xs, hk, rfl, rfl, hm, hmk, HX, hB, hown, hb⟩ := hrel
    have HM := Lib.hid hm
    have HO := Lib.hid hown
    clear hm hown
    by_cases hlt : k < n
    · have hlen := HN.out
      obtain ⟨b, off, rfl, hcell⟩ := (RdX.below HR.out hb).rcell (by omega)
      obtain ⟨c0, c1⟩ := hcell k (by omega)
      obtain ⟨g0, g1, g2⟩ := goodFrom_at HL.out (by decide) k (by omega)
      have HX2 : Hid (xs ++ (let x := l.getD k (0, 0)
         (if x.1 < lo then [(x.1, min x.2 (lo - 1))] else []) ++ ((if hi < x.2 then [(max x.1 (hi + 1), x.2)] else []) ++ cutR (l.drop (k + 1)) (lo, hi))) = R) := by
        have := HX.out; rw [cutR_at l k (by omega)] at this; exact this
      obtain ⟨x1, x2, hx⟩ : ∃ x1 x2, l.getD k (0, 0) = (x1, x2) := ⟨_, _, rfl⟩
      rw [hx] at c0 c1 g0 g1 g2 HX2
      replace g0 : 0 ≤ x1 := g0
      replace g1 : x1 ≤ x2 := g1
      replace g2 : x2 ≤ 4611686018427387903 := g2
      clear hx HX hlen hcell
      have FB := hB.two
      have hgl := hB.lt
      obtain ⟨mn, hmn, hmn2⟩ : ∃ mn, (if lo - 1 < x2 then lo - 1 else x2) = mn ∧ min x2 (lo - 1) = mn := ⟨_, rfl, by split <;> omega⟩
      obtain ⟨mx, hmx, hmx2⟩ : ∃ mx, (if x1 < hi + 1 then hi + 1 else x1) = mx ∧ max x1 (hi + 1) = mx := ⟨_, rfl, by split <;> omega⟩
      simp only [hmn2, hmx2] at HX2
      clear hmn2 hmx2
      by_cases h3 : x1 < lo
      · by_cases h4 : hi < x2
        · obtain rfl : mn = lo - 1 := by rw [← hmn, if_pos (by omega)]
          obtain rfl : mx = hi + 1 := by rw [← hmx, if_pos (by omega)]
          clear hmn hmx
          have HX3 : Hid (((xs ++ [(x1, lo - 1)]) ++ [(hi + 1, x2)]) ++ cutR (l.drop (k + 1)) (lo, hi) = R) := by
            have := HX2.out; simp only [if_pos h3, if_pos h4] at this; unfold Hid; simpa [List.append_assoc] using this
          clear HX2
          have hl1 : (xs ++ [(x1, lo - 1)]).length = m + 1 := by simp [HM.out]
          have HL1 := Lib.hid hl1
          clear hl1
          go_wp2_with (first
              | (at_builtin
                 refine wpList_appX rcells 2 rcells_one _ rfl (.tmp 27) (.tmp 37) _ rfl (w.heap.size + 1) 116 _ 16 Tryz.underlying32 rngInfo rfl (by decide) (by decide) A' m c' xs rfl HM.out ((HO.out.alloc _).alloc _) _ 1 1 [(x1, lo - 1)] rfl rfl (RdX.oneH _ _ (x1, lo - 1) _ rfl rfl (by simp)) _ rfl (m + 1) rfl (by omega) (by simp; omega) ?_
                 intro A1 c2 w1 hO1 hc1 hc1' hb1 hgr1
                 have FX := (((Blk.new wr 116 #[.int .i64 x1, .int .i64 x2]).alloc _).grown hgr1 (fun h => (by have := (HO.out.lt _ h.symm).2; omega))).two
                 have FB1 := (((hB.alloc _).alloc _).below hb1 (by omega)).two
                 have HO1 := Lib.hid hO1
                 have hgx := hb1.size
                 simp at hgx
                 clear hO1)
              | (at_builtin
                 refine wpList_appX rcells 2 rcells_one _ rfl (.tmp 44) (.tmp 54) _ rfl (w.heap.size + 1) 116 _ 16 Tryz.underlying32 rngInfo rfl (by decide) (by decide) A1 (m + 1) c2 (xs ++ [(x1, lo - 1)]) rfl HL1.out (HO1.out.alloc _) _ 1 1 [(hi + 1, x2)] rfl rfl (RdX.oneH _ _ (hi + 1, x2) _ rfl rfl (by simp)) _ rfl ((m + 1) + 1) rfl (by omega) (by simp; omega) ?_
                 intro A3 c3 w3 hO3 hc3 hc3' hb3 hgr3))
          have hBn : Blk w1 w.heap.size 116 #[.int .i64 lo, .int .i64 hi] := ((hB.alloc _).alloc _).below hb1 (by omega)
          have hbn := ((hb.alloc hb.size _).alloc (by simp; omega) _).trans (hb1.mono (by omega))
          have hBm : Blk w3 w.heap.size 116 #[.int .i64 lo, .int .i64 hi] := (hBn.alloc _).below hb3 (by omega)
          have hbm := (hbn.alloc hbn.size _).trans (hb3.mono (by omega))
          clear FB FB1 FX hB hb hb1 c0 c1 HO hbn hb3
          go_wp2_with fail
          go_roundw
          case rel => exact ⟨k + 1, A3, m + 1 + 1, c3, _, by omega, by go_num, rfl, by simp [HM.out], by omega, HX3, hBm, hO3, hbm⟩
          case measure => simp [intOf]; omega
        · skip
          have HX3 : Hid ((xs ++ [(x1, mn)]) ++ cutR (l.drop (k + 1)) (lo, hi) = R) := by
            have := HX2.out; simp only [if_pos h3, if_neg h4] at this; unfold Hid; simpa [List.append_assoc] using this
          clear HX2
          go_wp2_with (first
              | (at_builtin
                 refine wpList_appX rcells 2 rcells_one _ rfl (.tmp 27) (.tmp 37) _ rfl (w.heap.size + 1) 116 _ 16 Tryz.underlying32 rngInfo rfl (by decide) (by decide) A' m c' xs rfl HM.out ((HO.out.alloc _).alloc _) _ 1 1 [(x1, mn)] rfl rfl (RdX.oneH _ _ (x1, mn) _ rfl rfl (by simp)) _ rfl (m + 1) rfl (by omega) (by simp; omega) ?_
                 intro A1 c2 w1 hO1 hc1 hc1' hb1 hgr1
                 have FX := (((Blk.new wr 116 #[.int .i64 x1, .int .i64 x2]).alloc _).grown hgr1 (fun h => (by have := (HO.out.lt _ h.symm).2; omega))).two
                 have FB1 := (((hB.alloc _).alloc _).below hb1 (by omega)).two
                 have HO1 := Lib.hid hO1
                 clear hO1))
          have hBn : Blk w1 w.heap.size 116 #[.int .i64 lo, .int .i64 hi] := ((hB.alloc _).alloc _).below hb1 (by omega)
          have hbn := ((hb.alloc hb.size _).alloc (by simp; omega) _).trans (hb1.mono (by omega))
          clear FB FB1 FX hB hb hb1 c0 c1 HO
          go_wp2_with fail
          go_roundw
          case rel => exact ⟨k + 1, A1, m + 1, c2, _, by omega, by go_num, rfl, by simp [HM.out], by omega, HX3, hBn, HO1.out, hbn⟩
          case measure => simp [intOf]; omega
      · by_cases h4 : hi < x2
        · skip
          have HX3 : Hid ((xs ++ [(mx, x2)]) ++ cutR (l.drop (k + 1)) (lo, hi) = R) := by
            have := HX2.out; simp only [if_neg h3, if_pos h4] at this; unfold Hid; simpa [List.append_assoc] using this
          clear HX2
          go_wp2_with (first
              | (at_builtin
                 refine wpList_appX rcells 2 rcells_one _ rfl (.tmp 44) (.tmp 54) _ rfl (w.heap.size + 1) 116 _ 16 Tryz.underlying32 rngInfo rfl (by decide) (by decide) A' m c' xs rfl HM.out ((HO.out.alloc _).alloc _) _ 1 1 [(mx, x2)] rfl rfl (RdX.oneH _ _ (mx, x2) _ rfl rfl (by simp)) _ rfl (m + 1) rfl (by omega) (by simp; omega) ?_
                 intro A1 c2 w1 hO1 hc1 hc1' hb1 hgr1
                 have FX := (((Blk.new wr 116 #[.int .i64 x1, .int .i64 x2]).alloc _).grown hgr1 (fun h => (by have := (HO.out.lt _ h.symm).2; omega))).two
                 have FB1 := (((hB.alloc _).alloc _).below hb1 (by omega)).two
                 have HO1 := Lib.hid hO1
                 clear hO1))
          have hBn : Blk w1 w.heap.size 116 #[.int .i64 lo, .int .i64 hi] := ((hB.alloc _).alloc _).below hb1 (by omega)
          have hbn := ((hb.alloc hb.size _).alloc (by simp; omega) _).trans (hb1.mono (by omega))
          clear FB FB1 FX hB hb hb1 c0 c1 HO
          go_wp2_with fail
          go_roundw
          case rel => exact ⟨k + 1, A1, m + 1, c2, _, by omega, by go_num, rfl, by simp [HM.out], by omega, HX3, hBn, HO1.out, hbn⟩
          case measure => simp [intOf]; omega
        · skip
          have HX3 : Hid (xs ++ cutR (l.drop (k + 1)) (lo, hi) = R) := by
            have := HX2.out; simp only [if_neg h3, if_neg h4] at this; unfold Hid; simpa [List.append_assoc] using this
          clear HX2
          go_wp2_with fail
          go_roundw
          case rel => exact ⟨k + 1, A', m, c', xs, by omega, by go_num, rfl, HM.out, by omega, HX3, hB.alloc _, HO.out.alloc _, hb.alloc hb.size _⟩
          case measure => simp [intOf]; omega
    · obtain rfl : k = n := by omega
      have hd : l.drop k = [] := List.drop_of_length_le (by have := HN.out; omega)
      have hR : xs = R := by have := HX.out; rw [hd] at this; simpa [cutR] using this
      have hkk := HK.out
      have hkm : m = k_ := by have := HM.out; rw [hR] at this; omega
      subst hkm
      have hO := HO.out
      rw [hR] at hO
      have hcp := hO.cap
      rw [hkk] at hcp
      have HO2 := Lib.hid hO
      clear hO hR hkk HX hd HO
      go_wp2_with fail
      go_ret2
      exact ⟨A', c', rfl, hcp.1, hcp.2, HO2.out.mono (by omega), hb⟩
end Go.Proofs.YtbcagdjfegobnaaGreat
