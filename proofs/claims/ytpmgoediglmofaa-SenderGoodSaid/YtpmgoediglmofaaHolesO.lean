/- The contract of ranges.Holes: what it answers is the call's own. -/
import Derived.Test.YtpmgoediglmofaaHolesBWalk
namespace Go.Proofs.Ytpmgoediglmofaa
open Go.ChangeShapes Go.WideShapes Go.ChangeAt Go.RowKit
set_option linter.unusedVariables false

theorem OwnX.oneR {w : World} {base : Nat} {lo hi : Int} (hb : base ≤ w.heap.size) {H : Nat} (hH : w.heap.size = H) : OwnX rcells 2 (w.alloc (.cells #[.int .i64 lo, .int .i64 hi] 35)) base 35 (some ⟨H, 0, none⟩) 1 [(lo, hi)] := by
  subst hH
  exact (Blk.new w 35 #[.int .i64 lo, .int .i64 hi]).own hb rfl (by simp [maxLen])

set_option maxRecDepth 100000 in
set_option maxHeartbeats 1000000 in
theorem rHoles_own (A : Option Addr) (n c : Nat) (l : List Rng) (hn : l.length = n) (hl : goodFrom 0 l) (hnc : n ≤ c) (hcm : c ≤ 9223372036854775807) (lo hi : Int) (h0 : 0 ≤ lo) (h1 : lo ≤ hi) (h2 : hi ≤ 100000)
    (R : List Rng) (k_ : Nat) (hR : holesR l [(lo, hi)] = R) (hk : R.length = k_) (w : World) (hr : RdX rcells 2 w A l) :
    Calls Try.prog 35 #[.slice A n c, .agg #[.int .i64 lo, .int .i64 hi]] w fun e w' => ∃ A' c', e = .returned (.tuple #[.slice A' k_ c', .int .i64 0]) ∧ k_ ≤ c' ∧ c' ≤ 9223372036854775807 ∧ OwnX rcells 2 w' w.heap.size 35 A' c' R ∧ Below w.heap.size w w' := by
  have HN := Lib.hid hn
  have HL := Lib.hid hl
  have HR := Lib.hid hr
  have HRR := Lib.hid hR
  have HK := Lib.hid hk
  clear hn hl hr hR hk
  go_enter Try.func35, Try.ntmps35
  go_wp2_with fail
  refine (rFault_ok A n c l HN.out HL.out hnc hcm lo hi h0 h1 (by omega) _ (HR.out.alloc _)).mono ?_
  rintro e w1 ⟨rfl, hb1⟩
  have hB := (Blk.new w 35 #[.int .i64 lo, .int .i64 hi]).carry hb1
  have hb : Below w.heap.size w w1 := ((Below.refl _ _).alloc (Nat.le_refl _) _).trans (hb1.mono (by simp))
  have FB := hB.two
  clear hb1
  go_wp2_with fail
  have hs0 : SetOk [(lo, hi)] 100000 := ⟨⟨h0, h1, by show hi ≤ _; omega, trivial⟩, fun i hi => by
    rcases (memR_cons _ _ _).1 hi with h | h
    · have : i ≤ _ := h.2; simp at this; omega
    · exact absurd h (memR_nil i)⟩
  have HS0 := Lib.hid hs0
  clear hs0
  go_loopw [7, 20] (fun out i wr => ∃ (k : Nat) (A' : Option Addr) (m c' : Nat) (xs : List Rng), k ≤ n ∧ i = .int .i64 k ∧ out = .slice A' m c' ∧ xs.length = m ∧ m ≤ c' ∧ c' ≤ 9223372036854775807 ∧
      Hid (holesR (l.drop k) xs = R) ∧ SetOk xs 100000 ∧ OwnX rcells 2 wr w.heap.size 35 A' c' xs ∧ Below w.heap.size w wr) (fun _ i _ => n - (intOf i).toNat)
  case atStart => exact ⟨0, _, 1, 1, [(lo, hi)], Nat.zero_le _, rfl, rfl, rfl, by decide, by decide, HRR.out, HS0.out, OwnX.oneR hb.size rfl, hb.alloc hb.size _⟩
  case round =>
    obtain ⟨k, A', m, c', xs, hk, rfl, rfl, hm, hmc, hc', HX, hok, hrd, hb⟩ := hrel
    have hm5 : m ≤ 60000 := by have := hok.len (by decide); omega
    have HM := Lib.hid hm
    have HO := Lib.hid hok
    have HRD := Lib.hid hrd
    clear hm hok hrd
    by_cases hlt : k < n
    · have hlen := HN.out
      obtain ⟨b, off, rfl, hcell⟩ := (RdX.below HR.out hb).rcell (by omega)
      obtain ⟨c0, c1⟩ := hcell k (by omega)
      obtain ⟨g0, g1, g2⟩ := goodFrom_at HL.out (by decide) k (by omega)
      have HX2 : Hid (holesR (l.drop (k + 1)) (cutR xs (l.getD k (0, 0))) = R) := by
        have := HX.out; rw [holesR_drop l k (by omega)] at this; exact this
      obtain ⟨x1, x2, hx⟩ : ∃ x1 x2, l.getD k (0, 0) = (x1, x2) := ⟨_, _, rfl⟩
      rw [hx] at c0 c1 g0 g1 g2 HX2
      replace g0 : 0 ≤ x1 := g0
      replace g1 : x1 ≤ x2 := g1
      replace g2 : x2 ≤ 4611686018427387903 := g2
      clear hx HX hlen hcell
      have hok2 := HO.out.cut x1 x2 g1
      have HO2 := Lib.hid hok2
      clear hok2
      generalize hys : cutR xs (x1, x2) = ys at *
      have HY := Lib.hid hys
      clear hys
      obtain ⟨q, hq⟩ : ∃ q, ys.length = q := ⟨_, rfl⟩
      have HQ := Lib.hid hq
      clear hq
      go_wp2_with fail
      refine (rCut_own A' m c' xs HM.out HO.out.1 hmc hc' (by omega) x1 x2 g0 g1 g2 ys q HY.out HQ.out _ (HRD.out.rd.alloc _)).mono ?_
      rintro e w3 ⟨A3, c3, rfl, h3, h4, hrd3, hb3⟩
      replace hrd3 := hrd3.mono (show w.heap.size ≤ _ by have := hb.size; simp; omega)
      have HRD3 := Lib.hid hrd3
      have hbz := (hb.alloc hb.size (.cells #[.int .i64 x1, .int .i64 x2] 35)).trans (hb3.mono (by have := hb.size; simp; omega))
      clear hrd3 hb hb3 c0 c1
      go_wp2_with fail
      go_roundw
      case rel => exact ⟨k + 1, A3, q, c3, ys, by omega, by go_num, rfl, HQ.out, h3, h4, HX2, HO2.out, HRD3.out, hbz⟩
      case measure => simp [intOf]; omega
    · obtain rfl : k = n := by omega
      have hd : l.drop k = [] := List.drop_of_length_le (by have := HN.out; omega)
      have hR : xs = R := by have := HX.out; rw [hd] at this; exact this
      have hkm : m = k_ := by rw [← HM.out, hR]; exact HK.out
      subst hkm
      have hrd := HRD.out
      rw [hR] at hrd
      have HRD2 := Lib.hid hrd
      clear hrd hR hd
      go_wp2_with fail
      go_ret2
      exact ⟨A', c', rfl, hmc, hc', HRD2.out, hb⟩

end Go.Proofs.Ytpmgoediglmofaa
