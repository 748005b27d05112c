/- The contracts of gather.Check and end, whatever is held. -/
import Derived.Test.YtolhlgalhhdkmabPieceWalk
namespace Go.Proofs.Ytolhlgalhhdkmab
open Go.ChangeShapes Go.WideShapes Go.ChangeAt Go.RowKit
set_option linter.unusedVariables false

theorem below_drewN {B : Nat} {a w : World} (h : Below B a w) (n : Nat) : Below B a (w.drewN n) := ⟨h.os, h.tape, h.output, h.size, h.block⟩

/-- Where the bytes ahead of piece k end. -/
def endP (d : Int) (qs : List (Int × List UInt8)) (k : Nat) : Int := if k = 0 then d else (qs.getD (k - 1) (0, [])).1 + (qs.getD (k - 1) (0, [])).2.length
/-- Pieces that may be held behind d. -/
def GHeld (d : Int) (qs : List (Int × List UInt8)) : Prop := ∀ k, k < qs.length → 0 < (qs.getD k (0, [])).2.length ∧ endP d qs k ≤ (qs.getD k (0, [])).1 ∧ (k = 0 ∨ endP d qs k < (qs.getD k (0, [])).1) ∧ (qs.getD k (0, [])).1 + (qs.getD k (0, [])).2.length ≤ 4611686018427387903
theorem endP_succ (d : Int) (qs : List (Int × List UInt8)) (k : Nat) : endP d qs (k + 1) = (qs.getD k (0, [])).1 + (qs.getD k (0, [])).2.length := by simp [endP]
theorem pl_getD (ps : List PD) (k : Nat) : (ps.map PD.pl).getD k (0, []) = (ps.getD k pdn).pl := by
  simp only [List.getD, List.getElem?_map]
  cases ps[k]? <;> rfl
/-- What is held ends no farther than where it ends. -/
theorem GHeld.le {d : Int} {qs : List (Int × List UInt8)} (h : GHeld d qs) (k : Nat) (hk : k ≤ qs.length) : d ≤ endP d qs k := by
  induction k with
  | zero => simp [endP]
  | succ k ih =>
    have := ih (by omega)
    have h1 := h k (by omega)
    rw [endP_succ]; omega

set_option maxRecDepth 100000 in
set_option maxHeartbeats 2000000 in
theorem gCheck_any (d f win : Int) (A : Option Addr) (n c : Nat) (ps : List PD) (hn : ps.length = n) (hnc : n ≤ c) (hcm : c ≤ 9223372036854775807) (hn4 : n ≤ 4) (h0 : 0 ≤ d) (h1 : -1 ≤ f) (h2 : d ≤ win) (h3 : win ≤ 4611686018427387903)
    (hh : GHeld d (ps.map PD.pl)) (he : endP d (ps.map PD.pl) n ≤ win) (hf : 0 ≤ f → endP d (ps.map PD.pl) n ≤ f) (w : World) (h : RdP w A ps) :
    Calls Try.prog 26 #[.agg #[.int .i64 d, .slice A n c, .int .i64 f, .int .i64 win]] w fun e w' => e = .returned (.int .i64 0) ∧ Below w.heap.size w w' := by
  have HN := Lib.hid hn
  have HP := Lib.hid h
  have HH := Lib.hid hh
  have HE := Lib.hid he
  have HF := Lib.hid hf
  have hn4' : (n : Int) ≤ 4 := by omega
  clear hn h hh he hf
  go_enter Try.func26, Try.ntmps26
  have hb0 : ∀ o, Below w.heap.size w (w.alloc o) := fun o => (Below.refl _ _).alloc (Nat.le_refl _) _
  go_upto_region 1 with (fail)
  refine wp_world (fun w' => Blk w' w.heap.size 47 #[.int .i64 d, .slice A n c, .int .i64 f, .int .i64 win] ∧ Below w.heap.size w w') ⟨Blk.new _ _ _, hb0 _⟩ ?_
  clear hb0
  rintro w1 ⟨hG, hb1⟩
  have FG := hG.facts4
  have HG := Lib.hid hG
  have HB1 := Lib.hid hb1
  clear hG hb1
  go_wp2_with fail
  clear FG
  go_loopw [3, 4, 38] (fun s3 s4 s38 wr => ∃ k : Nat, k ≤ n ∧ s38 = .int .i64 k ∧ s3 = .bool true ∧ s4 = .int .i64 (endP d (ps.map PD.pl) k) ∧ Below w1.heap.size w1 wr) (fun _ _ i _ => n - (intOf i).toNat)
  case atStart => exact ⟨0, Nat.zero_le _, rfl, by simp, by simp [endP], Below.refl _ _⟩
  case round =>
    obtain ⟨k, hk, rfl, rfl, rfl, hb⟩ := hrel
    have HB := Lib.hid hb
    clear hb
    by_cases hlt : k < n
    · obtain ⟨b, off, hA, hcell⟩ := (HP.out.below (HB1.out.trans (HB.out.mono HB1.out.size))).at_ (by rw [HN.out]; omega)
      subst hA
      obtain ⟨c0, c1'⟩ := hcell k (by rw [HN.out]; exact hlt)
      have hgk := HH.out k (by rw [List.length_map, HN.out]; exact hlt)
      have hge := HH.out.le k (by rw [List.length_map, HN.out]; exact hk)
      have hes := endP_succ d (ps.map PD.pl) k
      rw [pl_getD] at hgk hes
      clear hcell
      generalize ps.getD k pdn = p at *
      obtain ⟨po, pD, pc, pd⟩ := p
      simp only [PD.pl] at c0 c1' hgk hes
      obtain ⟨l, hl⟩ : ∃ l, pd.length = l := ⟨_, rfl⟩
      rw [hl] at c1' hgk hes
      obtain ⟨g1, g2, g3, g4⟩ := hgk
      generalize endP d (ps.map PD.pl) k = e0 at *
      have HES := Lib.hid hes
      have hk0 : (0 : Int) ≤ (k : Int) := by omega
      have hk1 : (k : Int) < (n : Int) := by omega
      have hl1 : (0 : Int) < (l : Int) := by omega
      have hl2 : po ≤ 4611686018427387903 - (l : Int) := by omega
      have hbr := fun o => HB.out.alloc HB.out.size o
      have HBR := Lib.hid hbr
      clear hl hes g1 hbr
      rcases Nat.eq_zero_or_pos k with rfl | hkp
      · simp only [Nat.zero_mul, Nat.add_zero] at c0 c1'
        go_wp2_with fail
        go_roundw
        case rel => exact ⟨0 + 1, by omega, by go_num, by simp, by rw [HES.out], HBR.out _⟩
        case measure => simp [intOf]; omega
      · have g5 : e0 < po := by omega
        have hkz : ((k : Int) == 0) = false := by simp; omega
        go_wp2_with fail
        go_roundw
        case rel => exact ⟨k + 1, by omega, by go_num, by simp, by rw [HES.out], HBR.out _⟩
        case measure => simp [intOf]; omega
    · obtain rfl : k = n := by omega
      have hE := HE.out
      have hF := HF.out
      have hge := HH.out.le k (by rw [List.length_map, HN.out]; exact hk)
      generalize endP d (ps.map PD.pl) k = e0 at *
      have FG := (HG.out.carry HB.out).facts4
      by_cases hf0 : 0 ≤ f
      · have hF' := hF hf0
        clear hF
        go_wp2_with fail
        go_ret
        exact ⟨by first | rfl | simp, HB1.out.trans (HB.out.mono HB1.out.size)⟩
      · clear hF
        go_wp2_with fail
        go_ret
        exact ⟨by first | rfl | simp, HB1.out.trans (HB.out.mono HB1.out.size)⟩

set_option maxRecDepth 100000 in
set_option maxHeartbeats 1000000 in
theorem gEnd_any (d f win : Int) (A : Option Addr) (n c : Nat) (ps : List PD) (hn : ps.length = n) (hnc : n ≤ c) (hcm : c ≤ 9223372036854775807) (h0 : 0 ≤ d) (hh : GHeld d (ps.map PD.pl)) (w : World) (h : RdP w A ps) :
    Calls Try.prog 34 #[.agg #[.int .i64 d, .slice A n c, .int .i64 f, .int .i64 win]] w fun e w' => e = .returned (.int .i64 (endP d (ps.map PD.pl) n)) ∧ Below w.heap.size w w' := by
  rcases Nat.eq_zero_or_pos n with h00 | hpos
  · subst h00
    go_enter Try.func34, Try.ntmps34
    go_wp2_with fail
    go_ret
    exact ⟨by simp [endP], (Below.refl _ _).alloc (Nat.le_refl _) _⟩
  · obtain ⟨k, rfl⟩ : ∃ k, n = k + 1 := ⟨n - 1, by omega⟩
    have hb0 : ∀ o, Below w.heap.size w (w.alloc o) := fun o => (Below.refl _ _).alloc (Nat.le_refl _) _
    obtain ⟨b, off, hA, hcell⟩ := h.at_ (by omega)
    subst hA
    obtain ⟨c0, c1'⟩ := hcell k (by omega)
    have hgk := hh k (by rw [List.length_map]; omega)
    have hge := hh.le k (by rw [List.length_map]; omega)
    have hes := endP_succ d (ps.map PD.pl) k
    rw [pl_getD] at hgk hes
    rw [hes]
    have hlt := World.block_lt_of_cell? w _ c0
    clear hcell hes h hh
    generalize endP d (ps.map PD.pl) k = e0 at *
    generalize ps.getD k pdn = p at *
    obtain ⟨po, pD, pc, pd⟩ := p
    simp only [PD.pl] at c0 c1' hgk ⊢
    obtain ⟨l, hl⟩ : ∃ l, pd.length = l := ⟨_, rfl⟩
    rw [hl] at c1' hgk ⊢
    clear hn hl
    obtain ⟨g1, g2, g3, g4⟩ := hgk
    obtain ⟨n, hnk⟩ : ∃ n, k + 1 = n := ⟨_, rfl⟩
    rw [hnk] at hnc ⊢
    have hi0 : (0 : Int) ≤ (k : Int) := by omega
    have hi1 : (k : Int) < (n : Int) := by omega
    have hi2 : (n : Int) - 1 = (k : Int) := by omega
    have hnp : decide (0 < n) = true := decide_eq_true (by omega)
    have hnp2 : (0 : Int) < (n : Int) := by omega
    have HB0 := Lib.hid hb0
    clear hb0 hnk hpos
    go_enter Try.func34, Try.ntmps34
    go_wp2_with fail
    go_quiet (fail)
    go_wp2_with fail
    go_ret
    have hb := HB0.out
    exact ⟨rfl, below_drewN (hb _) _⟩
end Go.Proofs.Ytolhlgalhhdkmab
