/- Texts of the proof, laid together: Space. -/
import Derived.Test.YtbcagdjfegobnaaGreatC03
import Derived.Test.YtbcagdjfegobnaaGreatC04
import Derived.BigRegion
import Derived.BigQuiet
import Derived.Deep.QuietTactic
import Derived.Deep.DeepCutAuto
import Derived.Deep.RegionHeld3
/- Spaces: packets that were sent (with no frames), ranges that were heard of, numbers that were left out; the contracts of skipped, Check, frames. -/
namespace Go.Proofs.YtbcagdjfegobnaaGreat
open Go.ChangeShapes Go.WideShapes Go.ChangeAt Go.RowKit
set_option linter.unusedVariables false

/-- A packet that was sent: its number, time and size. -/
abbrev Pcl := Int × Int × Int
def pclc (p : Pcl) : List Value := [.int .i64 p.1, .int .i64 p.2.1, .int .i64 p.2.2, .slice none 0 0]
def pcln : Pcl := (0, 0, 0)
theorem pclc_len (p : Pcl) : (pclc p).length = 4 := rfl
def icells (x : Int) : List Value := [.int .i64 x]
theorem icells_len (x : Int) : (icells x).length = 1 := rfl
theorem RdX.pcl {w : World} {A : Option Addr} {xs : List Pcl} (h : RdX pclc 4 w A xs) (hn : 0 < xs.length) : ∃ b off, A = some ⟨b, off, none⟩ ∧ ∀ k, k < xs.length → w.cell? ⟨b, off + k * 4, none⟩ = some (.int .i64 (xs.getD k pcln).1) ∧ w.cell? ⟨b, off + k * 4 + 1, none⟩ = some (.int .i64 (xs.getD k pcln).2.1) ∧ w.cell? ⟨b, off + k * 4 + 2, none⟩ = some (.int .i64 (xs.getD k pcln).2.2) ∧ w.cell? ⟨b, off + k * 4 + 3, none⟩ = some (.slice none 0 0) := by
  obtain ⟨b, off, e, hc⟩ := RdX.at_ pclc_len h pcln hn
  exact ⟨b, off, e, fun k hk => ⟨hc k hk 0 _ (by decide) rfl, hc k hk 1 _ (by decide) rfl, hc k hk 2 _ (by decide) rfl, hc k hk 3 _ (by decide) rfl⟩⟩
theorem RdX.int {w : World} {A : Option Addr} {xs : List Int} (h : RdX icells 1 w A xs) (hn : 0 < xs.length) : ∃ b off, A = some ⟨b, off, none⟩ ∧ ∀ k, k < xs.length → w.cell? ⟨b, off + k, none⟩ = some (.int .i64 (xs.getD k 0)) := by
  obtain ⟨b, off, e, hc⟩ := RdX.at_ icells_len h 0 hn
  exact ⟨b, off, e, fun k hk => by have := hc k hk 0 _ (by decide) rfl; simpa using this⟩

theorem Blk.facts5 {w : World} {g : Nat} {t : TypeId} {x y z u v : Value} (h : Blk w g t #[x, y, z, u, v]) : g < w.heap.size ∧ w.cell? ⟨g, 0, none⟩ = some x ∧ w.cell? ⟨g, 1, none⟩ = some y ∧ w.cell? ⟨g, 2, none⟩ = some z ∧ w.cell? ⟨g, 3, none⟩ = some u ∧ w.cell? ⟨g, 4, none⟩ = some v ∧
    w.frozen? ⟨g, 0, none⟩ = false ∧ w.frozen? ⟨g, 1, none⟩ = false ∧ w.frozen? ⟨g, 2, none⟩ = false ∧ w.frozen? ⟨g, 3, none⟩ = false ∧ w.frozen? ⟨g, 4, none⟩ = false :=
  ⟨h.lt, by rw [h.cell]; rfl, by rw [h.cell]; rfl, by rw [h.cell]; rfl, by rw [h.cell]; rfl, by rw [h.cell]; rfl, h.frozen 0, h.frozen 1, h.frozen 2, h.frozen 3, h.frozen 4⟩

/-- The number of the packet ahead of the k-th one. -/
def lastAt (ps : List Pcl) : Nat → Int
  | 0 => -1
  | k + 1 => (ps.getD k pcln).1
def lastK (ks : List Int) : Nat → Int
  | 0 => -1
  | k + 1 => ks.getD k 0
/-- Packets that may be on their way. -/
def POk (nx : Int) (ks : List Int) (ps : List Pcl) : Prop := ps.Pairwise (fun a b => a.1 < b.1) ∧ ∀ p ∈ ps, 0 ≤ p.1 ∧ p.1 < nx ∧ (0 ≤ p.2.1 ∧ p.2.1 ≤ 1099511627776) ∧ (0 ≤ p.2.2 ∧ p.2.2 ≤ 400) ∧ ks.contains p.1 = false
def KOk (nx : Int) (ks : List Int) : Prop := ks.Pairwise (· < ·) ∧ ∀ x ∈ ks, 0 ≤ x ∧ x < nx
theorem getD_in {α : Type} (l : List α) (k : Nat) (d : α) (h : k < l.length) : l.getD k d ∈ l := by
  simp [List.getD, h]
theorem POk.at_ {nx : Int} {ks : List Int} {ps : List Pcl} (h : POk nx ks ps) (k : Nat) (hk : k < ps.length) :
    lastAt ps k < (ps.getD k pcln).1 ∧ 0 ≤ (ps.getD k pcln).1 ∧ (ps.getD k pcln).1 < nx ∧ (0 ≤ (ps.getD k pcln).2.1 ∧ (ps.getD k pcln).2.1 ≤ 1099511627776) ∧ (0 ≤ (ps.getD k pcln).2.2 ∧ (ps.getD k pcln).2.2 ≤ 400) ∧ ks.contains (ps.getD k pcln).1 = false := by
  have hm := h.2 _ (getD_in ps k pcln hk)
  refine ⟨?_, hm⟩
  cases k with
  | zero => show (-1 : Int) < _; omega
  | succ k =>
    show (ps.getD k pcln).1 < _
    have := List.pairwise_iff_getElem.1 h.1 k (k + 1) (by omega) hk (by omega)
    simpa [List.getD, hk, show k < ps.length by omega] using this
theorem KOk.at_ {nx : Int} {ks : List Int} (h : KOk nx ks) (k : Nat) (hk : k < ks.length) : lastK ks k < ks.getD k 0 ∧ 0 ≤ ks.getD k 0 ∧ ks.getD k 0 < nx := by
  have hm := h.2 _ (getD_in ks k 0 hk)
  refine ⟨?_, hm⟩
  cases k with
  | zero => show (-1 : Int) < _; omega
  | succ k =>
    show ks.getD k 0 < _
    have := List.pairwise_iff_getElem.1 h.1 k (k + 1) (by omega) hk (by omega)
    simpa [List.getD, hk, show k < ks.length by omega] using this
theorem contains_take (ks : List Int) (k : Nat) (v : Int) (hk : k < ks.length) : (ks.take (k + 1)).contains v = ((ks.take k).contains v || (v == ks.getD k 0)) := by
  rw [List.take_succ_eq_append_getElem hk, List.contains_eq_any_beq, List.contains_eq_any_beq, List.any_append]
  simp [List.getD, hk]
theorem contains_of_take {ks : List Int} {k : Nat} {v : Int} (h : (ks.take k).contains v = true) : ks.contains v = true := by
  simp only [List.contains_iff_mem] at h ⊢
  exact List.mem_of_mem_take h

/-- Is a number one that was left out? -/
theorem spSkipped_any (nx : Int) (A : Option Addr) (n c : Nat) (top : Int) (B : Option Addr) (m d : Nat) (C : Option Addr) (k e : Nat) (ks : List Int) (hk : ks.length = k) (hke : k ≤ e) (hem : e ≤ 9223372036854775807) (v : Int) (R : Bool) (hR : ks.contains v = R) (w : World) (hr : RdX icells 1 w C ks) :
    Calls Tryz.prog 125 #[.agg #[.int .i64 nx, .slice A n c, .int .i64 top, .slice B m d, .slice C k e], .int .i64 v] w fun e w' => e = .returned (.bool R) ∧ Below w.heap.size w w' := by
  have HK := Lib.hid hk
  have HR := Lib.hid hr
  have HB := Lib.hid hR
  clear hk hr hR
  go_enter Tryz.func125, Tryz.ntmps125
  go_wp2_with fail
  go_loopw [10] (fun i wr => ∃ j : Nat, j ≤ k ∧ i = .int .i64 j ∧ Hid ((ks.take j).contains v = false) ∧ Below w.heap.size w wr) (fun i _ => k - (intOf i).toNat)
  case atStart => exact ⟨0, Nat.zero_le _, rfl, rfl, (Below.refl _ _).alloc (Nat.le_refl _) _⟩
  case round =>
    obtain ⟨j, hj, rfl, HT, hb⟩ := hrel
    by_cases hlt : j < k
    · have hlen := HK.out
      obtain ⟨b, off, rfl, hcell⟩ := (RdX.below HR.out hb).int (by omega)
      have c0 := hcell j (by omega)
      have HC := Lib.hid (contains_take ks j v (by omega))
      generalize ks.getD j 0 = x at *
      clear hlen hcell
      by_cases hxv : v = x
      · have h1 : (x == v) = true := by simp [hxv]
        have hBt : R = true := by
          rw [← HB.out]; refine contains_of_take (k := j + 1) ?_
          rw [HC.out]; simp [hxv]
        subst hBt
        clear hxv
        go_wp2_with fail
        go_ret
        exact ⟨rfl, hb⟩
      · have h1 : (x == v) = false := by simp; omega
        have HT2 : Hid ((ks.take (j + 1)).contains v = false) := by
          have h := HC.out; rw [HT.out] at h; unfold Hid; rw [h]; simp [hxv]
        clear hxv
        go_wp2_with fail
        go_roundw
        case rel => exact ⟨j + 1, by omega, by go_num, HT2, hb⟩
        case measure => simp [intOf]; omega
    · obtain rfl : j = k := by omega
      have hBt : R = false := by
        rw [← HB.out, ← HT.out, List.take_of_length_le (by have := HK.out; omega)]
      subst hBt
      go_wp2_with fail
      go_ret
      exact ⟨rfl, hb⟩


/-- A space that may be. -/
structure SpOk (nx : Int) (ps : List Pcl) (top : Int) (hs : List Rng) (ks : List Int) : Prop where
  n0 : 0 ≤ nx
  n1 : nx ≤ 4611686018427387903
  t0 : -1 ≤ top
  t1 : top < nx
  pl : ps.length ≤ 24
  hl : hs.length ≤ 6
  kl : ks.length ≤ 6
  hg : goodFrom 0 hs
  pk : POk nx ks ps
  kk : KOk nx ks
  tk : ks.contains top = false

set_option maxRecDepth 100000 in
set_option maxHeartbeats 2000000 in
theorem spCheck_ok (nx : Int) (A : Option Addr) (n c : Nat) (top : Int) (B : Option Addr) (m d : Nat) (C : Option Addr) (k e : Nat) (ps : List Pcl) (hs : List Rng) (ks : List Int) (hn : ps.length = n) (hm : hs.length = m) (hk : ks.length = k)
    (hnc : n ≤ c) (hcm : c ≤ 9223372036854775807) (hmd : m ≤ d) (hdm : d ≤ 9223372036854775807) (hke : k ≤ e) (hem : e ≤ 9223372036854775807) (ok : SpOk nx ps top hs ks) (w : World) (hA : RdX pclc 4 w A ps) (hB : RdX rcells 2 w B hs) (hC : RdX icells 1 w C ks) :
    Calls Tryz.prog 79 #[.agg #[.int .i64 nx, .slice A n c, .int .i64 top, .slice B m d, .slice C k e]] w fun e w' => e = .returned (.int .i64 0) ∧ Below w.heap.size w w' := by
  obtain ⟨n0, n1, t0, t1, pl, hl, kl, hg, pk, kk, tk⟩ := ok
  rw [hn] at pl
  rw [hm] at hl
  rw [hk] at kl
  have HN := Lib.hid hn
  have HM := Lib.hid hm
  have HK := Lib.hid hk
  have HA := Lib.hid hA
  have HB := Lib.hid hB
  have HC := Lib.hid hC
  have HG := Lib.hid hg
  have PK := Lib.hid pk
  have KK := Lib.hid kk
  have TK := Lib.hid tk
  clear hn hm hk hA hB hC hg pk kk tk
  go_enter Tryz.func79, Tryz.ntmps79
  go_upto_region 1 with (fail)
  refine wp_world (fun w' => Blk w' w.heap.size 35 #[.int .i64 nx, .slice A n c, .int .i64 top, .slice B m d, .slice C k e] ∧ Below w.heap.size w w') ⟨Blk.new _ _ _, (Below.refl _ _).alloc (Nat.le_refl _) _⟩ ?_
  rintro w1 ⟨hS, hb1⟩
  have FS := hS.facts5
  go_wp2_with fail
  refine (rCheck_ok B m d hs HM.out HG.out hmd hdm _ (RdX.below HB.out hb1)).mono ?_
  rintro e1 w2 ⟨rfl, hb2⟩
  have hS := hS.carry hb2
  have hb := hb1.trans (hb2.mono hb1.size)
  have hgl := hS.lt
  clear FS hb1 hb2
  have FS := hS.facts5
  go_wp2_with fail
  go_loopw [3, 4, 56] (fun s3 s4 i wr => ∃ j : Nat, j ≤ n ∧ i = .int .i64 j ∧ s3 = .bool true ∧ s4 = .int .i64 (lastAt ps j) ∧ Blk wr w.heap.size 35 #[.int .i64 nx, .slice A n c, .int .i64 top, .slice B m d, .slice C k e] ∧ Below w.heap.size w wr) (fun _ _ i _ => n - (intOf i).toNat)
  case atStart => exact ⟨0, Nat.zero_le _, rfl, by simp; omega, rfl, hS, hb⟩
  case round =>
    obtain ⟨j, hj, rfl, rfl, rfl, hSr, hbr⟩ := hrel
    clear FS hS hb hgl
    by_cases hlt : j < n
    · have hlen := HN.out
      obtain ⟨b, off, rfl, hcell⟩ := (RdX.below HA.out hbr).pcl (by omega)
      obtain ⟨c0, c1, c2, c3⟩ := hcell j (by omega)
      obtain ⟨p0, p1, p2, p3, p4, p5⟩ := PK.out.at_ j (by omega)
      have HL1 : Hid (lastAt ps (j + 1) = (ps.getD j pcln).1) := rfl
      obtain ⟨L, hL⟩ : ∃ L, lastAt ps j = L := ⟨_, rfl⟩
      rw [hL] at p0 ⊢
      generalize ps.getD j pcln = p at *
      obtain ⟨pn, pt, pz⟩ := p
      simp only at c0 c1 c2 p0 p1 p2 p3 p4 p5
      obtain ⟨p30, p31⟩ := p3
      obtain ⟨p40, p41⟩ := p4
      have P5 := Lib.hid p5
      have hgl := hSr.lt
      clear hlen hcell p5 hL
      go_upto_region 6 with (fail)
      refine wp_world (fun w' => Blk w' w.heap.size 35 #[.int .i64 nx, .slice (some ⟨b, off, none⟩) n c, .int .i64 top, .slice B m d, .slice C k e] ∧ Blk w' wr.heap.size 175 #[.int .i64 pn, .int .i64 pt, .int .i64 pz, .slice none 0 0] ∧ Below w.heap.size w w') ⟨hSr.alloc _, Blk.new _ _ _, hbr.alloc hbr.size _⟩ ?_
      clear c0 c1 c2 c3 hSr hbr
      rintro w3 ⟨hS, hP, hb⟩
      have FS := hS.facts5
      have FP := hP.facts4
      go_wp2_with fail
      refine (spSkipped_any nx (some ⟨b, off, none⟩) n c top B m d C k e ks HK.out hke hem pn false P5.out _ (RdX.below HC.out hb)).mono ?_
      rintro e2 w4 ⟨rfl, hb4⟩
      have hS := hS.carry hb4
      have hP := hP.carry hb4
      have hb := hb.trans (hb4.mono hb.size)
      clear FS FP hb4
      have FP := hP.facts4
      go_wp2_with fail
      go_roundw
      case rel => exact ⟨j + 1, by omega, by go_num, by simp, by rw [HL1.out], hS, hb⟩
      case measure => simp [intOf]; omega
    · obtain rfl : n = j := by omega
      have FS := hSr.facts5
      generalize lastAt ps n = L at *
      go_wp2_with fail
      go_loopw [3, 4, 107] (fun s3 s4 i wr => ∃ j : Nat, j ≤ k ∧ i = .int .i64 j ∧ s3 = .bool true ∧ s4 = .int .i64 (lastK ks j) ∧ Blk wr w.heap.size 35 #[.int .i64 nx, .slice A n c, .int .i64 top, .slice B m d, .slice C k e] ∧ Below w.heap.size w wr) (fun _ _ i _ => k - (intOf i).toNat)
      case atStart => exact ⟨0, Nat.zero_le _, rfl, rfl, rfl, hSr, hbr⟩
      case round =>
        obtain ⟨i, hi, rfl, rfl, rfl, hS, hb⟩ := hrel
        clear FS hSr hbr
        have FS := hS.facts5
        by_cases hlk : i < k
        · have hlen := HK.out
          obtain ⟨b, off, rfl, hcell⟩ := (RdX.below HC.out hb).int (by omega)
          have c0 := hcell i (by omega)
          obtain ⟨p0, p1, p2⟩ := KK.out.at_ i (by omega)
          have HL1 : Hid (lastK ks (i + 1) = ks.getD i 0) := rfl
          obtain ⟨L, hL⟩ : ∃ L, lastK ks i = L := ⟨_, rfl⟩
          rw [hL] at p0 ⊢
          generalize ks.getD i 0 = x at *
          clear hlen hcell hL
          go_wp2_with fail
          go_roundw
          case rel => exact ⟨i + 1, by omega, by go_num, by simp, by rw [HL1.out], hS, hb⟩
          case measure => simp [intOf]; omega
        · obtain rfl : k = i := by omega
          generalize lastK ks k = L at *
          go_wp2_with fail
          refine (spSkipped_any nx A n c top B m d C k e ks HK.out hke hem top false TK.out _ (RdX.below HC.out hb)).mono ?_
          rintro e2 w4 ⟨rfl, hb4⟩
          go_wp2_with fail
          go_ret
          exact ⟨rfl, hb.trans (hb4.mono hb.size)⟩
end Go.Proofs.YtbcagdjfegobnaaGreat
