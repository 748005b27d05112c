/- Texts of the proof, laid together: Gate1 Big2 Gate2 Gate3. -/
import Derived.Test.YtbcagdjfegobnaaGreatC26
import Derived.Test.YtbcagdjfegobnaaGreatC27
import Derived.Test.YtbcagdjfegobnaaGreatC24
import Derived.Great.BuildSlice
/- Gates whose connections have just begun: in memory; the contracts of gate.Begin, Check. -/
namespace Go.Proofs.YtbcagdjfegobnaaGreat
open Go.ChangeShapes Go.WideShapes Go.ChangeAt Go.RowKit
set_option linter.unusedVariables false

/-- A server's connection that has just begun. -/
def BgR (cs : Array Value) (last : Int) : Prop := ∃ A c B d, c ≤ 9223372036854775807 ∧ d ≤ 9223372036854775807 ∧ cs = bg0 false A c B d last 0 4 ∧ 0 ≤ last ∧ last ≤ 1099511627776
theorem BgR.size {cs : Array Value} {l : Int} (h : BgR cs l) : cs.size = 24 := by obtain ⟨A, c, B, d, _, _, rfl, _⟩ := h; rfl
theorem BgR.one {cs : Array Value} {l : Int} (h : BgR cs l) : ∀ u ∈ cs.toList, u.oneCell' = true := by obtain ⟨A, c, B, d, _, _, rfl, _⟩ := h; exact bg0_one _ _ _ _ _ _ _ _
theorem BgR.client {cs : Array Value} {l : Int} (h : BgR cs l) : cs[0]? = some (.bool false) := by obtain ⟨A, c, B, d, _, _, rfl, _⟩ := h; rfl
theorem BgR.closed {cs : Array Value} {l : Int} (h : BgR cs l) : cs[22]? = some (.bool false) := by obtain ⟨A, c, B, d, _, _, rfl, _⟩ := h; rfl
theorem BgR.check {cs : Array Value} {l : Int} (h : BgR cs l) (w : World) : Calls Tryz.prog 49 #[.agg cs] w fun e w' => e = .returned (.int .i64 0) ∧ Below w.heap.size w w' := by
  obtain ⟨A, c, B, d, hc, hd, rfl, h0, h1⟩ := h
  exact connCheck_bg0 false A c B d l 0 4 (.inr ⟨rfl, rfl⟩) hc hd h0 h1 w
theorem BgR.fresh {cs : Array Value} {l : Int} (h : BgR cs l) (w : World) : Calls Tryz.prog 92 #[.agg cs] w fun e w' => ∃ cs', e = .returned (.agg cs') ∧ BgR cs' l ∧ Below w.heap.size w w' := by
  obtain ⟨A, c, B, d, hc, hd, rfl, h0, h1⟩ := h
  refine (connFresh_bg0 false A c B d l 0 4 w).mono ?_
  rintro e w' ⟨A', B', rfl, hb⟩
  exact ⟨_, rfl, ⟨A', 0, B', 0, by decide, by decide, rfl, h0, h1⟩, hb⟩
theorem BgR.flush {cs : Array Value} {l : Int} (h : BgR cs l) (now : Int) (n0 : 0 ≤ now) (n1 : now ≤ 1099511627776) (w : World) : Calls Tryz.prog 104 #[.agg cs, .int .i64 now] w fun e w' => ∃ cs', e = .returned (.tuple #[.agg cs', .int .i64 0, .slice none 0 0, .int .i64 0]) ∧ BgR cs' l ∧ Below w.heap.size w w' := by
  obtain ⟨A, c, B, d, hc, hd, rfl, h0, h1⟩ := h
  refine (connFlush_bg0 false A c B d l 0 4 (.inr ⟨rfl, rfl⟩) hc hd h0 h1 now n0 n1 w).mono ?_
  rintro e w' ⟨A', B', rfl, hb⟩
  exact ⟨_, rfl, ⟨A', 0, B', 0, by decide, by decide, rfl, h0, h1⟩, hb⟩
theorem connBegin_BgR (now : Int) (h0 : 0 ≤ now) (h1 : now ≤ 1099511627776) (w : World) : Calls Tryz.prog 69 #[.bool false, .int .i64 now] w fun e w' => ∃ cs, e = .returned (.tuple #[.agg cs, .int .i64 0]) ∧ BgR cs now ∧ Below w.heap.size w w' := by
  refine (connBegin_ok false now h0 h1 w).mono ?_
  rintro e w' ⟨rfl, hb⟩
  exact ⟨_, rfl, ⟨none, 0, none, 0, by decide, by decide, rfl, h0, h1⟩, hb⟩

abbrev Tly := Bool × Int × Int
def TlyOk (t : Tly) : Prop := (0 ≤ t.2.1 ∧ t.2.1 ≤ 1099511627776) ∧ (0 ≤ t.2.2 ∧ t.2.2 ≤ 1099511627776) ∧ (t.1 = false → t.2.2 ≤ 3 * t.2.1)
theorem tallyCheck_any (t : Tly) (ok : TlyOk t) (w : World) : Calls Tryz.prog 48 #[.agg #[.bool t.1, .int .i64 t.2.1, .int .i64 t.2.2]] w fun e w' => e = .returned (.int .i64 0) ∧ Below w.heap.size w w' := by
  obtain ⟨k, g, s⟩ := t
  obtain ⟨⟨h0, h1⟩, ⟨h2, h3⟩, h4⟩ := ok
  cases k
  · exact tallyCheck_f g s h0 h1 h2 h3 (h4 rfl) w
  · exact tallyCheck_t g s h0 h1 h2 h3 w

/-- A note of a gate. -/
structure NtB where
  id : Int
  from_ : Int
  peer : Int
  key : Int
  ready : Bool
  last : Int
  cs : Array Value
  sz : cs.size = 24
  one : ∀ u ∈ cs.toList, u.oneCell' = true
def nta (x : NtB) : Array Value := #[.int .i64 x.id, .int .i64 x.from_, .int .i64 x.peer, .int .u64 x.key, .bool x.ready] ++ x.cs
def ntc (x : NtB) : List Value := (nta x).toList
def ntn : NtB := ⟨0, 0, 0, 0, false, 0, bg0 false none 0 none 0 0 0 0, rfl, bg0_one _ _ _ _ _ _ _ _⟩
theorem nta_size (x : NtB) : (nta x).size = 29 := by simp [nta, x.sz]
theorem ntc_len (x : NtB) : (ntc x).length = 29 := by simp [ntc, nta_size]
theorem nta_one (x : NtB) : ∀ u ∈ (nta x).toList, u.oneCell' = true := by
  intro u hu
  simp only [nta, Array.toList_append, List.mem_append] at hu
  rcases hu with hu | hu
  · simp only [List.mem_cons, List.not_mem_nil, or_false] at hu
    rcases hu with rfl | rfl | rfl | rfl | rfl <;> rfl
  · exact x.one u hu
theorem ntc_one (xs : List NtB) : ∀ u ∈ xs.flatMap ntc, u.oneCell' = true := by
  intro u hu
  obtain ⟨x, _, hx⟩ := List.mem_flatMap.1 hu
  exact nta_one x u hx
structure GtD where
  secret : Int
  now : Int
  next : Int
  t : Nat → Tly
  retry : Bool
  shed : Int
/-- The cells of a gate whose notes lie in the slice A. -/
def gcs (g : GtD) (A : Option Addr) (n c : Nat) : Array Value :=
  #[.int .u64 g.secret, .int .i64 g.now, .int .i64 g.next, .slice A n c, .bool (g.t 0).1, .int .i64 (g.t 0).2.1, .int .i64 (g.t 0).2.2, .bool (g.t 1).1, .int .i64 (g.t 1).2.1, .int .i64 (g.t 1).2.2,
    .bool (g.t 2).1, .int .i64 (g.t 2).2.1, .int .i64 (g.t 2).2.2, .bool (g.t 3).1, .int .i64 (g.t 3).2.1, .int .i64 (g.t 3).2.2, .bool g.retry, .int .i64 g.shed]
structure NtOk (nx : Int) (x : NtB) : Prop where
  id0 : 0 < x.id
  id1 : x.id < nx
  f0 : 0 ≤ x.from_
  f1 : x.from_ ≤ 255
  p0 : 0 ≤ x.peer
  p1 : x.peer < 4
  k0 : 0 ≤ x.key
  k1 : x.key < 18446744073709551616
  r : BgR x.cs x.last
structure GOk (g : GtD) (xs : List NtB) : Prop where
  s0 : 0 ≤ g.secret
  s1 : g.secret < 18446744073709551616
  n0 : 0 ≤ g.now
  n1 : g.now ≤ 1099511627776
  x0 : 1 ≤ g.next
  x1 : g.next ≤ 256
  h0 : 0 ≤ g.shed
  h1 : g.shed ≤ 1099511627776
  tl : ∀ i, i < 4 → TlyOk (g.t i)
  few : xs.length ≤ 3
  nts : ∀ x ∈ xs, NtOk g.next x
  inc : xs.Pairwise (fun a b => a.id < b.id)
theorem ntInfo : (Tryz.prog.info? 53).map (fun i => (i.zero, i.size, i.bytes)) = some (some (.agg (nta ⟨0, 0, 0, 0, false, 0, #[.bool false, .int .i64 0, .slice none 0 0, .int .i64 0, .slice none 0 0, .slice none 0 0, .int .i64 0, .int .i64 0, .int .i64 0, .int .i64 0, .int .i64 0, .int .i64 0, .int .i64 0, .int .i64 0, .int .i64 0, .int .i64 0, .int .i64 0, .slice none 0 0, .bool false, .slice none 0 0, .int .i64 0, .int .i64 0, .bool false, .int .i64 0], rfl, by decide⟩)), 29, 312) := by kernel_rfl
/-- A gate that may be, in memory. -/
structure GtV (w : World) (g : GtD) (A : Option Addr) (n c : Nat) (xs : List NtB) : Prop where
  hn : xs.length = n
  hnc : n ≤ c
  hcm : c ≤ 9223372036854775807
  ok : GOk g xs
  rd : RdX ntc 29 w A xs
theorem GtV.below {w w' : World} {g : GtD} {A : Option Addr} {n c : Nat} {xs : List NtB} (h : GtV w g A n c xs) (hb : Below w.heap.size w w') : GtV w' g A n c xs := ⟨h.hn, h.hnc, h.hcm, h.ok, RdX.below h.rd hb⟩
/-- A note of a row: all its cells. -/
theorem RdX.nt {w : World} {A : Option Addr} {xs : List NtB} (h : RdX ntc 29 w A xs) (hn : 0 < xs.length) : ∃ b off, A = some ⟨b, off, none⟩ ∧ ∀ k, k < xs.length → ∀ j v, (nta (xs.getD k ntn))[j]? = some v → w.cell? ⟨b, off + k * 29 + j, none⟩ = some v := by
  obtain ⟨b, off, e, hc⟩ := RdX.at_ ntc_len h ntn hn
  refine ⟨b, off, e, fun k hk j v hv => hc k hk j v ?_ (by simpa [ntc] using hv)⟩
  have := (Array.getElem?_eq_some_iff.1 hv).1
  rw [nta_size] at this; exact this
/-- What a block that holds a note says of its cells. -/
theorem Blk.nt {w : World} {g : Nat} {t : TypeId} {x : NtB} (h : Blk w g t (nta x)) : g < w.heap.size ∧ w.cell? ⟨g, 0, none⟩ = some (.int .i64 x.id) ∧ w.cell? ⟨g, 1, none⟩ = some (.int .i64 x.from_) ∧ w.cell? ⟨g, 2, none⟩ = some (.int .i64 x.peer) ∧ w.cell? ⟨g, 3, none⟩ = some (.int .u64 x.key) ∧ w.cell? ⟨g, 4, none⟩ = some (.bool x.ready) :=
  ⟨h.lt, by rw [h.cell, nta, Array.getElem?_append_left (by simp)]; rfl, by rw [h.cell, nta, Array.getElem?_append_left (by simp)]; rfl, by rw [h.cell, nta, Array.getElem?_append_left (by simp)]; rfl, by rw [h.cell, nta, Array.getElem?_append_left (by simp)]; rfl, by rw [h.cell, nta, Array.getElem?_append_left (by simp)]; rfl⟩
theorem nta_cs (x : NtB) : ∀ j v, x.cs[j]? = some v → (nta x)[5 + j]? = some v := by
  intro j v hv
  simp only [nta]
  rw [Array.getElem?_append_right (by simp)]
  simpa using hv
theorem Blk.ntcs {w : World} {g : Nat} {t : TypeId} {x : NtB} (h : Blk w g t (nta x)) : ∀ j v, x.cs[j]? = some v → w.cell? ⟨g, 5 + j, none⟩ = some v := fun j v hv => by rw [h.cell]; exact nta_cs x j v hv
def lastN (xs : List NtB) : Nat → Int
  | 0 => 0
  | k + 1 => (xs.getD k ntn).id
theorem GOk.at_ {g : GtD} {xs : List NtB} (h : GOk g xs) (k : Nat) (hk : k < xs.length) : NtOk g.next (xs.getD k ntn) ∧ lastN xs k < (xs.getD k ntn).id := by
  have hm : xs.getD k ntn ∈ xs := by simp [List.getD, hk]
  refine ⟨h.nts _ hm, ?_⟩
  cases k with
  | zero => exact (h.nts _ hm).id0
  | succ k =>
    show (xs.getD k ntn).id < _
    have := List.pairwise_iff_getElem.1 h.inc k (k + 1) (by omega) hk (by omega)
    simpa [List.getD, hk, show k < xs.length by omega] using this

set_option maxRecDepth 100000 in
set_option maxHeartbeats 2000000 in
theorem gateBegin_ok (s : Int) (retry : Bool) (w : World) : Calls Tryz.prog 28 #[.int .u64 s, .bool retry] w fun e w' => e = .returned (.agg (gcs ⟨s, 0, 1, fun _ => (false, 0, 0), retry, 0⟩ none 0 0)) ∧ Below w.heap.size w w' := by
  go_enter Tryz.func28, Tryz.ntmps28
  go_upto_region 1 with (fail)
  refine wp_world (fun w' => (∃ z, z.size = 18 ∧ Blk w' w.heap.size 29 z) ∧ Below w.heap.size w w') ⟨⟨_, rfl, Blk.new _ _ _⟩, (Below.refl _ _).alloc (Nat.le_refl _) _⟩ ?_
  rintro w1 ⟨⟨z, hz, hZ⟩, hb⟩
  go_wp2_with (refine wpList_storeP rfl 29 (.tmp 4) (.tmp 7) rfl w.heap.size 0 rfl (gcs ⟨s, 0, 1, fun _ => (false, 0, 0), retry, 0⟩ none 0 0) rfl 29 _ hZ (by kernel_rfl) (by simp [gcs, hz]) (by intro u hu; simp only [gcs, List.mem_cons, List.not_mem_nil, or_false] at hu; rcases hu with rfl | rfl | rfl | rfl | rfl | rfl | rfl | rfl | rfl | rfl | rfl | rfl | rfl | rfl | rfl | rfl | rfl | rfl <;> rfl) _ (splice_all _ _ (by simp [gcs, hz])) ?_
               intro w8 hB8 hw8)
  exact bodyPost_ret (results_c1 _ _ w.heap.size _ (gcs ⟨s, 0, 1, fun _ => (false, 0, 0), retry, 0⟩ none 0 0) _ Tryz.results28 rfl hB8 Tryz.underlying29 rfl (by kernel_rfl)) rfl ⟨rfl, hw8.trans_below hb (Nat.le_refl _)⟩

set_option maxRecDepth 100000 in
set_option maxHeartbeats 4000000 in
theorem gateCheck_ok (g : GtD) (A : Option Addr) (n c : Nat) (xs : List NtB) (w : World) (h : GtV w g A n c xs) :
    Calls Tryz.prog 18 #[.agg (gcs g A n c)] w fun e w' => e = .returned (.int .i64 0) ∧ Below w.heap.size w w' := by
  have HV := Lib.hid h
  obtain ⟨hn, hnc, hcm, ok, rd⟩ := h
  have q0 := ok.n0
  have q1 := ok.n1
  have q2 := ok.x0
  have q3 := ok.x1
  have q4 := ok.h0
  have q5 := ok.h1
  have q6 := ok.few
  rw [hn] at q6
  have q7 : (n : Int) ≤ 3 := by omega
  clear hn ok rd
  go_enter Tryz.func18, Tryz.ntmps18
  go_upto_region 1 with (fail)
  refine wp_world (fun w' => Blk w' w.heap.size 29 (gcs g A n c) ∧ Below w.heap.size w w') ⟨Blk.new _ _ _, (Below.refl _ _).alloc (Nat.le_refl _) _⟩ ?_
  rintro w1 ⟨hS, hb⟩
  have HF : ∀ W, Blk W w.heap.size 29 (gcs g A n c) → _ := fun W h => Blk.c18 (by unfold gcs at h; exact h)
  have HF := Lib.hid HF
  have F := HF.out _ hS
  have hi : ∀ k, k < 4 → ∀ W, (Instr.index 27 (.agg #[.bool (g.t 0).1, .int .i64 (g.t 0).2.1, .int .i64 (g.t 0).2.2, .bool (g.t 1).1, .int .i64 (g.t 1).2.1, .int .i64 (g.t 1).2.2, .bool (g.t 2).1, .int .i64 (g.t 2).2.1, .int .i64 (g.t 2).2.2, .bool (g.t 3).1, .int .i64 (g.t 3).2.1, .int .i64 (g.t 3).2.2]) (.int .i64 (k : Nat))).run Tryz.prog W = .ok (.agg #[.bool (g.t k).1, .int .i64 (g.t k).2.1, .int .i64 (g.t k).2.2]) W := by
    intro k hk W
    rcases (show k = 0 ∨ k = 1 ∨ k = 2 ∨ k = 3 by omega) with rfl | rfl | rfl | rfl <;> kernel_rfl
  have HI := Lib.hid hi
  clear hi
  go_wp2_with fail
  go_loopw [3, 45] (fun s3 s45 wr => ∃ k : Nat, k ≤ 4 ∧ s45 = .int .i64 k ∧ s3 = .bool true ∧ Blk wr w.heap.size 29 (gcs g A n c) ∧ Below w.heap.size w wr) (fun _ s45 _ => 4 - (intOf s45).toNat)
  case atStart => exact ⟨0, Nat.zero_le _, rfl, by first | rfl | (simp; done) | (simp; omega), hS, hb⟩
  case round =>
    obtain ⟨k, hk, rfl, rfl, hSr, hbr⟩ := hrel
    clear F hS hb
    by_cases hlt : k < 4
    -- [[round1
    · have hik := HI.out k hlt
      have hti := HV.out.ok.tl k hlt
      have hk4 : (k : Int) < 4 := by omega
      go_upto_region 5 with (fail)
      refine wp_world (fun w' => Blk w' wr.heap.size 26 #[.bool (g.t k).1, .int .i64 (g.t k).2.1, .int .i64 (g.t k).2.2] ∧ Blk w' w.heap.size 29 (gcs g A n c) ∧ Below w.heap.size w w') ⟨Blk.new _ _ _, ?_, ?_⟩ ?_
      · have hgl := hSr.lt
        (apply Blk.as; (case h => (repeat (first | with_reducible exact hSr | with_reducible apply Blk.drew | with_reducible apply Blk.set4 | with_reducible apply Blk.set_ | (with_reducible apply Blk.far4 (hne := ?side); case side => (first | omega | (simp; omega) | (simp; done))) | (with_reducible apply Blk.far (hp := ?side); case side => (first | omega | (simp; omega) | (simp; done))) | with_reducible apply Blk.alloc))); (case e => (first | with_reducible rfl | (simp; done) | rfl)))
      · have hgl := hSr.lt
        (repeat (first | with_reducible exact hbr | with_reducible refine Below.drew ?_ | (with_reducible refine Below.set4 ?_ ?side _ _ _ _; case side => (first | omega | (simp; omega) | (simp; done))) | (with_reducible refine Below.setCell ?_ ?side _; case side => (first | omega | (simp; omega) | (simp; done))) | (with_reducible refine Below.alloc ?_ ?side _; case side => (first | omega | (simp; omega) | (simp; done)))))
      have hgl := hSr.lt
      obtain ⟨q, hq⟩ : ∃ q, wr.heap.size = q := ⟨_, rfl⟩
      try rw [hq]
      clear hSr hbr hik hq hgl
      rintro w2 ⟨hT, hS2, hb2⟩
      have FT := hT.c3
      go_wp2_with fail
      refine (tallyCheck_any (g.t k) hti _).mono ?_
      rintro e w3 ⟨rfl, hb3⟩
      have hS3 := hS2.carry hb3
      have hb3 := hb2.trans (hb3.mono hb2.size)
      clear FT hT hS2 hb2
      go_wp2_with fail
      go_roundw
      case rel => exact ⟨k + 1, by omega, by go_num, by first | rfl | simp, hS3, hb3⟩
      case measure => simp [intOf]; omega
      -- ]]round1
    -- [[loop2
    · obtain rfl : k = 4 := by omega
      have HBR := Lib.hid hbr
      have F := HF.out _ hSr
      clear hlt hk
      go_wp2_with fail
      go_loopw [3, 6, 58] (fun s3 s6 s58 wr => ∃ k : Nat, k ≤ n ∧ s58 = .int .i64 k ∧ s3 = .bool true ∧ s6 = .int .i64 (lastN xs k) ∧ Blk wr w.heap.size 29 (gcs g A n c) ∧ Below w.heap.size w wr) (fun _ _ s58 _ => n - (intOf s58).toNat)
      case atStart => exact ⟨0, Nat.zero_le _, rfl, by first | rfl | simp, rfl, hSr, HBR.out⟩
      case round =>
        obtain ⟨k, hk, rfl, rfl, rfl, hS, hb⟩ := hrel
        clear F hSr
        by_cases hlt : k < n
        -- [[round2
        · have hkx : k < xs.length := by rw [HV.out.hn]; exact hlt
          obtain ⟨hok, hls⟩ := HV.out.ok.at_ k hkx
          obtain ⟨b, off, rfl, hcell⟩ := (RdX.below HV.out.rd hb).nt (by omega)
          have hc := hcell k hkx
          have HL : Hid (lastN xs (k + 1) = (xs.getD k ntn).id) := rfl
          generalize lastN xs k = L at *
          generalize xs.getD k ntn = x at *
          have HC := Lib.hid hc
          have hkn : (k : Int) < (n : Int) := by omega
          have hgl := hS.lt
          have HBB := Lib.hid hb
          clear hcell hc hkx hb
          go_upto_region 11 with (first
            | refine wpList_loadR rfl 53 (.tmp 60) rfl b (off + k * 29) rfl (nta x) _ Tryz.underlying53 rfl (by rw [nta_size]; kernel_rfl) HC.out ?_
            | (refine wpList_storeP rfl 53 (.tmp 8) (.tmp 61) rfl wr.heap.size 0 rfl (nta x) rfl 53 _ (Blk.new _ _ _) (by rw [nta_size]; kernel_rfl) (by rw [nta_size]; decide) (nta_one x) _ (splice_all _ _ (by rw [nta_size]; rfl)) ?_
               intro w2 hN hw2
               have hS2 := (hS.alloc _).wr hw2 (by omega)
               have hb2 := hw2.trans_below (HBB.out.alloc (by omega) _) (by omega)))
          obtain ⟨q, hq⟩ : ∃ q, wr.heap.size = q := ⟨_, rfl⟩
          rw [hq] at hN ⊢
          have hok2 := hok
          obtain ⟨i0, i1, f0, f1, p0, p1, k0, k1, hr⟩ := hok
          have HR := Lib.hid hr
          have HN := Lib.hid hN
          have HS2 := Lib.hid hS2
          have HB2 := Lib.hid hb2
          have fg : w2.cell? ⟨w.heap.size, 2, none⟩ = some (.int .i64 g.next) := by rw [hS2.cell]; rfl
          have FN := hN.nt
          clear hN hS2 hb2 hw2 hS HBB hq hgl HC
          go_wp2_with (refine wpList_loadG (by first | rfl | (simp [Region.wanted, yielded]; done)) 43 (.tmp 97) rfl q 5 rfl x.cs _ Tryz.underlying43 rfl (by rw [x.sz]; kernel_rfl) HN.out.ntcs ?_)
          refine (HR.out.check _).mono ?_
          rintro e w3 ⟨rfl, hb3⟩
          have FN := (HN.out.carry hb3).nt
          have e0 : w3.cell? ⟨q, 5, none⟩ = some (.bool false) := (HN.out.carry hb3).ntcs 0 _ HR.out.client
          have HS3 := Lib.hid (HS2.out.carry hb3)
          have HB3 := Lib.hid (HB2.out.trans (hb3.mono HB2.out.size))
          clear hb3 fg
          go_wp2_with fail
          go_roundw
          case rel =>
            (repeat apply Exists.intro)
            refine ⟨⟨k + 1, ?n1, ?n2, ?n3, ?n4, HS3.out, HB3.out⟩, ?f⟩
            case f => rfl
            case n1 => omega
            case n2 => go_num
            case n3 => first | rfl | simp
            case n4 => rw [HL.out]
          case measure => simp [intOf]; omega
          -- ]]round2
        · obtain rfl : k = n := by omega
          go_wp2_with fail
          go_ret
          exact ⟨rfl, hb⟩
      -- ]]loop2
end Go.Proofs.YtbcagdjfegobnaaGreat
/- Laws for great structs, more: a slice of one struct; append of it. -/
namespace Go.Proofs.YtbcagdjfegobnaaGreat
open Go.RowKit
set_option linter.unusedVariables false

/-- Cells that are laid over as_v many others are what is left. -/
theorem fold_over (p : List Value) : ∀ (i : Nat) (cs : Array Value), i + p.length = cs.size → ((p.zipIdx i).foldl (fun cs (x : Value × Nat) => cs.setIfInBounds (0 + x.2) x.1) cs).toList = cs.toList.take i ++ p := by
  induction p with
  | nil => intro i cs h; simp at h ⊢; rw [List.take_of_length_le (by simp; omega)]
  | cons v l ih =>
    intro i cs h
    simp only [List.zipIdx_cons, List.foldl_cons]
    rw [ih (i + 1) _ (by simp at h ⊢; omega)]
    simp only [Array.toList_setIfInBounds, Nat.zero_add]
    have hi : i < cs.toList.length := by simp at h ⊢; omega
    rw [List.take_succ_eq_append_getElem (by simpa using hi), List.take_set_of_le (Nat.le_refl _)]
    simp
theorem fill_one (z p : Array Value) (h : p.size = z.size) (place : Nat → Option (Nat × Nat)) (hp : place 0 = some (0, p.size)) : Instr.fill place z [(0, .agg p)] = some p := by
  simp only [Instr.fill, hp, Value.cells, h]
  rw [if_neg (by simp)]
  congr 1
  apply Array.toList_inj.1
  have h1 := fold_over p.toList 0 z (by simp [h])
  simp only [List.take_zero, List.nil_append] at h1
  rw [← h1, ← Array.foldl_toList]
  simp
section
variable {P : Program} {ops : Array Oper} {rest : List Oper} {o : Oper} {a : Act} {w : World} {Q : Exit → Act → World → Prop}
/-- A literal of one struct whose cells are not looked into. -/
theorem wpList_buildOne (hg : o.guard = none) (t e : TypeId) (x : Operand) (ho : o.op = .buildSlice t 1 #[(0, x)]) (p : Array Value) (hx : a.eval x = .agg p)
    (hu : P.underlying t = some (.slice e)) (z : Value) (k by_ : Nat) (hi : (P.info? e).map (fun i => (i.zero, i.size, i.bytes)) = some (some z, k, by_)) (hz : z.cells.size = k) (hk : p.size = k) (hk0 : 0 < k) (hk2 : k ≤ 2 ^ 24)
    (h : wpList P ops Q rest (a.put o.dst (.slice (some ⟨w.heap.size, 0, none⟩) 1 1)) (w.alloc (.cells p e))) : wpList P ops Q (o :: rest) a w := by
  obtain ⟨i, hi', hz', hs', hb'⟩ := info_parts hi
  refine wpList_buildSlice hg t e 1 _ ho p i z hu hi' hz' (by omega) (by omega) ?_ h
  have e1 : ((#[(0, x)] : Array (Nat × Operand)).map fun (i, x) => (i, a.eval x)).toList = [(0, .agg p)] := by simp [hx]
  rw [e1]
  exact fill_one _ p (by simp; omega) _ (by simp; omega)
end
end Go.Proofs.YtbcagdjfegobnaaGreat
/- Gates whose connections have just begun: the contract of gate.fresh. -/
namespace Go.Proofs.YtbcagdjfegobnaaGreat
open Go.ChangeShapes Go.WideShapes Go.ChangeAt Go.RowKit
set_option linter.unusedVariables false

/-- What two notes that say the same have in common. -/
abbrev NtP := Int × Int × Int × Int × Bool × Int
def NtB.pl (x : NtB) : NtP := (x.id, x.from_, x.peer, x.key, x.ready, x.last)
theorem pl_eq {x y : NtB} (h : x.pl = y.pl) : x.id = y.id ∧ x.from_ = y.from_ ∧ x.peer = y.peer ∧ x.key = y.key ∧ x.ready = y.ready ∧ x.last = y.last := by
  simpa [NtB.pl] using h
theorem NtOk.as {nx : Int} {x y : NtB} (h : NtOk nx x) (e : y.pl = x.pl) (hr : BgR y.cs y.last) : NtOk nx y := by
  obtain ⟨e1, e2, e3, e4, _, _⟩ := pl_eq e
  exact ⟨by rw [e1]; exact h.id0, by rw [e1]; exact h.id1, by rw [e2]; exact h.f0, by rw [e2]; exact h.f1, by rw [e3]; exact h.p0, by rw [e3]; exact h.p1, by rw [e4]; exact h.k0, by rw [e4]; exact h.k1, hr⟩
theorem GOk.as {g : GtD} {xs ys : List NtB} (h : GOk g xs) (e : ys.map NtB.pl = xs.map NtB.pl) (hr : ∀ y ∈ ys, BgR y.cs y.last) : GOk g ys := by
  have hl : ys.length = xs.length := by have := congrArg List.length e; simpa using this
  refine ⟨h.s0, h.s1, h.n0, h.n1, h.x0, h.x1, h.h0, h.h1, h.tl, by rw [hl]; exact h.few, fun y hy => ?_, ?_⟩
  · have h1 : y.pl ∈ xs.map NtB.pl := by rw [← e]; exact List.mem_map_of_mem hy
    obtain ⟨x, hx, hxy⟩ := List.mem_map.1 h1
    exact (h.nts x hx).as hxy.symm (hr y hy)
  · have h1 : (xs.map NtB.pl).Pairwise (fun a b => a.1 < b.1) := List.pairwise_map.2 h.inc
    rw [← e] at h1
    exact (List.pairwise_map (f := NtB.pl) (R := fun a b => a.1 < b.1)).1 h1
/-- A note with another connection. -/
def NtB.put (x : NtB) (cs : Array Value) (sz : cs.size = 24) (one : ∀ u ∈ cs.toList, u.oneCell' = true) : NtB := ⟨x.id, x.from_, x.peer, x.key, x.ready, x.last, cs, sz, one⟩
theorem nta_put (x : NtB) (cs : Array Value) (sz : cs.size = 24) (one : ∀ u ∈ cs.toList, u.oneCell' = true) : ((nta x).toList.take 5 ++ cs.toList ++ (nta x).toList.drop (5 + cs.size)).toArray = nta (x.put cs sz one) := by
  have h1 : (nta x).toList.drop (5 + cs.size) = [] := List.drop_of_length_le (by rw [Array.length_toList, nta_size, sz]; decide)
  rw [h1, List.append_nil]
  simp [nta, NtB.put]
theorem take_pl (xs : List NtB) (k : Nat) (h : k < xs.length) : (xs.take (k + 1)).map NtB.pl = (xs.take k).map NtB.pl ++ [(xs.getD k ntn).pl] := by
  rw [takeD xs k ntn h, List.map_append]; rfl
/-- One note that lies alone. -/
theorem RdX.oneN (w : World) (E : TypeId) (x : NtB) : RdX ntc 29 (w.alloc (.cells (nta x) E)) (some ⟨w.heap.size, 0, none⟩) [x] := by
  have hB := Blk.new w E (nta x)
  refine ⟨by simp [ntc_len], fun _ => ⟨w.heap.size, 0, rfl, fun j u hu => ?_⟩⟩
  rw [hB.cell, Nat.zero_add]
  simpa [ntc] using hu

/-- What fresh answers. -/
def GFresh (w : World) (g : GtD) (n : Nat) (xs : List NtB) (e : Ending) (w' : World) : Prop :=
  ∃ (A' : Option Addr) (c' : Nat) (ys : List NtB), e = .returned (.agg (gcs g A' n c')) ∧ OwnX ntc 29 w' (w.heap.size + 2) 53 A' c' ys ∧ GtV w' g A' n c' ys ∧ ys.map NtB.pl = xs.map NtB.pl ∧ Below w.heap.size w w'

theorem gcs_one (g : GtD) (A : Option Addr) (n c : Nat) : ∀ u ∈ (gcs g A n c).toList, u.oneCell' = true := by
  intro u hu
  simp only [gcs, List.mem_cons, List.not_mem_nil, or_false] at hu
  rcases hu with rfl | rfl | rfl | rfl | rfl | rfl | rfl | rfl | rfl | rfl | rfl | rfl | rfl | rfl | rfl | rfl | rfl | rfl <;> rfl

set_option maxRecDepth 100000 in
set_option maxHeartbeats 4000000 in
theorem gateFresh_ok (g : GtD) (A : Option Addr) (n c : Nat) (xs : List NtB) (w : World) (h : GtV w g A n c xs) :
    Calls Tryz.prog 58 #[.agg (gcs g A n c)] w (GFresh w g n xs) := by
  have HV := Lib.hid h
  have q6 := h.ok.few
  rw [h.hn] at q6
  clear h
  go_enter Tryz.func58, Tryz.ntmps58
  go_upto_region 1 with (fail)
  refine wp_world (fun w' => Blk w' w.heap.size 29 (gcs g A n c) ∧ (∃ z, z.size = 18 ∧ Blk w' (w.heap.size + 1) 29 z) ∧ w'.heap.size = w.heap.size + 2 ∧ Below w.heap.size w w') ⟨(Blk.new _ _ _).alloc _, ⟨_, rfl, Blk.new1 _ _ _ _⟩, by simp, ((Below.refl _ _).alloc (Nat.le_refl _) _).alloc (by simp) _⟩ ?_
  rintro w1 ⟨hS, ⟨z, hz, hZ⟩, hsz, hb⟩
  have f3 : w1.cell? ⟨w.heap.size, 3, none⟩ = some (.slice A n c) := by rw [hS.cell]; rfl
  have hzl := hZ.lt
  go_wp2_with fail
  go_loopw [3, 9] (fun s3 s9 wr => ∃ (k : Nat) (D : Option Addr) (cd : Nat) (ys : List NtB), k ≤ n ∧ s9 = .int .i64 k ∧ s3 = .slice D k cd ∧ ys.length = k ∧ OwnX ntc 29 wr (w.heap.size + 2) 53 D cd ys ∧ ys.map NtB.pl = (xs.take k).map NtB.pl ∧ (∀ y ∈ ys, BgR y.cs y.last) ∧ Below w1.heap.size w1 wr) (fun _ s9 _ => n - (intOf s9).toNat)
  case atStart => exact ⟨0, none, 0, [], Nat.zero_le _, rfl, rfl, rfl, OwnX.nil _ _ _, rfl, fun y hy => absurd hy List.not_mem_nil, Below.refl _ _⟩
  case round =>
    obtain ⟨k, D, cd, ys, hk, rfl, rfl, hyl, hO, hpl, hyr, hbr⟩ := hrel
    have HYL := Lib.hid hyl
    have HO := Lib.hid hO
    have HPL := Lib.hid hpl
    have HYR := Lib.hid hyr
    have HBR := Lib.hid hbr
    have hwr := hbr.size
    clear hyl hO hpl hyr f3
    by_cases hlt : k < n
    -- [[round1
    · have hkx : k < xs.length := by rw [HV.out.hn]; exact hlt
      have hok := (HV.out.ok.at_ k hkx).1
      obtain ⟨b, off, rfl, hcell⟩ := (RdX.below HV.out.rd (hb.trans (hbr.mono hb.size))).nt (by omega)
      have hc := hcell k hkx
      have HTK := Lib.hid (take_pl xs k hkx)
      generalize xs.getD k ntn = x at *
      have HC := Lib.hid hc
      have hkn : (k : Int) < (n : Int) := by omega
      clear hcell hc hkx hbr
      go_upto_region 5 with (first
        | refine wpList_loadR rfl 53 (.tmp 11) rfl b (off + k * 29) rfl (nta x) _ Tryz.underlying53 rfl (by rw [nta_size]; kernel_rfl) HC.out ?_
        | (refine wpList_storeP rfl 53 (.tmp 5) (.tmp 12) rfl wr.heap.size 0 rfl (nta x) rfl 53 _ (Blk.new _ _ _) (by rw [nta_size]; kernel_rfl) (by rw [nta_size]; decide) (nta_one x) _ (splice_all _ _ (by rw [nta_size]; rfl)) ?_
           intro w2 hN hw2
           have hO2 := Lib.hid ((HO.out.alloc _).wr hw2 (fun a ha => by have := (HO.out.lt (n := k) a.block (by rw [slice_own, ha]; rfl)).2; omega))
           have hb2 := Lib.hid (hw2.trans_below (HBR.out.alloc hwr _) hwr)))
      obtain ⟨q, hq⟩ : ∃ q, wr.heap.size = q := ⟨_, rfl⟩
      rw [hq] at hN ⊢
      have hqw : w1.heap.size ≤ q := by omega
      have hqs : q < w2.heap.size := hN.lt
      have HLT : Hid (∀ a, D = some a → a.block < q) := Lib.hid fun a ha => by have := (HO.out.lt (n := k) a.block (by rw [slice_own, ha]; rfl)).2; omega
      have HR := Lib.hid hok.r
      clear hw2 hq HC HO HBR hwr
      go_wp2_with (refine wpList_loadR rfl 43 (.tmp 13) rfl q 5 rfl x.cs _ Tryz.underlying43 rfl (by rw [x.sz]; kernel_rfl) hN.ntcs ?_)
      refine (HR.out.fresh _).mono ?_
      rintro e w3 ⟨cs, rfl, hcs, hb3⟩
      have hN3 := hN.carry hb3
      have hO3 := Lib.hid (hO2.out.carry hb3)
      have hB3 := Lib.hid (hb2.out.trans (hb3.mono hb2.out.size))
      have h23 := hb3.size
      clear hb3 hN hO2 hb2
      go_upto_region 6 with (refine wpList_storeP rfl 43 (.tmp 16) (.tmp 15) rfl q 5 rfl cs rfl 53 _ hN3 (by rw [hcs.size]; kernel_rfl) (by rw [nta_size, hcs.size]; decide) hcs.one _ (nta_put x cs hcs.size hcs.one) ?_
                             intro w4 hN4 hw4
                             have hO4 := Lib.hid (hO3.out.wr hw4 (fun a ha => by have := HLT.out a ha; omega))
                             have hb4 := Lib.hid (hw4.trans_below hB3.out hqw)
                             have hs4 := hw4.size)
      have HP : Hid ((x.put cs hcs.size hcs.one).pl = x.pl) := rfl
      have HRC : Hid (BgR (x.put cs hcs.size hcs.one).cs (x.put cs hcs.size hcs.one).last) := hcs
      generalize x.put cs hcs.size hcs.one = y at *
      clear hN3 hO3 hB3 hw4
      have HNY := Lib.hid hN4
      clear hN4
      have hw14 := hb4.out.size
      go_wp2_with (first
        | refine wpList_loadR rfl 53 (.tmp 5) rfl q 0 rfl (nta y) _ Tryz.underlying53 rfl (by rw [nta_size]; kernel_rfl) HNY.out.whole ?_
        | refine wpList_buildOne rfl 24 53 (.tmp 18) rfl (nta y) rfl Tryz.underlying24 _ 29 312 ntInfo (nta_size _) (nta_size _) (by decide) (by decide) ?_
        | (at_builtin
           refine wpList_appL ntc 29 ntc_one _ rfl (.tmp 17) (.tmp 19) _ rfl (w.heap.size + 2) 53 _ 312 Tryz.underlying24 ntInfo (nta_size _) (by decide) (by decide) D k cd ys rfl HYL.out (hO4.out.alloc _) _ 1 1 [y] rfl rfl (RdX.oneN _ _ _) (ys ++ [y]) rfl (k + 1) rfl (by omega) (by simp; omega) ?_
           intro A7 c7 w7 hO7 hc7 hm7 hb7 hg7 ha7))
      go_roundw
      case rel => exact ⟨k + 1, A7, c7, ys ++ [y], by omega, by go_num, rfl, by rw [List.length_append, HYL.out]; rfl, hO7, by rw [List.map_append, HPL.out, HTK.out, ← HP.out]; rfl, (fun v hv => by
        rcases List.mem_append.1 hv with h1 | h1
        · exact HYR.out v h1
        · rw [List.mem_singleton.1 h1]; exact HRC.out), by rw [hsz]; exact ((hsz ▸ hb4.out).alloc (by omega) _).trans hb7⟩
      case measure => simp [intOf]; omega
      -- ]]round1
    -- [[fin
    · obtain rfl : k = n := by omega
      rw [List.take_of_length_le (by rw [HV.out.hn]; exact Nat.le_refl _)] at HPL
      have hS2 := hS.carry hbr
      have hZ2 := hZ.carry hbr
      have f3 := hS2.zs 3
      have f30 : wr.cell? ⟨w.heap.size, 3, none⟩ = some (.slice A k c) := by rw [hS2.cell]; rfl
      have hb2 := hb.trans (hbr.mono hb.size)
      go_upto_region 9 with (fail)
      refine wp_world (fun w' => Blk w' w.heap.size 29 (gcs g D k cd) ∧ Blk w' (w.heap.size + 1) 29 z ∧ OwnX ntc 29 w' (w.heap.size + 2) 53 D cd ys ∧ Below w.heap.size w w') ⟨(hS2.set_ 3 _).as (by rfl), hZ2.far (by simp) _, HO.out.set_below (by show w.heap.size < w.heap.size + 2; omega) _, by (repeat (first | with_reducible exact hb2 | with_reducible refine Below.drew ?_ | (with_reducible refine Below.set4 ?_ ?side _ _ _ _; case side => (first | omega | (simp; omega) | (simp; done))) | (with_reducible refine Below.setCell ?_ ?side _; case side => (first | omega | (simp; omega) | (simp; done))) | (with_reducible refine Below.alloc ?_ ?side _; case side => (first | omega | (simp; omega) | (simp; done)))))⟩ ?_
      clear hS2 hZ2 HO hb2 f3 f30 hbr HBR hS hZ hb
      rintro w2 ⟨hS, hZ, hO, hb⟩
      have HO := Lib.hid hO
      clear hO
      go_wp2_with (first
        | refine wpList_loadR rfl 29 (.tmp 1) rfl w.heap.size 0 rfl (gcs g D k cd) _ Tryz.underlying29 rfl (by kernel_rfl) hS.whole ?_
        | (refine wpList_storeP rfl 29 (.tmp 2) (.tmp 24) rfl (w.heap.size + 1) 0 rfl (gcs g D k cd) rfl 29 _ hZ (by kernel_rfl) (by simp [gcs, hz]) (gcs_one _ _ _ _) _ (splice_all _ _ (by simp [gcs, hz])) ?_
           intro w6 hB6 hw6))
      have hO6 := HO.out.wr hw6 (fun a ha => by have := (HO.out.lt (n := k) a.block (by rw [slice_own, ha]; rfl)).1; omega)
      exact bodyPost_ret (results_c1 _ _ (w.heap.size + 1) _ (gcs g D k cd) _ Tryz.results58 rfl hB6 Tryz.underlying29 rfl (by kernel_rfl)) rfl
        ⟨D, cd, ys, rfl, hO6, ⟨HYL.out, by have := hO6.cap; rw [HYL.out] at this; exact this.1, hO6.cap.2, HV.out.ok.as HPL.out HYR.out, hO6.rd⟩, HPL.out, hw6.trans_below hb (by omega)⟩
    -- ]]fin
end Go.Proofs.YtbcagdjfegobnaaGreat
/- Gates: which note it is: the contracts of desk.note and of what it asks. -/
namespace Go.Proofs.YtbcagdjfegobnaaGreat
open Go.ChangeShapes Go.WideShapes Go.ChangeAt Go.RowKit
set_option linter.unusedVariables false

/-- Where the first note lies of which it is so. -/
def noteAt (A : Option Addr) (xs : List NtB) (ask : NtB → Bool) : Value :=
  match xs.findIdx? ask with
  | none => .pointer none
  | some k => .pointer (A.map fun a => ⟨a.block, a.off + k * 29, none⟩)
theorem noteAt_none {A : Option Addr} {xs : List NtB} {ask : NtB → Bool} (h : xs.any ask = false) : noteAt A xs ask = .pointer none := by
  have : xs.findIdx? ask = none := by simpa [List.findIdx?_eq_none_iff] using h
  simp [noteAt, this]
theorem noteAt_some {b off : Nat} {xs : List NtB} {ask : NtB → Bool} {k : Nat} (hk : k < xs.length) (h0 : (xs.take k).any ask = false) (h1 : ask (xs.getD k ntn) = true) : noteAt (some ⟨b, off, none⟩) xs ask = .pointer (some ⟨b, off + k * 29, none⟩) := by
  have : xs.findIdx? ask = some k := by
    rw [List.findIdx?_eq_some_iff_getElem]
    refine ⟨hk, by simpa [List.getD, hk] using h1, fun j hj => ?_⟩
    have := List.any_eq_false.1 h0 (xs[j]'(by omega)) (by
      rw [List.mem_take_iff_getElem]
      exact ⟨j, by omega, rfl⟩)
    simpa using this
  simp [noteAt, this]
theorem any_take {xs : List NtB} {ask : NtB → Bool} {k : Nat} (hk : k < xs.length) : (xs.take (k + 1)).any ask = ((xs.take k).any ask || ask (xs.getD k ntn)) := by
  rw [takeD xs k ntn hk, List.any_append]; simp

set_option maxRecDepth 100000 in
set_option maxHeartbeats 4000000 in
theorem note_first (c1 c2 : Value) (gd : Nat) (A : Option Addr) (n c : Nat) (xs : List NtB) (hn : xs.length = n) (hnc : n ≤ c) (hcm : c ≤ 9223372036854775807) (hn3 : n ≤ 100) (ask : NtB → Bool) (w : World)
    (hA : RdX ntc 29 w A xs) (hd : w.cell? ⟨gd, 3, none⟩ = some (.slice A n c)) (hl : gd < w.heap.size)
    (hask : ∀ W, Below w.heap.size w W → ∀ x ∈ xs, Calls Tryz.prog 96 #[.agg (nta x), c1, c2] W fun e w' => e = .returned (.bool (ask x)) ∧ Below W.heap.size W w') :
    Calls Tryz.prog 95 #[.pointer (some ⟨gd, 0, none⟩), .func (.func 96) #[] #[c1, c2]] w fun e w' => e = .returned (noteAt A xs ask) ∧ Below w.heap.size w w' := by
  have HN := Lib.hid hn
  have HA := Lib.hid hA
  have HASK := Lib.hid hask
  have HD : Hid (∀ W, Below w.heap.size w W → W.cell? ⟨gd, 3, none⟩ = some (.slice A n c)) := Lib.hid fun W hW => by rw [hW.cell (p := ⟨gd, 3, none⟩) hl]; exact hd
  clear hn hA hask
  go_enter Tryz.func95, Tryz.ntmps95
  go_wp2_with fail
  go_loopw [12] (fun s12 wr => ∃ k : Nat, k ≤ n ∧ s12 = .int .i64 k ∧ Hid ((xs.take k).any ask = false) ∧ Below w.heap.size w wr) (fun s12 _ => n - (intOf s12).toNat)
  case atStart => exact ⟨0, Nat.zero_le _, rfl, by show _ = _; simp, Below.refl _ _⟩
  case round =>
    obtain ⟨k, hk, rfl, hno, hb⟩ := hrel
    have hd := HD.out _ hb
    by_cases hlt : k < n
    -- [[round1
    · have hkx : k < xs.length := by rw [HN.out]; exact hlt
      have hmem : xs.getD k ntn ∈ xs := by simp [List.getD, hkx]
      obtain ⟨b, off, rfl, hcell⟩ := (RdX.below HA.out hb).nt (by omega)
      have HC := Lib.hid (hcell k hkx)
      have HCA := Lib.hid (fun W hW => HASK.out W (hb.trans (Below.mono hW hb.size)) _ hmem)
      have HAT := Lib.hid (any_take (ask := ask) hkx)
      have HSO := Lib.hid (noteAt_some (b := b) (off := off) hkx hno.out (ask := ask))
      generalize xs.getD k ntn = x at *
      have hkn : (k : Int) < (n : Int) := by omega
      have hk0 : (0 : Int) ≤ (k : Int) := by omega
      have HB := Lib.hid hb
      clear hcell hkx hmem hb
      go_wp2_with (refine wpList_loadR rfl 53 (.tmp 22) rfl b (off + k * 29) rfl (nta x) _ Tryz.underlying53 rfl (by rw [nta_size]; kernel_rfl) HC.out ?_)
      refine (HCA.out _ (Below.refl _ _)).mono ?_
      rintro e w3 ⟨rfl, hb3⟩
      have hb := HB.out.trans (hb3.mono HB.out.size)
      have hd := HD.out _ hb
      cases hx : ask x with
      | true =>
        have HE := Lib.hid (HSO.out hx)
        clear hx
        go_wp2_with fail
        go_ret
        exact ⟨by rw [HE.out]; rfl, hb⟩
      | false =>
        have HE : Hid ((xs.take (k + 1)).any ask = false) := by show _ = _; rw [HAT.out, hno.out, hx]; rfl
        clear hx
        go_wp2_with fail
        go_roundw
        case rel => exact ⟨k + 1, by omega, by go_num, HE, hb⟩
        case measure => simp [intOf]; omega
      -- ]]round1
    -- [[fin
    · obtain rfl : k = n := by omega
      have HE := Lib.hid (noteAt_none (A := A) (xs := xs) (ask := ask) (by have := hno.out; rwa [List.take_of_length_le (by rw [HN.out]; exact Nat.le_refl _)] at this))
      go_wp2_with fail
      go_ret
      exact ⟨by rw [HE.out]; rfl, hb⟩
      -- ]]fin

set_option maxRecDepth 100000 in
set_option maxHeartbeats 4000000 in
theorem note_short (c1 c2 : Value) (gd : Nat) (A : Option Addr) (n c : Nat) (xs : List NtB) (hn : xs.length = n) (hnc : n ≤ c) (hcm : c ≤ 9223372036854775807) (hn3 : n ≤ 100) (ask : NtB → Bool) (w : World)
    (hA : RdX ntc 29 w A xs) (hd : w.cell? ⟨gd, 3, none⟩ = some (.slice A n c)) (hl : gd < w.heap.size)
    (hask : ∀ W, Below w.heap.size w W → ∀ x ∈ xs, Calls Tryz.prog 103 #[.agg (nta x), c1, c2] W fun e w' => e = .returned (.bool (ask x)) ∧ Below W.heap.size W w') :
    Calls Tryz.prog 95 #[.pointer (some ⟨gd, 0, none⟩), .func (.func 103) #[] #[c1, c2]] w fun e w' => e = .returned (noteAt A xs ask) ∧ Below w.heap.size w w' := by
  have HN := Lib.hid hn
  have HA := Lib.hid hA
  have HASK := Lib.hid hask
  have HD : Hid (∀ W, Below w.heap.size w W → W.cell? ⟨gd, 3, none⟩ = some (.slice A n c)) := Lib.hid fun W hW => by rw [hW.cell (p := ⟨gd, 3, none⟩) hl]; exact hd
  clear hn hA hask
  go_enter Tryz.func95, Tryz.ntmps95
  go_wp2_with fail
  go_loopw [12] (fun s12 wr => ∃ k : Nat, k ≤ n ∧ s12 = .int .i64 k ∧ Hid ((xs.take k).any ask = false) ∧ Below w.heap.size w wr) (fun s12 _ => n - (intOf s12).toNat)
  case atStart => exact ⟨0, Nat.zero_le _, rfl, by show _ = _; simp, Below.refl _ _⟩
  case round =>
    obtain ⟨k, hk, rfl, hno, hb⟩ := hrel
    have hd := HD.out _ hb
    by_cases hlt : k < n
    -- [[round1
    · have hkx : k < xs.length := by rw [HN.out]; exact hlt
      have hmem : xs.getD k ntn ∈ xs := by simp [List.getD, hkx]
      obtain ⟨b, off, rfl, hcell⟩ := (RdX.below HA.out hb).nt (by omega)
      have HC := Lib.hid (hcell k hkx)
      have HCA := Lib.hid (fun W hW => HASK.out W (hb.trans (Below.mono hW hb.size)) _ hmem)
      have HAT := Lib.hid (any_take (ask := ask) hkx)
      have HSO := Lib.hid (noteAt_some (b := b) (off := off) hkx hno.out (ask := ask))
      generalize xs.getD k ntn = x at *
      have hkn : (k : Int) < (n : Int) := by omega
      have hk0 : (0 : Int) ≤ (k : Int) := by omega
      have HB := Lib.hid hb
      clear hcell hkx hmem hb
      go_wp2_with (refine wpList_loadR rfl 53 (.tmp 22) rfl b (off + k * 29) rfl (nta x) _ Tryz.underlying53 rfl (by rw [nta_size]; kernel_rfl) HC.out ?_)
      refine (HCA.out _ (Below.refl _ _)).mono ?_
      rintro e w3 ⟨rfl, hb3⟩
      have hb := HB.out.trans (hb3.mono HB.out.size)
      have hd := HD.out _ hb
      cases hx : ask x with
      | true =>
        have HE := Lib.hid (HSO.out hx)
        clear hx
        go_wp2_with fail
        go_ret
        exact ⟨by rw [HE.out]; rfl, hb⟩
      | false =>
        have HE : Hid ((xs.take (k + 1)).any ask = false) := by show _ = _; rw [HAT.out, hno.out, hx]; rfl
        clear hx
        go_wp2_with fail
        go_roundw
        case rel => exact ⟨k + 1, by omega, by go_num, HE, hb⟩
        case measure => simp [intOf]; omega
      -- ]]round1
    -- [[fin
    · obtain rfl : k = n := by omega
      have HE := Lib.hid (noteAt_none (A := A) (xs := xs) (ask := ask) (by have := hno.out; rwa [List.take_of_length_le (by rw [HN.out]; exact Nat.le_refl _)] at this))
      go_wp2_with fail
      go_ret
      exact ⟨by rw [HE.out]; rfl, hb⟩
      -- ]]fin

set_option maxRecDepth 100000 in
set_option maxHeartbeats 4000000 in
theorem note_answer (c1 : Value) (gd : Nat) (A : Option Addr) (n c : Nat) (xs : List NtB) (hn : xs.length = n) (hnc : n ≤ c) (hcm : c ≤ 9223372036854775807) (hn3 : n ≤ 100) (ask : NtB → Bool) (w : World)
    (hA : RdX ntc 29 w A xs) (hd : w.cell? ⟨gd, 3, none⟩ = some (.slice A n c)) (hl : gd < w.heap.size)
    (hask : ∀ W, Below w.heap.size w W → ∀ x ∈ xs, Calls Tryz.prog 182 #[.agg (nta x), c1] W fun e w' => e = .returned (.bool (ask x)) ∧ Below W.heap.size W w') :
    Calls Tryz.prog 95 #[.pointer (some ⟨gd, 0, none⟩), .func (.func 182) #[] #[c1]] w fun e w' => e = .returned (noteAt A xs ask) ∧ Below w.heap.size w w' := by
  have HN := Lib.hid hn
  have HA := Lib.hid hA
  have HASK := Lib.hid hask
  have HD : Hid (∀ W, Below w.heap.size w W → W.cell? ⟨gd, 3, none⟩ = some (.slice A n c)) := Lib.hid fun W hW => by rw [hW.cell (p := ⟨gd, 3, none⟩) hl]; exact hd
  clear hn hA hask
  go_enter Tryz.func95, Tryz.ntmps95
  go_wp2_with fail
  go_loopw [12] (fun s12 wr => ∃ k : Nat, k ≤ n ∧ s12 = .int .i64 k ∧ Hid ((xs.take k).any ask = false) ∧ Below w.heap.size w wr) (fun s12 _ => n - (intOf s12).toNat)
  case atStart => exact ⟨0, Nat.zero_le _, rfl, by show _ = _; simp, Below.refl _ _⟩
  case round =>
    obtain ⟨k, hk, rfl, hno, hb⟩ := hrel
    have hd := HD.out _ hb
    by_cases hlt : k < n
    -- [[round1
    · have hkx : k < xs.length := by rw [HN.out]; exact hlt
      have hmem : xs.getD k ntn ∈ xs := by simp [List.getD, hkx]
      obtain ⟨b, off, rfl, hcell⟩ := (RdX.below HA.out hb).nt (by omega)
      have HC := Lib.hid (hcell k hkx)
      have HCA := Lib.hid (fun W hW => HASK.out W (hb.trans (Below.mono hW hb.size)) _ hmem)
      have HAT := Lib.hid (any_take (ask := ask) hkx)
      have HSO := Lib.hid (noteAt_some (b := b) (off := off) hkx hno.out (ask := ask))
      generalize xs.getD k ntn = x at *
      have hkn : (k : Int) < (n : Int) := by omega
      have hk0 : (0 : Int) ≤ (k : Int) := by omega
      have HB := Lib.hid hb
      clear hcell hkx hmem hb
      go_wp2_with (refine wpList_loadR rfl 53 (.tmp 22) rfl b (off + k * 29) rfl (nta x) _ Tryz.underlying53 rfl (by rw [nta_size]; kernel_rfl) HC.out ?_)
      refine (HCA.out _ (Below.refl _ _)).mono ?_
      rintro e w3 ⟨rfl, hb3⟩
      have hb := HB.out.trans (hb3.mono HB.out.size)
      have hd := HD.out _ hb
      cases hx : ask x with
      | true =>
        have HE := Lib.hid (HSO.out hx)
        clear hx
        go_wp2_with fail
        go_ret
        exact ⟨by rw [HE.out]; rfl, hb⟩
      | false =>
        have HE : Hid ((xs.take (k + 1)).any ask = false) := by show _ = _; rw [HAT.out, hno.out, hx]; rfl
        clear hx
        go_wp2_with fail
        go_roundw
        case rel => exact ⟨k + 1, by omega, by go_num, HE, hb⟩
        case measure => simp [intOf]; omega
      -- ]]round1
    -- [[fin
    · obtain rfl : k = n := by omega
      have HE := Lib.hid (noteAt_none (A := A) (xs := xs) (ask := ask) (by have := hno.out; rwa [List.take_of_length_le (by rw [HN.out]; exact Nat.le_refl _)] at this))
      go_wp2_with fail
      go_ret
      exact ⟨by rw [HE.out]; rfl, hb⟩
      -- ]]fin

theorem ask_first (x : NtB) (peer from_ : Int) (gp gh : Nat) (w : World) (hp : w.cell? ⟨gp, 0, none⟩ = some (.int .i64 peer)) (hh : w.cell? ⟨gh, 2, none⟩ = some (.int .i64 from_)) (hpl : gp < w.heap.size) (hhl : gh < w.heap.size) :
    Calls Tryz.prog 96 #[.agg (nta x), .pointer (some ⟨gp, 0, none⟩), .pointer (some ⟨gh, 0, none⟩)] w fun e w' => e = .returned (.bool (decide (x.peer = peer) && decide (x.from_ = from_))) ∧ Below w.heap.size w w' := by
  go_enter Tryz.func96, Tryz.ntmps96
  go_upto_region 1 with (fail)
  refine wp_world (fun w' => Blk w' w.heap.size 53 (nta x) ∧ w'.cell? ⟨gp, 0, none⟩ = some (.int .i64 peer) ∧ w'.cell? ⟨gh, 2, none⟩ = some (.int .i64 from_) ∧ Below w.heap.size w w') ⟨Blk.new _ _ _, by rw [World.cell?_alloc_lt w _ _ hpl]; exact hp, by rw [World.cell?_alloc_lt w _ _ hhl]; exact hh, (Below.refl _ _).alloc (Nat.le_refl _) _⟩ ?_
  rintro w1 ⟨hN, hp, hh, hb⟩
  have FN := hN.nt
  by_cases h1 : x.peer = peer
  · have h1' : (x.peer == peer) = true := by simp [h1]
    have h1d : decide (x.peer = peer) = true := by simp [h1]
    by_cases h2 : x.from_ = from_
    · have h2' : (x.from_ == from_) = true := by simp [h2]
      have HR := Lib.hid (show (decide (x.peer = peer) && decide (x.from_ = from_)) = true by simp [h1, h2])
      clear h1 h2 h1d
      go_wp2_with fail
      go_ret
      exact ⟨by rw [HR.out]; rfl, hb⟩
    · have h2' : (x.from_ == from_) = false := by simp [h2]
      have HR := Lib.hid (show (decide (x.peer = peer) && decide (x.from_ = from_)) = false by simp [h2])
      clear h1 h2 h1d
      go_wp2_with fail
      go_ret
      exact ⟨by rw [HR.out]; rfl, hb⟩
  · have h1' : (x.peer == peer) = false := by simp [h1]
    have HR := Lib.hid (show (decide (x.peer = peer) && decide (x.from_ = from_)) = false by simp [h1])
    clear h1
    go_wp2_with fail
    go_ret
    exact ⟨by rw [HR.out]; rfl, hb⟩
end Go.Proofs.YtbcagdjfegobnaaGreat
