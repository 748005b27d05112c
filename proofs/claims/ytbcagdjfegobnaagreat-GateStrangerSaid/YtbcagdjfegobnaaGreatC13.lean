/- Texts of the proof, laid together: Gate1 Big2 Gate2 Gate3 Gate5 OrderInv Flow1 Flow2 Flow3 Flow4 Flow5 Flow6 Flow7 Flow FlowK Nest. -/
import Derived.Test.YtbcagdjfegobnaaGreatC11
import Derived.Test.YtbcagdjfegobnaaGreatC12
import Derived.Test.YtbcagdjfegobnaaGreatC09
import Derived.Great.BuildSlice
import Derived.Orders
import Derived.StillTail
import Derived.Test.YtbcagdjfegobnaaGreatC01
/- Gates whose connections have just begun: in memory; the contracts of gate.Begin, Check. -/
namespace Go.Proofs.YtbcagdjfegobnaaGreat
open Go.ChangeShapes Go.WideShapes Go.ChangeAt Go.RowKit
set_option linter.unusedVariables false

/-- A server's connection that has just begun. -/
def BgR (cs : Array Value) (last : Int) : Prop := ∃ A c B d, c ≤ 9223372036854775807 ∧ d ≤ 9223372036854775807 ∧ cs = bg0 false A c B d last 0 4 ∧ 0 ≤ last ∧ last ≤ 1099511627776
theorem BgR.size {cs : Array Value} {l : Int} (h : BgR cs l) : cs.size = 24 := by obtain ⟨A, c, B, d, _, _, rfl, _⟩ := h; rfl
theorem BgR.one {cs : Array Value} {l : Int} (h : BgR cs l) : ∀ u ∈ cs.toList, u.oneCell' = true := by obtain ⟨A, c, B, d, _, _, rfl, _⟩ := h; exact bg0_one _ _ _ _ _ _ _ _
theorem BgR.client {cs : Array Value} {l : Int} (h : BgR cs l) : cs[0]? = some (.bool false) := by obtain ⟨A, c, B, d, _, _, rfl, _⟩ := h; rfl
theorem BgR.closed {cs : Array Value} {l : Int} (h : BgR cs l) : cs[22]? = some (.bool false) := by obtain ⟨A, c, B, d, _, _, rfl, _⟩ := h; rfl
theorem BgR.check {cs : Array Value} {l : Int} (h : BgR cs l) (w : World) : Calls Tryz.prog 49 #[.agg cs] w fun e w' => e = .returned (.int .i64 0) ∧ Below w.heap.size w w' := by
  obtain ⟨A, c, B, d, hc, hd, rfl, h0, h1⟩ := h
  exact connCheck_bg0 false A c B d l 0 4 (.inr ⟨rfl, rfl⟩) hc hd h0 h1 w
theorem BgR.fresh {cs : Array Value} {l : Int} (h : BgR cs l) (w : World) : Calls Tryz.prog 92 #[.agg cs] w fun e w' => ∃ cs', e = .returned (.agg cs') ∧ BgR cs' l ∧ Below w.heap.size w w' := by
  obtain ⟨A, c, B, d, hc, hd, rfl, h0, h1⟩ := h
  refine (connFresh_bg0 false A c B d l 0 4 w).mono ?_
  rintro e w' ⟨A', B', rfl, hb⟩
  exact ⟨_, rfl, ⟨A', 0, B', 0, by decide, by decide, rfl, h0, h1⟩, hb⟩
theorem BgR.flush {cs : Array Value} {l : Int} (h : BgR cs l) (now : Int) (n0 : 0 ≤ now) (n1 : now ≤ 1099511627776) (w : World) : Calls Tryz.prog 104 #[.agg cs, .int .i64 now] w fun e w' => ∃ cs', e = .returned (.tuple #[.agg cs', .int .i64 0, .slice none 0 0, .int .i64 0]) ∧ BgR cs' l ∧ Below w.heap.size w w' := by
  obtain ⟨A, c, B, d, hc, hd, rfl, h0, h1⟩ := h
  refine (connFlush_bg0 false A c B d l 0 4 (.inr ⟨rfl, rfl⟩) hc hd h0 h1 now n0 n1 w).mono ?_
  rintro e w' ⟨A', B', rfl, hb⟩
  exact ⟨_, rfl, ⟨A', 0, B', 0, by decide, by decide, rfl, h0, h1⟩, hb⟩
theorem connBegin_BgR (now : Int) (h0 : 0 ≤ now) (h1 : now ≤ 1099511627776) (w : World) : Calls Tryz.prog 69 #[.bool false, .int .i64 now] w fun e w' => ∃ cs, e = .returned (.tuple #[.agg cs, .int .i64 0]) ∧ BgR cs now ∧ Below w.heap.size w w' := by
  refine (connBegin_ok false now h0 h1 w).mono ?_
  rintro e w' ⟨rfl, hb⟩
  exact ⟨_, rfl, ⟨none, 0, none, 0, by decide, by decide, rfl, h0, h1⟩, hb⟩

abbrev Tly := Bool × Int × Int
def TlyOk (t : Tly) : Prop := (0 ≤ t.2.1 ∧ t.2.1 ≤ 1099511627776) ∧ (0 ≤ t.2.2 ∧ t.2.2 ≤ 1099511627776) ∧ (t.1 = false → t.2.2 ≤ 3 * t.2.1)
theorem tallyCheck_any (t : Tly) (ok : TlyOk t) (w : World) : Calls Tryz.prog 48 #[.agg #[.bool t.1, .int .i64 t.2.1, .int .i64 t.2.2]] w fun e w' => e = .returned (.int .i64 0) ∧ Below w.heap.size w w' := by
  obtain ⟨k, g, s⟩ := t
  obtain ⟨⟨h0, h1⟩, ⟨h2, h3⟩, h4⟩ := ok
  cases k
  · exact tallyCheck_f g s h0 h1 h2 h3 (h4 rfl) w
  · exact tallyCheck_t g s h0 h1 h2 h3 w

/-- A note of a gate. -/
structure NtB where
  id : Int
  from_ : Int
  peer : Int
  key : Int
  ready : Bool
  last : Int
  cs : Array Value
  sz : cs.size = 24
  one : ∀ u ∈ cs.toList, u.oneCell' = true
def nta (x : NtB) : Array Value := #[.int .i64 x.id, .int .i64 x.from_, .int .i64 x.peer, .int .u64 x.key, .bool x.ready] ++ x.cs
def ntc (x : NtB) : List Value := (nta x).toList
def ntn : NtB := ⟨0, 0, 0, 0, false, 0, bg0 false none 0 none 0 0 0 0, rfl, bg0_one _ _ _ _ _ _ _ _⟩
theorem nta_size (x : NtB) : (nta x).size = 29 := by simp [nta, x.sz]
theorem ntc_len (x : NtB) : (ntc x).length = 29 := by simp [ntc, nta_size]
theorem nta_one (x : NtB) : ∀ u ∈ (nta x).toList, u.oneCell' = true := by
  intro u hu
  simp only [nta, Array.toList_append, List.mem_append] at hu
  rcases hu with hu | hu
  · simp only [List.mem_cons, List.not_mem_nil, or_false] at hu
    rcases hu with rfl | rfl | rfl | rfl | rfl <;> rfl
  · exact x.one u hu
theorem ntc_one (xs : List NtB) : ∀ u ∈ xs.flatMap ntc, u.oneCell' = true := by
  intro u hu
  obtain ⟨x, _, hx⟩ := List.mem_flatMap.1 hu
  exact nta_one x u hx
structure GtD where
  secret : Int
  now : Int
  next : Int
  t : Nat → Tly
  retry : Bool
  shed : Int
/-- The cells of a gate whose notes lie in the slice A. -/
def gcs (g : GtD) (A : Option Addr) (n c : Nat) : Array Value :=
  #[.int .u64 g.secret, .int .i64 g.now, .int .i64 g.next, .slice A n c, .bool (g.t 0).1, .int .i64 (g.t 0).2.1, .int .i64 (g.t 0).2.2, .bool (g.t 1).1, .int .i64 (g.t 1).2.1, .int .i64 (g.t 1).2.2,
    .bool (g.t 2).1, .int .i64 (g.t 2).2.1, .int .i64 (g.t 2).2.2, .bool (g.t 3).1, .int .i64 (g.t 3).2.1, .int .i64 (g.t 3).2.2, .bool g.retry, .int .i64 g.shed]
structure NtOk (nx : Int) (x : NtB) : Prop where
  id0 : 0 < x.id
  id1 : x.id < nx
  f0 : 0 ≤ x.from_
  f1 : x.from_ ≤ 255
  p0 : 0 ≤ x.peer
  p1 : x.peer < 4
  k0 : 0 ≤ x.key
  k1 : x.key < 18446744073709551616
  r : BgR x.cs x.last
structure GOk (g : GtD) (xs : List NtB) : Prop where
  s0 : 0 ≤ g.secret
  s1 : g.secret < 18446744073709551616
  n0 : 0 ≤ g.now
  n1 : g.now ≤ 1099511627776
  x0 : 1 ≤ g.next
  x1 : g.next ≤ 256
  h0 : 0 ≤ g.shed
  h1 : g.shed ≤ 1099511627776
  tl : ∀ i, i < 4 → TlyOk (g.t i)
  few : xs.length ≤ 3
  nts : ∀ x ∈ xs, NtOk g.next x
  inc : xs.Pairwise (fun a b => a.id < b.id)
theorem ntInfo : (Tryz.prog.info? 53).map (fun i => (i.zero, i.size, i.bytes)) = some (some (.agg (nta ⟨0, 0, 0, 0, false, 0, #[.bool false, .int .i64 0, .slice none 0 0, .int .i64 0, .slice none 0 0, .slice none 0 0, .int .i64 0, .int .i64 0, .int .i64 0, .int .i64 0, .int .i64 0, .int .i64 0, .int .i64 0, .int .i64 0, .int .i64 0, .int .i64 0, .int .i64 0, .slice none 0 0, .bool false, .slice none 0 0, .int .i64 0, .int .i64 0, .bool false, .int .i64 0], rfl, by decide⟩)), 29, 312) := by kernel_rfl
/-- A gate that may be, in memory. -/
structure GtV (w : World) (g : GtD) (A : Option Addr) (n c : Nat) (xs : List NtB) : Prop where
  hn : xs.length = n
  hnc : n ≤ c
  hcm : c ≤ 9223372036854775807
  ok : GOk g xs
  rd : RdX ntc 29 w A xs
theorem GtV.below {w w' : World} {g : GtD} {A : Option Addr} {n c : Nat} {xs : List NtB} (h : GtV w g A n c xs) (hb : Below w.heap.size w w') : GtV w' g A n c xs := ⟨h.hn, h.hnc, h.hcm, h.ok, RdX.below h.rd hb⟩
/-- A note of a row: all its cells. -/
theorem RdX.nt {w : World} {A : Option Addr} {xs : List NtB} (h : RdX ntc 29 w A xs) (hn : 0 < xs.length) : ∃ b off, A = some ⟨b, off, none⟩ ∧ ∀ k, k < xs.length → ∀ j v, (nta (xs.getD k ntn))[j]? = some v → w.cell? ⟨b, off + k * 29 + j, none⟩ = some v := by
  obtain ⟨b, off, e, hc⟩ := RdX.at_ ntc_len h ntn hn
  refine ⟨b, off, e, fun k hk j v hv => hc k hk j v ?_ (by simpa [ntc] using hv)⟩
  have := (Array.getElem?_eq_some_iff.1 hv).1
  rw [nta_size] at this; exact this
/-- What a block that holds a note says of its cells. -/
theorem Blk.nt {w : World} {g : Nat} {t : TypeId} {x : NtB} (h : Blk w g t (nta x)) : g < w.heap.size ∧ w.cell? ⟨g, 0, none⟩ = some (.int .i64 x.id) ∧ w.cell? ⟨g, 1, none⟩ = some (.int .i64 x.from_) ∧ w.cell? ⟨g, 2, none⟩ = some (.int .i64 x.peer) ∧ w.cell? ⟨g, 3, none⟩ = some (.int .u64 x.key) ∧ w.cell? ⟨g, 4, none⟩ = some (.bool x.ready) :=
  ⟨h.lt, by rw [h.cell, nta, Array.getElem?_append_left (by simp)]; rfl, by rw [h.cell, nta, Array.getElem?_append_left (by simp)]; rfl, by rw [h.cell, nta, Array.getElem?_append_left (by simp)]; rfl, by rw [h.cell, nta, Array.getElem?_append_left (by simp)]; rfl, by rw [h.cell, nta, Array.getElem?_append_left (by simp)]; rfl⟩
theorem nta_cs (x : NtB) : ∀ j v, x.cs[j]? = some v → (nta x)[5 + j]? = some v := by
  intro j v hv
  simp only [nta]
  rw [Array.getElem?_append_right (by simp)]
  simpa using hv
theorem Blk.ntcs {w : World} {g : Nat} {t : TypeId} {x : NtB} (h : Blk w g t (nta x)) : ∀ j v, x.cs[j]? = some v → w.cell? ⟨g, 5 + j, none⟩ = some v := fun j v hv => by rw [h.cell]; exact nta_cs x j v hv
def lastN (xs : List NtB) : Nat → Int
  | 0 => 0
  | k + 1 => (xs.getD k ntn).id
theorem GOk.at_ {g : GtD} {xs : List NtB} (h : GOk g xs) (k : Nat) (hk : k < xs.length) : NtOk g.next (xs.getD k ntn) ∧ lastN xs k < (xs.getD k ntn).id := by
  have hm : xs.getD k ntn ∈ xs := by simp [List.getD, hk]
  refine ⟨h.nts _ hm, ?_⟩
  cases k with
  | zero => exact (h.nts _ hm).id0
  | succ k =>
    show (xs.getD k ntn).id < _
    have := List.pairwise_iff_getElem.1 h.inc k (k + 1) (by omega) hk (by omega)
    simpa [List.getD, hk, show k < xs.length by omega] using this

set_option maxRecDepth 100000 in
set_option maxHeartbeats 2000000 in
theorem gateBegin_ok (s : Int) (retry : Bool) (w : World) : Calls Tryz.prog 28 #[.int .u64 s, .bool retry] w fun e w' => e = .returned (.agg (gcs ⟨s, 0, 1, fun _ => (false, 0, 0), retry, 0⟩ none 0 0)) ∧ Below w.heap.size w w' := by
  go_enter Tryz.func28, Tryz.ntmps28
  go_upto_region 1 with (fail)
  refine wp_world (fun w' => (∃ z, z.size = 18 ∧ Blk w' w.heap.size 29 z) ∧ Below w.heap.size w w') ⟨⟨_, rfl, Blk.new _ _ _⟩, (Below.refl _ _).alloc (Nat.le_refl _) _⟩ ?_
  rintro w1 ⟨⟨z, hz, hZ⟩, hb⟩
  go_wp2_with (refine wpList_storeP rfl 29 (.tmp 4) (.tmp 7) rfl w.heap.size 0 rfl (gcs ⟨s, 0, 1, fun _ => (false, 0, 0), retry, 0⟩ none 0 0) rfl 29 _ hZ (by kernel_rfl) (by simp [gcs, hz]) (by intro u hu; simp only [gcs, List.mem_cons, List.not_mem_nil, or_false] at hu; rcases hu with rfl | rfl | rfl | rfl | rfl | rfl | rfl | rfl | rfl | rfl | rfl | rfl | rfl | rfl | rfl | rfl | rfl | rfl <;> rfl) _ (splice_all _ _ (by simp [gcs, hz])) ?_
               intro w8 hB8 hw8)
  exact bodyPost_ret (results_c1 _ _ w.heap.size _ (gcs ⟨s, 0, 1, fun _ => (false, 0, 0), retry, 0⟩ none 0 0) _ Tryz.results28 rfl hB8 Tryz.underlying29 rfl (by kernel_rfl)) rfl ⟨rfl, hw8.trans_below hb (Nat.le_refl _)⟩

set_option maxRecDepth 100000 in
set_option maxHeartbeats 4000000 in
theorem gateCheck_ok (g : GtD) (A : Option Addr) (n c : Nat) (xs : List NtB) (w : World) (h : GtV w g A n c xs) :
    Calls Tryz.prog 18 #[.agg (gcs g A n c)] w fun e w' => e = .returned (.int .i64 0) ∧ Below w.heap.size w w' := by
  have HV := Lib.hid h
  obtain ⟨hn, hnc, hcm, ok, rd⟩ := h
  have q0 := ok.n0
  have q1 := ok.n1
  have q2 := ok.x0
  have q3 := ok.x1
  have q4 := ok.h0
  have q5 := ok.h1
  have q6 := ok.few
  rw [hn] at q6
  have q7 : (n : Int) ≤ 3 := by omega
  clear hn ok rd
  go_enter Tryz.func18, Tryz.ntmps18
  go_upto_region 1 with (fail)
  refine wp_world (fun w' => Blk w' w.heap.size 29 (gcs g A n c) ∧ Below w.heap.size w w') ⟨Blk.new _ _ _, (Below.refl _ _).alloc (Nat.le_refl _) _⟩ ?_
  rintro w1 ⟨hS, hb⟩
  have HF : ∀ W, Blk W w.heap.size 29 (gcs g A n c) → _ := fun W h => Blk.c18 (by unfold gcs at h; exact h)
  have HF := Lib.hid HF
  have F := HF.out _ hS
  have hi : ∀ k, k < 4 → ∀ W, (Instr.index 27 (.agg #[.bool (g.t 0).1, .int .i64 (g.t 0).2.1, .int .i64 (g.t 0).2.2, .bool (g.t 1).1, .int .i64 (g.t 1).2.1, .int .i64 (g.t 1).2.2, .bool (g.t 2).1, .int .i64 (g.t 2).2.1, .int .i64 (g.t 2).2.2, .bool (g.t 3).1, .int .i64 (g.t 3).2.1, .int .i64 (g.t 3).2.2]) (.int .i64 (k : Nat))).run Tryz.prog W = .ok (.agg #[.bool (g.t k).1, .int .i64 (g.t k).2.1, .int .i64 (g.t k).2.2]) W := by
    intro k hk W
    rcases (show k = 0 ∨ k = 1 ∨ k = 2 ∨ k = 3 by omega) with rfl | rfl | rfl | rfl <;> kernel_rfl
  have HI := Lib.hid hi
  clear hi
  go_wp2_with fail
  go_loopw [3, 45] (fun s3 s45 wr => ∃ k : Nat, k ≤ 4 ∧ s45 = .int .i64 k ∧ s3 = .bool true ∧ Blk wr w.heap.size 29 (gcs g A n c) ∧ Below w.heap.size w wr) (fun _ s45 _ => 4 - (intOf s45).toNat)
  case atStart => exact ⟨0, Nat.zero_le _, rfl, by first | rfl | (simp; done) | (simp; omega), hS, hb⟩
  case round =>
    obtain ⟨k, hk, rfl, rfl, hSr, hbr⟩ := hrel
    clear F hS hb
    by_cases hlt : k < 4
    -- [[round1
    · have hik := HI.out k hlt
      have hti := HV.out.ok.tl k hlt
      have hk4 : (k : Int) < 4 := by omega
      go_upto_region 5 with (fail)
      refine wp_world (fun w' => Blk w' wr.heap.size 26 #[.bool (g.t k).1, .int .i64 (g.t k).2.1, .int .i64 (g.t k).2.2] ∧ Blk w' w.heap.size 29 (gcs g A n c) ∧ Below w.heap.size w w') ⟨Blk.new _ _ _, ?_, ?_⟩ ?_
      · have hgl := hSr.lt
        (apply Blk.as; (case h => (repeat (first | with_reducible exact hSr | with_reducible apply Blk.drew | with_reducible apply Blk.set4 | with_reducible apply Blk.set_ | (with_reducible apply Blk.far4 (hne := ?side); case side => (first | omega | (simp; omega) | (simp; done))) | (with_reducible apply Blk.far (hp := ?side); case side => (first | omega | (simp; omega) | (simp; done))) | with_reducible apply Blk.alloc))); (case e => (first | with_reducible rfl | (simp; done) | rfl)))
      · have hgl := hSr.lt
        (repeat (first | with_reducible exact hbr | with_reducible refine Below.drew ?_ | (with_reducible refine Below.set4 ?_ ?side _ _ _ _; case side => (first | omega | (simp; omega) | (simp; done))) | (with_reducible refine Below.setCell ?_ ?side _; case side => (first | omega | (simp; omega) | (simp; done))) | (with_reducible refine Below.alloc ?_ ?side _; case side => (first | omega | (simp; omega) | (simp; done)))))
      have hgl := hSr.lt
      obtain ⟨q, hq⟩ : ∃ q, wr.heap.size = q := ⟨_, rfl⟩
      try rw [hq]
      clear hSr hbr hik hq hgl
      rintro w2 ⟨hT, hS2, hb2⟩
      have FT := hT.c3
      go_wp2_with fail
      refine (tallyCheck_any (g.t k) hti _).mono ?_
      rintro e w3 ⟨rfl, hb3⟩
      have hS3 := hS2.carry hb3
      have hb3 := hb2.trans (hb3.mono hb2.size)
      clear FT hT hS2 hb2
      go_wp2_with fail
      go_roundw
      case rel => exact ⟨k + 1, by omega, by go_num, by first | rfl | simp, hS3, hb3⟩
      case measure => simp [intOf]; omega
      -- ]]round1
    -- [[loop2
    · obtain rfl : k = 4 := by omega
      have HBR := Lib.hid hbr
      have F := HF.out _ hSr
      clear hlt hk
      go_wp2_with fail
      go_loopw [3, 6, 58] (fun s3 s6 s58 wr => ∃ k : Nat, k ≤ n ∧ s58 = .int .i64 k ∧ s3 = .bool true ∧ s6 = .int .i64 (lastN xs k) ∧ Blk wr w.heap.size 29 (gcs g A n c) ∧ Below w.heap.size w wr) (fun _ _ s58 _ => n - (intOf s58).toNat)
      case atStart => exact ⟨0, Nat.zero_le _, rfl, by first | rfl | simp, rfl, hSr, HBR.out⟩
      case round =>
        obtain ⟨k, hk, rfl, rfl, rfl, hS, hb⟩ := hrel
        clear F hSr
        by_cases hlt : k < n
        -- [[round2
        · have hkx : k < xs.length := by rw [HV.out.hn]; exact hlt
          obtain ⟨hok, hls⟩ := HV.out.ok.at_ k hkx
          obtain ⟨b, off, rfl, hcell⟩ := (RdX.below HV.out.rd hb).nt (by omega)
          have hc := hcell k hkx
          have HL : Hid (lastN xs (k + 1) = (xs.getD k ntn).id) := rfl
          generalize lastN xs k = L at *
          generalize xs.getD k ntn = x at *
          have HC := Lib.hid hc
          have hkn : (k : Int) < (n : Int) := by omega
          have hgl := hS.lt
          have HBB := Lib.hid hb
          clear hcell hc hkx hb
          go_upto_region 11 with (first
            | refine wpList_loadR rfl 53 (.tmp 60) rfl b (off + k * 29) rfl (nta x) _ Tryz.underlying53 rfl (by rw [nta_size]; kernel_rfl) HC.out ?_
            | (refine wpList_storeP rfl 53 (.tmp 8) (.tmp 61) rfl wr.heap.size 0 rfl (nta x) rfl 53 _ (Blk.new _ _ _) (by rw [nta_size]; kernel_rfl) (by rw [nta_size]; decide) (nta_one x) _ (splice_all _ _ (by rw [nta_size]; rfl)) ?_
               intro w2 hN hw2
               have hS2 := (hS.alloc _).wr hw2 (by omega)
               have hb2 := hw2.trans_below (HBB.out.alloc (by omega) _) (by omega)))
          obtain ⟨q, hq⟩ : ∃ q, wr.heap.size = q := ⟨_, rfl⟩
          rw [hq] at hN ⊢
          have hok2 := hok
          obtain ⟨i0, i1, f0, f1, p0, p1, k0, k1, hr⟩ := hok
          have HR := Lib.hid hr
          have HN := Lib.hid hN
          have HS2 := Lib.hid hS2
          have HB2 := Lib.hid hb2
          have fg : w2.cell? ⟨w.heap.size, 2, none⟩ = some (.int .i64 g.next) := by rw [hS2.cell]; rfl
          have FN := hN.nt
          clear hN hS2 hb2 hw2 hS HBB hq hgl HC
          go_wp2_with (refine wpList_loadG (by first | rfl | (simp [Region.wanted, yielded]; done)) 43 (.tmp 97) rfl q 5 rfl x.cs _ Tryz.underlying43 rfl (by rw [x.sz]; kernel_rfl) HN.out.ntcs ?_)
          refine (HR.out.check _).mono ?_
          rintro e w3 ⟨rfl, hb3⟩
          have FN := (HN.out.carry hb3).nt
          have e0 : w3.cell? ⟨q, 5, none⟩ = some (.bool false) := (HN.out.carry hb3).ntcs 0 _ HR.out.client
          have HS3 := Lib.hid (HS2.out.carry hb3)
          have HB3 := Lib.hid (HB2.out.trans (hb3.mono HB2.out.size))
          clear hb3 fg
          go_wp2_with fail
          go_roundw
          case rel =>
            (repeat apply Exists.intro)
            refine ⟨⟨k + 1, ?n1, ?n2, ?n3, ?n4, HS3.out, HB3.out⟩, ?f⟩
            case f => rfl
            case n1 => omega
            case n2 => go_num
            case n3 => first | rfl | simp
            case n4 => rw [HL.out]
          case measure => simp [intOf]; omega
          -- ]]round2
        · obtain rfl : k = n := by omega
          go_wp2_with fail
          go_ret
          exact ⟨rfl, hb⟩
      -- ]]loop2
end Go.Proofs.YtbcagdjfegobnaaGreat
/- Laws for great structs, more: a slice of one struct; append of it. -/
namespace Go.Proofs.YtbcagdjfegobnaaGreat
open Go.RowKit
set_option linter.unusedVariables false

/-- Cells that are laid over as_v many others are what is left. -/
theorem fold_over (p : List Value) : ∀ (i : Nat) (cs : Array Value), i + p.length = cs.size → ((p.zipIdx i).foldl (fun cs (x : Value × Nat) => cs.setIfInBounds (0 + x.2) x.1) cs).toList = cs.toList.take i ++ p := by
  induction p with
  | nil => intro i cs h; simp at h ⊢; rw [List.take_of_length_le (by simp; omega)]
  | cons v l ih =>
    intro i cs h
    simp only [List.zipIdx_cons, List.foldl_cons]
    rw [ih (i + 1) _ (by simp at h ⊢; omega)]
    simp only [Array.toList_setIfInBounds, Nat.zero_add]
    have hi : i < cs.toList.length := by simp at h ⊢; omega
    rw [List.take_succ_eq_append_getElem (by simpa using hi), List.take_set_of_le (Nat.le_refl _)]
    simp
theorem fill_one (z p : Array Value) (h : p.size = z.size) (place : Nat → Option (Nat × Nat)) (hp : place 0 = some (0, p.size)) : Instr.fill place z [(0, .agg p)] = some p := by
  simp only [Instr.fill, hp, Value.cells, h]
  rw [if_neg (by simp)]
  congr 1
  apply Array.toList_inj.1
  have h1 := fold_over p.toList 0 z (by simp [h])
  simp only [List.take_zero, List.nil_append] at h1
  rw [← h1, ← Array.foldl_toList]
  simp
section
variable {P : Program} {ops : Array Oper} {rest : List Oper} {o : Oper} {a : Act} {w : World} {Q : Exit → Act → World → Prop}
/-- A literal of one struct whose cells are not looked into. -/
theorem wpList_buildOne (hg : o.guard = none) (t e : TypeId) (x : Operand) (ho : o.op = .buildSlice t 1 #[(0, x)]) (p : Array Value) (hx : a.eval x = .agg p)
    (hu : P.underlying t = some (.slice e)) (z : Value) (k by_ : Nat) (hi : (P.info? e).map (fun i => (i.zero, i.size, i.bytes)) = some (some z, k, by_)) (hz : z.cells.size = k) (hk : p.size = k) (hk0 : 0 < k) (hk2 : k ≤ 2 ^ 24)
    (h : wpList P ops Q rest (a.put o.dst (.slice (some ⟨w.heap.size, 0, none⟩) 1 1)) (w.alloc (.cells p e))) : wpList P ops Q (o :: rest) a w := by
  obtain ⟨i, hi', hz', hs', hb'⟩ := info_parts hi
  refine wpList_buildSlice hg t e 1 _ ho p i z hu hi' hz' (by omega) (by omega) ?_ h
  have e1 : ((#[(0, x)] : Array (Nat × Operand)).map fun (i, x) => (i, a.eval x)).toList = [(0, .agg p)] := by simp [hx]
  rw [e1]
  exact fill_one _ p (by simp; omega) _ (by simp; omega)
end
end Go.Proofs.YtbcagdjfegobnaaGreat
/- Gates whose connections have just begun: the contract of gate.fresh. -/
namespace Go.Proofs.YtbcagdjfegobnaaGreat
open Go.ChangeShapes Go.WideShapes Go.ChangeAt Go.RowKit
set_option linter.unusedVariables false

/-- What two notes that say the same have in common. -/
abbrev NtP := Int × Int × Int × Int × Bool × Int
def NtB.pl (x : NtB) : NtP := (x.id, x.from_, x.peer, x.key, x.ready, x.last)
theorem pl_eq {x y : NtB} (h : x.pl = y.pl) : x.id = y.id ∧ x.from_ = y.from_ ∧ x.peer = y.peer ∧ x.key = y.key ∧ x.ready = y.ready ∧ x.last = y.last := by
  simpa [NtB.pl] using h
theorem NtOk.as {nx : Int} {x y : NtB} (h : NtOk nx x) (e : y.pl = x.pl) (hr : BgR y.cs y.last) : NtOk nx y := by
  obtain ⟨e1, e2, e3, e4, _, _⟩ := pl_eq e
  exact ⟨by rw [e1]; exact h.id0, by rw [e1]; exact h.id1, by rw [e2]; exact h.f0, by rw [e2]; exact h.f1, by rw [e3]; exact h.p0, by rw [e3]; exact h.p1, by rw [e4]; exact h.k0, by rw [e4]; exact h.k1, hr⟩
theorem GOk.as {g : GtD} {xs ys : List NtB} (h : GOk g xs) (e : ys.map NtB.pl = xs.map NtB.pl) (hr : ∀ y ∈ ys, BgR y.cs y.last) : GOk g ys := by
  have hl : ys.length = xs.length := by have := congrArg List.length e; simpa using this
  refine ⟨h.s0, h.s1, h.n0, h.n1, h.x0, h.x1, h.h0, h.h1, h.tl, by rw [hl]; exact h.few, fun y hy => ?_, ?_⟩
  · have h1 : y.pl ∈ xs.map NtB.pl := by rw [← e]; exact List.mem_map_of_mem hy
    obtain ⟨x, hx, hxy⟩ := List.mem_map.1 h1
    exact (h.nts x hx).as hxy.symm (hr y hy)
  · have h1 : (xs.map NtB.pl).Pairwise (fun a b => a.1 < b.1) := List.pairwise_map.2 h.inc
    rw [← e] at h1
    exact (List.pairwise_map (f := NtB.pl) (R := fun a b => a.1 < b.1)).1 h1
/-- A note with another connection. -/
def NtB.put (x : NtB) (cs : Array Value) (sz : cs.size = 24) (one : ∀ u ∈ cs.toList, u.oneCell' = true) : NtB := ⟨x.id, x.from_, x.peer, x.key, x.ready, x.last, cs, sz, one⟩
theorem nta_put (x : NtB) (cs : Array Value) (sz : cs.size = 24) (one : ∀ u ∈ cs.toList, u.oneCell' = true) : ((nta x).toList.take 5 ++ cs.toList ++ (nta x).toList.drop (5 + cs.size)).toArray = nta (x.put cs sz one) := by
  have h1 : (nta x).toList.drop (5 + cs.size) = [] := List.drop_of_length_le (by rw [Array.length_toList, nta_size, sz]; decide)
  rw [h1, List.append_nil]
  simp [nta, NtB.put]
theorem take_pl (xs : List NtB) (k : Nat) (h : k < xs.length) : (xs.take (k + 1)).map NtB.pl = (xs.take k).map NtB.pl ++ [(xs.getD k ntn).pl] := by
  rw [takeD xs k ntn h, List.map_append]; rfl
/-- One note that lies alone. -/
theorem RdX.oneN (w : World) (E : TypeId) (x : NtB) : RdX ntc 29 (w.alloc (.cells (nta x) E)) (some ⟨w.heap.size, 0, none⟩) [x] := by
  have hB := Blk.new w E (nta x)
  refine ⟨by simp [ntc_len], fun _ => ⟨w.heap.size, 0, rfl, fun j u hu => ?_⟩⟩
  rw [hB.cell, Nat.zero_add]
  simpa [ntc] using hu

/-- What fresh answers. -/
def GFresh (w : World) (g : GtD) (n : Nat) (xs : List NtB) (e : Ending) (w' : World) : Prop :=
  ∃ (A' : Option Addr) (c' : Nat) (ys : List NtB), e = .returned (.agg (gcs g A' n c')) ∧ OwnX ntc 29 w' (w.heap.size + 2) 53 A' c' ys ∧ GtV w' g A' n c' ys ∧ ys.map NtB.pl = xs.map NtB.pl ∧ Below w.heap.size w w'

theorem gcs_one (g : GtD) (A : Option Addr) (n c : Nat) : ∀ u ∈ (gcs g A n c).toList, u.oneCell' = true := by
  intro u hu
  simp only [gcs, List.mem_cons, List.not_mem_nil, or_false] at hu
  rcases hu with rfl | rfl | rfl | rfl | rfl | rfl | rfl | rfl | rfl | rfl | rfl | rfl | rfl | rfl | rfl | rfl | rfl | rfl <;> rfl

set_option maxRecDepth 100000 in
set_option maxHeartbeats 4000000 in
theorem gateFresh_ok (g : GtD) (A : Option Addr) (n c : Nat) (xs : List NtB) (w : World) (h : GtV w g A n c xs) :
    Calls Tryz.prog 58 #[.agg (gcs g A n c)] w (GFresh w g n xs) := by
  have HV := Lib.hid h
  have q6 := h.ok.few
  rw [h.hn] at q6
  clear h
  go_enter Tryz.func58, Tryz.ntmps58
  go_upto_region 1 with (fail)
  refine wp_world (fun w' => Blk w' w.heap.size 29 (gcs g A n c) ∧ (∃ z, z.size = 18 ∧ Blk w' (w.heap.size + 1) 29 z) ∧ w'.heap.size = w.heap.size + 2 ∧ Below w.heap.size w w') ⟨(Blk.new _ _ _).alloc _, ⟨_, rfl, Blk.new1 _ _ _ _⟩, by simp, ((Below.refl _ _).alloc (Nat.le_refl _) _).alloc (by simp) _⟩ ?_
  rintro w1 ⟨hS, ⟨z, hz, hZ⟩, hsz, hb⟩
  have f3 : w1.cell? ⟨w.heap.size, 3, none⟩ = some (.slice A n c) := by rw [hS.cell]; rfl
  have hzl := hZ.lt
  go_wp2_with fail
  go_loopw [3, 9] (fun s3 s9 wr => ∃ (k : Nat) (D : Option Addr) (cd : Nat) (ys : List NtB), k ≤ n ∧ s9 = .int .i64 k ∧ s3 = .slice D k cd ∧ ys.length = k ∧ OwnX ntc 29 wr (w.heap.size + 2) 53 D cd ys ∧ ys.map NtB.pl = (xs.take k).map NtB.pl ∧ (∀ y ∈ ys, BgR y.cs y.last) ∧ Below w1.heap.size w1 wr) (fun _ s9 _ => n - (intOf s9).toNat)
  case atStart => exact ⟨0, none, 0, [], Nat.zero_le _, rfl, rfl, rfl, OwnX.nil _ _ _, rfl, fun y hy => absurd hy List.not_mem_nil, Below.refl _ _⟩
  case round =>
    obtain ⟨k, D, cd, ys, hk, rfl, rfl, hyl, hO, hpl, hyr, hbr⟩ := hrel
    have HYL := Lib.hid hyl
    have HO := Lib.hid hO
    have HPL := Lib.hid hpl
    have HYR := Lib.hid hyr
    have HBR := Lib.hid hbr
    have hwr := hbr.size
    clear hyl hO hpl hyr f3
    by_cases hlt : k < n
    -- [[round1
    · have hkx : k < xs.length := by rw [HV.out.hn]; exact hlt
      have hok := (HV.out.ok.at_ k hkx).1
      obtain ⟨b, off, rfl, hcell⟩ := (RdX.below HV.out.rd (hb.trans (hbr.mono hb.size))).nt (by omega)
      have hc := hcell k hkx
      have HTK := Lib.hid (take_pl xs k hkx)
      generalize xs.getD k ntn = x at *
      have HC := Lib.hid hc
      have hkn : (k : Int) < (n : Int) := by omega
      clear hcell hc hkx hbr
      go_upto_region 5 with (first
        | refine wpList_loadR rfl 53 (.tmp 11) rfl b (off + k * 29) rfl (nta x) _ Tryz.underlying53 rfl (by rw [nta_size]; kernel_rfl) HC.out ?_
        | (refine wpList_storeP rfl 53 (.tmp 5) (.tmp 12) rfl wr.heap.size 0 rfl (nta x) rfl 53 _ (Blk.new _ _ _) (by rw [nta_size]; kernel_rfl) (by rw [nta_size]; decide) (nta_one x) _ (splice_all _ _ (by rw [nta_size]; rfl)) ?_
           intro w2 hN hw2
           have hO2 := Lib.hid ((HO.out.alloc _).wr hw2 (fun a ha => by have := (HO.out.lt (n := k) a.block (by rw [slice_own, ha]; rfl)).2; omega))
           have hb2 := Lib.hid (hw2.trans_below (HBR.out.alloc hwr _) hwr)))
      obtain ⟨q, hq⟩ : ∃ q, wr.heap.size = q := ⟨_, rfl⟩
      rw [hq] at hN ⊢
      have hqw : w1.heap.size ≤ q := by omega
      have hqs : q < w2.heap.size := hN.lt
      have HLT : Hid (∀ a, D = some a → a.block < q) := Lib.hid fun a ha => by have := (HO.out.lt (n := k) a.block (by rw [slice_own, ha]; rfl)).2; omega
      have HR := Lib.hid hok.r
      clear hw2 hq HC HO HBR hwr
      go_wp2_with (refine wpList_loadR rfl 43 (.tmp 13) rfl q 5 rfl x.cs _ Tryz.underlying43 rfl (by rw [x.sz]; kernel_rfl) hN.ntcs ?_)
      refine (HR.out.fresh _).mono ?_
      rintro e w3 ⟨cs, rfl, hcs, hb3⟩
      have hN3 := hN.carry hb3
      have hO3 := Lib.hid (hO2.out.carry hb3)
      have hB3 := Lib.hid (hb2.out.trans (hb3.mono hb2.out.size))
      have h23 := hb3.size
      clear hb3 hN hO2 hb2
      go_upto_region 6 with (refine wpList_storeP rfl 43 (.tmp 16) (.tmp 15) rfl q 5 rfl cs rfl 53 _ hN3 (by rw [hcs.size]; kernel_rfl) (by rw [nta_size, hcs.size]; decide) hcs.one _ (nta_put x cs hcs.size hcs.one) ?_
                             intro w4 hN4 hw4
                             have hO4 := Lib.hid (hO3.out.wr hw4 (fun a ha => by have := HLT.out a ha; omega))
                             have hb4 := Lib.hid (hw4.trans_below hB3.out hqw)
                             have hs4 := hw4.size)
      have HP : Hid ((x.put cs hcs.size hcs.one).pl = x.pl) := rfl
      have HRC : Hid (BgR (x.put cs hcs.size hcs.one).cs (x.put cs hcs.size hcs.one).last) := hcs
      generalize x.put cs hcs.size hcs.one = y at *
      clear hN3 hO3 hB3 hw4
      have HNY := Lib.hid hN4
      clear hN4
      have hw14 := hb4.out.size
      go_wp2_with (first
        | refine wpList_loadR rfl 53 (.tmp 5) rfl q 0 rfl (nta y) _ Tryz.underlying53 rfl (by rw [nta_size]; kernel_rfl) HNY.out.whole ?_
        | refine wpList_buildOne rfl 24 53 (.tmp 18) rfl (nta y) rfl Tryz.underlying24 _ 29 312 ntInfo (nta_size _) (nta_size _) (by decide) (by decide) ?_
        | (at_builtin
           refine wpList_appL ntc 29 ntc_one _ rfl (.tmp 17) (.tmp 19) _ rfl (w.heap.size + 2) 53 _ 312 Tryz.underlying24 ntInfo (nta_size _) (by decide) (by decide) D k cd ys rfl HYL.out (hO4.out.alloc _) _ 1 1 [y] rfl rfl (RdX.oneN _ _ _) (ys ++ [y]) rfl (k + 1) rfl (by omega) (by simp; omega) ?_
           intro A7 c7 w7 hO7 hc7 hm7 hb7 hg7 ha7))
      go_roundw
      case rel => exact ⟨k + 1, A7, c7, ys ++ [y], by omega, by go_num, rfl, by rw [List.length_append, HYL.out]; rfl, hO7, by rw [List.map_append, HPL.out, HTK.out, ← HP.out]; rfl, (fun v hv => by
        rcases List.mem_append.1 hv with h1 | h1
        · exact HYR.out v h1
        · rw [List.mem_singleton.1 h1]; exact HRC.out), by rw [hsz]; exact ((hsz ▸ hb4.out).alloc (by omega) _).trans hb7⟩
      case measure => simp [intOf]; omega
      -- ]]round1
    -- [[fin
    · obtain rfl : k = n := by omega
      rw [List.take_of_length_le (by rw [HV.out.hn]; exact Nat.le_refl _)] at HPL
      have hS2 := hS.carry hbr
      have hZ2 := hZ.carry hbr
      have f3 := hS2.zs 3
      have f30 : wr.cell? ⟨w.heap.size, 3, none⟩ = some (.slice A k c) := by rw [hS2.cell]; rfl
      have hb2 := hb.trans (hbr.mono hb.size)
      go_upto_region 9 with (fail)
      refine wp_world (fun w' => Blk w' w.heap.size 29 (gcs g D k cd) ∧ Blk w' (w.heap.size + 1) 29 z ∧ OwnX ntc 29 w' (w.heap.size + 2) 53 D cd ys ∧ Below w.heap.size w w') ⟨(hS2.set_ 3 _).as (by rfl), hZ2.far (by simp) _, HO.out.set_below (by show w.heap.size < w.heap.size + 2; omega) _, by (repeat (first | with_reducible exact hb2 | with_reducible refine Below.drew ?_ | (with_reducible refine Below.set4 ?_ ?side _ _ _ _; case side => (first | omega | (simp; omega) | (simp; done))) | (with_reducible refine Below.setCell ?_ ?side _; case side => (first | omega | (simp; omega) | (simp; done))) | (with_reducible refine Below.alloc ?_ ?side _; case side => (first | omega | (simp; omega) | (simp; done)))))⟩ ?_
      clear hS2 hZ2 HO hb2 f3 f30 hbr HBR hS hZ hb
      rintro w2 ⟨hS, hZ, hO, hb⟩
      have HO := Lib.hid hO
      clear hO
      go_wp2_with (first
        | refine wpList_loadR rfl 29 (.tmp 1) rfl w.heap.size 0 rfl (gcs g D k cd) _ Tryz.underlying29 rfl (by kernel_rfl) hS.whole ?_
        | (refine wpList_storeP rfl 29 (.tmp 2) (.tmp 24) rfl (w.heap.size + 1) 0 rfl (gcs g D k cd) rfl 29 _ hZ (by kernel_rfl) (by simp [gcs, hz]) (gcs_one _ _ _ _) _ (splice_all _ _ (by simp [gcs, hz])) ?_
           intro w6 hB6 hw6))
      have hO6 := HO.out.wr hw6 (fun a ha => by have := (HO.out.lt (n := k) a.block (by rw [slice_own, ha]; rfl)).1; omega)
      exact bodyPost_ret (results_c1 _ _ (w.heap.size + 1) _ (gcs g D k cd) _ Tryz.results58 rfl hB6 Tryz.underlying29 rfl (by kernel_rfl)) rfl
        ⟨D, cd, ys, rfl, hO6, ⟨HYL.out, by have := hO6.cap; rw [HYL.out] at this; exact this.1, hO6.cap.2, HV.out.ok.as HPL.out HYR.out, hO6.rd⟩, HPL.out, hw6.trans_below hb (by omega)⟩
    -- ]]fin
end Go.Proofs.YtbcagdjfegobnaaGreat
/- Gates: which note it is: the contracts of desk.note and of what it asks. -/
namespace Go.Proofs.YtbcagdjfegobnaaGreat
open Go.ChangeShapes Go.WideShapes Go.ChangeAt Go.RowKit
set_option linter.unusedVariables false

/-- Where the first note lies of which it is so. -/
def noteAt (A : Option Addr) (xs : List NtB) (ask : NtB → Bool) : Value :=
  match xs.findIdx? ask with
  | none => .pointer none
  | some k => .pointer (A.map fun a => ⟨a.block, a.off + k * 29, none⟩)
theorem noteAt_none {A : Option Addr} {xs : List NtB} {ask : NtB → Bool} (h : xs.any ask = false) : noteAt A xs ask = .pointer none := by
  have : xs.findIdx? ask = none := by simpa [List.findIdx?_eq_none_iff] using h
  simp [noteAt, this]
theorem noteAt_some {b off : Nat} {xs : List NtB} {ask : NtB → Bool} {k : Nat} (hk : k < xs.length) (h0 : (xs.take k).any ask = false) (h1 : ask (xs.getD k ntn) = true) : noteAt (some ⟨b, off, none⟩) xs ask = .pointer (some ⟨b, off + k * 29, none⟩) := by
  have : xs.findIdx? ask = some k := by
    rw [List.findIdx?_eq_some_iff_getElem]
    refine ⟨hk, by simpa [List.getD, hk] using h1, fun j hj => ?_⟩
    have := List.any_eq_false.1 h0 (xs[j]'(by omega)) (by
      rw [List.mem_take_iff_getElem]
      exact ⟨j, by omega, rfl⟩)
    simpa using this
  simp [noteAt, this]
theorem any_take {xs : List NtB} {ask : NtB → Bool} {k : Nat} (hk : k < xs.length) : (xs.take (k + 1)).any ask = ((xs.take k).any ask || ask (xs.getD k ntn)) := by
  rw [takeD xs k ntn hk, List.any_append]; simp

set_option maxRecDepth 100000 in
set_option maxHeartbeats 4000000 in
theorem note_first (c1 c2 : Value) (gd : Nat) (A : Option Addr) (n c : Nat) (xs : List NtB) (hn : xs.length = n) (hnc : n ≤ c) (hcm : c ≤ 9223372036854775807) (hn3 : n ≤ 100) (ask : NtB → Bool) (w : World)
    (hA : RdX ntc 29 w A xs) (hd : w.cell? ⟨gd, 3, none⟩ = some (.slice A n c)) (hl : gd < w.heap.size)
    (hask : ∀ W, Below w.heap.size w W → ∀ x ∈ xs, Calls Tryz.prog 96 #[.agg (nta x), c1, c2] W fun e w' => e = .returned (.bool (ask x)) ∧ Below W.heap.size W w') :
    Calls Tryz.prog 95 #[.pointer (some ⟨gd, 0, none⟩), .func (.func 96) #[] #[c1, c2]] w fun e w' => e = .returned (noteAt A xs ask) ∧ Below w.heap.size w w' := by
  have HN := Lib.hid hn
  have HA := Lib.hid hA
  have HASK := Lib.hid hask
  have HD : Hid (∀ W, Below w.heap.size w W → W.cell? ⟨gd, 3, none⟩ = some (.slice A n c)) := Lib.hid fun W hW => by rw [hW.cell (p := ⟨gd, 3, none⟩) hl]; exact hd
  clear hn hA hask
  go_enter Tryz.func95, Tryz.ntmps95
  go_wp2_with fail
  go_loopw [12] (fun s12 wr => ∃ k : Nat, k ≤ n ∧ s12 = .int .i64 k ∧ Hid ((xs.take k).any ask = false) ∧ Below w.heap.size w wr) (fun s12 _ => n - (intOf s12).toNat)
  case atStart => exact ⟨0, Nat.zero_le _, rfl, by show _ = _; simp, Below.refl _ _⟩
  case round =>
    obtain ⟨k, hk, rfl, hno, hb⟩ := hrel
    have hd := HD.out _ hb
    by_cases hlt : k < n
    -- [[round1
    · have hkx : k < xs.length := by rw [HN.out]; exact hlt
      have hmem : xs.getD k ntn ∈ xs := by simp [List.getD, hkx]
      obtain ⟨b, off, rfl, hcell⟩ := (RdX.below HA.out hb).nt (by omega)
      have HC := Lib.hid (hcell k hkx)
      have HCA := Lib.hid (fun W hW => HASK.out W (hb.trans (Below.mono hW hb.size)) _ hmem)
      have HAT := Lib.hid (any_take (ask := ask) hkx)
      have HSO := Lib.hid (noteAt_some (b := b) (off := off) hkx hno.out (ask := ask))
      generalize xs.getD k ntn = x at *
      have hkn : (k : Int) < (n : Int) := by omega
      have hk0 : (0 : Int) ≤ (k : Int) := by omega
      have HB := Lib.hid hb
      clear hcell hkx hmem hb
      go_wp2_with (refine wpList_loadR rfl 53 (.tmp 22) rfl b (off + k * 29) rfl (nta x) _ Tryz.underlying53 rfl (by rw [nta_size]; kernel_rfl) HC.out ?_)
      refine (HCA.out _ (Below.refl _ _)).mono ?_
      rintro e w3 ⟨rfl, hb3⟩
      have hb := HB.out.trans (hb3.mono HB.out.size)
      have hd := HD.out _ hb
      cases hx : ask x with
      | true =>
        have HE := Lib.hid (HSO.out hx)
        clear hx
        go_wp2_with fail
        go_ret
        exact ⟨by rw [HE.out]; rfl, hb⟩
      | false =>
        have HE : Hid ((xs.take (k + 1)).any ask = false) := by show _ = _; rw [HAT.out, hno.out, hx]; rfl
        clear hx
        go_wp2_with fail
        go_roundw
        case rel => exact ⟨k + 1, by omega, by go_num, HE, hb⟩
        case measure => simp [intOf]; omega
      -- ]]round1
    -- [[fin
    · obtain rfl : k = n := by omega
      have HE := Lib.hid (noteAt_none (A := A) (xs := xs) (ask := ask) (by have := hno.out; rwa [List.take_of_length_le (by rw [HN.out]; exact Nat.le_refl _)] at this))
      go_wp2_with fail
      go_ret
      exact ⟨by rw [HE.out]; rfl, hb⟩
      -- ]]fin

set_option maxRecDepth 100000 in
set_option maxHeartbeats 4000000 in
theorem note_short (c1 c2 : Value) (gd : Nat) (A : Option Addr) (n c : Nat) (xs : List NtB) (hn : xs.length = n) (hnc : n ≤ c) (hcm : c ≤ 9223372036854775807) (hn3 : n ≤ 100) (ask : NtB → Bool) (w : World)
    (hA : RdX ntc 29 w A xs) (hd : w.cell? ⟨gd, 3, none⟩ = some (.slice A n c)) (hl : gd < w.heap.size)
    (hask : ∀ W, Below w.heap.size w W → ∀ x ∈ xs, Calls Tryz.prog 103 #[.agg (nta x), c1, c2] W fun e w' => e = .returned (.bool (ask x)) ∧ Below W.heap.size W w') :
    Calls Tryz.prog 95 #[.pointer (some ⟨gd, 0, none⟩), .func (.func 103) #[] #[c1, c2]] w fun e w' => e = .returned (noteAt A xs ask) ∧ Below w.heap.size w w' := by
  have HN := Lib.hid hn
  have HA := Lib.hid hA
  have HASK := Lib.hid hask
  have HD : Hid (∀ W, Below w.heap.size w W → W.cell? ⟨gd, 3, none⟩ = some (.slice A n c)) := Lib.hid fun W hW => by rw [hW.cell (p := ⟨gd, 3, none⟩) hl]; exact hd
  clear hn hA hask
  go_enter Tryz.func95, Tryz.ntmps95
  go_wp2_with fail
  go_loopw [12] (fun s12 wr => ∃ k : Nat, k ≤ n ∧ s12 = .int .i64 k ∧ Hid ((xs.take k).any ask = false) ∧ Below w.heap.size w wr) (fun s12 _ => n - (intOf s12).toNat)
  case atStart => exact ⟨0, Nat.zero_le _, rfl, by show _ = _; simp, Below.refl _ _⟩
  case round =>
    obtain ⟨k, hk, rfl, hno, hb⟩ := hrel
    have hd := HD.out _ hb
    by_cases hlt : k < n
    -- [[round1
    · have hkx : k < xs.length := by rw [HN.out]; exact hlt
      have hmem : xs.getD k ntn ∈ xs := by simp [List.getD, hkx]
      obtain ⟨b, off, rfl, hcell⟩ := (RdX.below HA.out hb).nt (by omega)
      have HC := Lib.hid (hcell k hkx)
      have HCA := Lib.hid (fun W hW => HASK.out W (hb.trans (Below.mono hW hb.size)) _ hmem)
      have HAT := Lib.hid (any_take (ask := ask) hkx)
      have HSO := Lib.hid (noteAt_some (b := b) (off := off) hkx hno.out (ask := ask))
      generalize xs.getD k ntn = x at *
      have hkn : (k : Int) < (n : Int) := by omega
      have hk0 : (0 : Int) ≤ (k : Int) := by omega
      have HB := Lib.hid hb
      clear hcell hkx hmem hb
      go_wp2_with (refine wpList_loadR rfl 53 (.tmp 22) rfl b (off + k * 29) rfl (nta x) _ Tryz.underlying53 rfl (by rw [nta_size]; kernel_rfl) HC.out ?_)
      refine (HCA.out _ (Below.refl _ _)).mono ?_
      rintro e w3 ⟨rfl, hb3⟩
      have hb := HB.out.trans (hb3.mono HB.out.size)
      have hd := HD.out _ hb
      cases hx : ask x with
      | true =>
        have HE := Lib.hid (HSO.out hx)
        clear hx
        go_wp2_with fail
        go_ret
        exact ⟨by rw [HE.out]; rfl, hb⟩
      | false =>
        have HE : Hid ((xs.take (k + 1)).any ask = false) := by show _ = _; rw [HAT.out, hno.out, hx]; rfl
        clear hx
        go_wp2_with fail
        go_roundw
        case rel => exact ⟨k + 1, by omega, by go_num, HE, hb⟩
        case measure => simp [intOf]; omega
      -- ]]round1
    -- [[fin
    · obtain rfl : k = n := by omega
      have HE := Lib.hid (noteAt_none (A := A) (xs := xs) (ask := ask) (by have := hno.out; rwa [List.take_of_length_le (by rw [HN.out]; exact Nat.le_refl _)] at this))
      go_wp2_with fail
      go_ret
      exact ⟨by rw [HE.out]; rfl, hb⟩
      -- ]]fin


theorem ask_first (x : NtB) (peer from_ : Int) (gp gh : Nat) (w : World) (hp : w.cell? ⟨gp, 0, none⟩ = some (.int .i64 peer)) (hh : w.cell? ⟨gh, 2, none⟩ = some (.int .i64 from_)) (hpl : gp < w.heap.size) (hhl : gh < w.heap.size) :
    Calls Tryz.prog 96 #[.agg (nta x), .pointer (some ⟨gp, 0, none⟩), .pointer (some ⟨gh, 0, none⟩)] w fun e w' => e = .returned (.bool (decide (x.peer = peer) && decide (x.from_ = from_))) ∧ Below w.heap.size w w' := by
  go_enter Tryz.func96, Tryz.ntmps96
  go_upto_region 1 with (fail)
  refine wp_world (fun w' => Blk w' w.heap.size 53 (nta x) ∧ w'.cell? ⟨gp, 0, none⟩ = some (.int .i64 peer) ∧ w'.cell? ⟨gh, 2, none⟩ = some (.int .i64 from_) ∧ Below w.heap.size w w') ⟨Blk.new _ _ _, by rw [World.cell?_alloc_lt w _ _ hpl]; exact hp, by rw [World.cell?_alloc_lt w _ _ hhl]; exact hh, (Below.refl _ _).alloc (Nat.le_refl _) _⟩ ?_
  rintro w1 ⟨hN, hp, hh, hb⟩
  have FN := hN.nt
  by_cases h1 : x.peer = peer
  · have h1' : (x.peer == peer) = true := by simp [h1]
    have h1d : decide (x.peer = peer) = true := by simp [h1]
    by_cases h2 : x.from_ = from_
    · have h2' : (x.from_ == from_) = true := by simp [h2]
      have HR := Lib.hid (show (decide (x.peer = peer) && decide (x.from_ = from_)) = true by simp [h1, h2])
      clear h1 h2 h1d
      go_wp2_with fail
      go_ret
      exact ⟨by rw [HR.out]; rfl, hb⟩
    · have h2' : (x.from_ == from_) = false := by simp [h2]
      have HR := Lib.hid (show (decide (x.peer = peer) && decide (x.from_ = from_)) = false by simp [h2])
      clear h1 h2 h1d
      go_wp2_with fail
      go_ret
      exact ⟨by rw [HR.out]; rfl, hb⟩
  · have h1' : (x.peer == peer) = false := by simp [h1]
    have HR := Lib.hid (show (decide (x.peer = peer) && decide (x.from_ = from_)) = false by simp [h1])
    clear h1
    go_wp2_with fail
    go_ret
    exact ⟨by rw [HR.out]; rfl, hb⟩
end Go.Proofs.YtbcagdjfegobnaaGreat
/- Gates: the desk at which mail is written; the contract of desk.send. -/
namespace Go.Proofs.YtbcagdjfegobnaaGreat
open Go.ChangeShapes Go.WideShapes Go.ChangeAt Go.RowKit
set_option linter.unusedVariables false

/-- Mail, as_v it lies in memory. -/
structure MlB where
  peer : Int
  D : Option Addr
  n : Nat
  c : Nat
  data : List UInt8
def mlc (m : MlB) : List Value := [.int .i64 m.peer, .slice m.D m.n m.c]
theorem mlc_len (m : MlB) : (mlc m).length = 2 := rfl
theorem mlc_one (ms : List MlB) : ∀ u ∈ ms.flatMap mlc, u.oneCell' = true := by
  intro u hu
  obtain ⟨x, _, hx⟩ := List.mem_flatMap.1 hu
  simp [mlc] at hx
  rcases hx with rfl | rfl <;> rfl
theorem mlInfo : (Tryz.prog.info? 75).map (fun i => (i.zero, i.size, i.bytes)) = some (some (.agg #[.int .i64 0, .slice none 0 0]), 2, 32) := by kernel_rfl
def upd (t : Nat → Tly) (p : Nat) (v : Tly) : Nat → Tly := fun i => if i = p then v else t i
def GtD.set (g : GtD) (p : Nat) (v : Tly) : GtD := { g with t := upd g.t p v }
/-- The cells of a desk. -/
def dkc (g : GtD) (A : Option Addr) (n c : Nat) (O : Option Addr) (m co : Nat) : Array Value :=
  #[.int .u64 g.secret, .int .i64 g.now, .int .i64 g.next, .slice A n c, .bool (g.t 0).1, .int .i64 (g.t 0).2.1, .int .i64 (g.t 0).2.2, .bool (g.t 1).1, .int .i64 (g.t 1).2.1, .int .i64 (g.t 1).2.2,
    .bool (g.t 2).1, .int .i64 (g.t 2).2.1, .int .i64 (g.t 2).2.2, .bool (g.t 3).1, .int .i64 (g.t 3).2.1, .int .i64 (g.t 3).2.2, .bool g.retry, .int .i64 g.shed, .slice O m co]
theorem own_ne {α : Type} {f : α → List Value} {m base : Nat} {E t : TypeId} {w : World} {A : Option Addr} {c : Nat} {xs : List α} {g : Nat} {cs : Array Value} (h : OwnX f m w base E A c xs) (hg : Blk w g t cs) (hne : E ≠ t) : ∀ a, A = some a → a.block ≠ g := by
  intro a ha e
  subst ha
  rcases h.2 with ⟨h1, _⟩ | ⟨q, cap, cur, hv, _, hh, _⟩
  · cases h1
  · injection hv with h1
    injection h1 with h1
    subst h1
    subst e
    unfold Blk at hg
    rw [hh] at hg
    injection hg with h3
    injection h3 with _ h4
    exact hne h4
theorem own_apartE {α β : Type} {f : α → List Value} {f' : β → List Value} {m m' base base' : Nat} {E E' : TypeId} {w : World} {A A' : Option Addr} {c c' : Nat} {xs : List α} {ys : List β} (h : OwnX f m w base E A c xs) (h' : OwnX f' m' w base' E' A' c' ys) (hne : E ≠ E') : A.map (·.block) = none ∨ A.map (·.block) ≠ A'.map (·.block) := by
  cases A with
  | none => exact .inl rfl
  | some a =>
    right
    intro e
    cases A' with
    | none => cases e
    | some a' =>
      have e : a.block = a'.block := Option.some.inj e
      rcases h'.2 with ⟨h1, _⟩ | ⟨q, cap, cur, hv, _, hh, _⟩
      · cases h1
      · injection hv with h1
        injection h1 with h1
        subst h1
        exact own_ne h (g := q) (t := E') (cs := cur) hh hne a rfl e
/-- A desk in memory: its notes and its mail are the call's own. -/
structure DkV (w : World) (base gd : Nat) (g : GtD) (A : Option Addr) (n c : Nat) (xs : List NtB) (O : Option Addr) (m co : Nat) (ms : List MlB) : Prop where
  hn : xs.length = n
  hm : ms.length = m
  hg : base ≤ gd
  d : Blk w gd 133 (dkc g A n c O m co)
  nt : OwnX ntc 29 w base 53 A c xs
  ml : OwnX mlc 2 w base 75 O co ms
  dat : ∀ x ∈ ms, OwnX u8c 1 w 0 5 x.D x.c x.data ∧ x.data.length = x.n
section
variable {w w' : World} {base gd : Nat} {g : GtD} {A : Option Addr} {n c : Nat} {xs : List NtB} {O : Option Addr} {m co : Nat} {ms : List MlB}
theorem DkV.carry (h : DkV w base gd g A n c xs O m co ms) (hb : Below w.heap.size w w') : DkV w' base gd g A n c xs O m co ms :=
  ⟨h.hn, h.hm, h.hg, h.d.carry hb, h.nt.carry hb, h.ml.carry hb, fun x hx => ⟨(h.dat x hx).1.carry hb, (h.dat x hx).2⟩⟩
theorem DkV.wr (h : DkV w base gd g A n c xs O m co ms) {g' : GtD} (hB : Blk w' gd 133 (dkc g' A n c O m co)) (hw : Wr gd w w') : DkV w' base gd g' A n c xs O m co ms :=
  ⟨h.hn, h.hm, h.hg, hB, h.nt.wr hw (own_ne h.nt h.d (by decide)), h.ml.wr hw (own_ne h.ml h.d (by decide)), fun x hx => ⟨(h.dat x hx).1.wr hw (own_ne (h.dat x hx).1 h.d (by decide)), (h.dat x hx).2⟩⟩
/-- .. when one mail more is written. -/
theorem DkV.mail (h : DkV w base gd g A n c xs O m co ms) {O' : Option Addr} {co' : Nat} {x : MlB} (hO : OwnX mlc 2 w' base 75 O' co' (ms ++ [x])) (hg : w.grownBy w' (O.map (·.block))) (hx : OwnX u8c 1 w 0 5 x.D x.c x.data) (hxl : x.data.length = x.n)
    {w2 : World} (hB : Blk w2 gd 133 (dkc g A n c O' (m + 1) co')) (hw : Wr gd w' w2) : DkV w2 base gd g A n c xs O' (m + 1) co' (ms ++ [x]) := by
  have hgd : some gd ≠ O.map (·.block) := fun e => by
    cases hO' : O with
    | none => rw [hO'] at e; cases e
    | some a => rw [hO'] at e; exact own_ne h.ml h.d (by decide) a hO' (Option.some.inj e).symm
  have hd : Blk w' gd 133 (dkc g A n c O m co) := h.d.grown hg hgd
  have hn := h.nt.grown hg (own_apartE h.nt h.ml (by decide))
  refine ⟨h.hn, by rw [List.length_append, h.hm]; rfl, h.hg, hB, hn.wr hw (own_ne hn hd (by decide)), hO.wr hw (own_ne hO hd (by decide)), fun y hy => ?_⟩
  have h1 : OwnX u8c 1 w 0 5 y.D y.c y.data ∧ y.data.length = y.n := by
    rcases List.mem_append.1 hy with h1 | h1
    · exact h.dat y h1
    · rw [List.mem_singleton.1 h1]; exact ⟨hx, hxl⟩
  have h2 := h1.1.grown hg (own_apartE h1.1 h.ml (by decide))
  exact ⟨h2.wr hw (own_ne h2 hd (by decide)), h1.2⟩
end

theorem tallySend_yes (t : Tly) (ok : TlyOk t) (h1 : t.2.1 ≤ 1099511627376) (h3 : t.2.2 ≤ 1099511627376) (n : Int) (n0 : 0 ≤ n) (n1 : n ≤ 400) (h5 : t.1 = true ∨ t.2.2 + n ≤ 3 * t.2.1) (w : World) :
    Calls Tryz.prog 129 #[.agg #[.bool t.1, .int .i64 t.2.1, .int .i64 t.2.2], .int .i64 n] w fun e w' => e = .returned (.tuple #[.agg #[.bool t.1, .int .i64 t.2.1, .int .i64 (t.2.2 + n)], .int .i64 0]) ∧ Below w.heap.size w w' := by
  obtain ⟨k, g, s⟩ := t
  obtain ⟨⟨h0, _⟩, ⟨h2, _⟩, h4⟩ := ok
  cases k
  · exact tallySend_f g s n h0 h1 h2 h3 (h4 rfl) n0 n1 (h5.resolve_left (by simp)) w
  · exact tallySend_t g s n h0 h1 h2 h3 n0 n1 w
theorem Blk.c19 {w : World} {g : Nat} {t : TypeId} {x0 x1 x2 x3 x4 x5 x6 x7 x8 x9 x10 x11 x12 x13 x14 x15 x16 x17 x18 : Value} (h : Blk w g t #[x0, x1, x2, x3, x4, x5, x6, x7, x8, x9, x10, x11, x12, x13, x14, x15, x16, x17, x18]) : g < w.heap.size ∧ w.cell? ⟨g, 0, none⟩ = some x0 ∧ w.cell? ⟨g, 1, none⟩ = some x1 ∧ w.cell? ⟨g, 2, none⟩ = some x2 ∧ w.cell? ⟨g, 3, none⟩ = some x3 ∧ w.cell? ⟨g, 4, none⟩ = some x4 ∧ w.cell? ⟨g, 5, none⟩ = some x5 ∧ w.cell? ⟨g, 6, none⟩ = some x6 ∧ w.cell? ⟨g, 7, none⟩ = some x7 ∧ w.cell? ⟨g, 8, none⟩ = some x8 ∧ w.cell? ⟨g, 9, none⟩ = some x9 ∧ w.cell? ⟨g, 10, none⟩ = some x10 ∧ w.cell? ⟨g, 11, none⟩ = some x11 ∧ w.cell? ⟨g, 12, none⟩ = some x12 ∧ w.cell? ⟨g, 13, none⟩ = some x13 ∧ w.cell? ⟨g, 14, none⟩ = some x14 ∧ w.cell? ⟨g, 15, none⟩ = some x15 ∧ w.cell? ⟨g, 16, none⟩ = some x16 ∧ w.cell? ⟨g, 17, none⟩ = some x17 ∧ w.cell? ⟨g, 18, none⟩ = some x18 :=
  ⟨h.lt, by rw [h.cell]; rfl, by rw [h.cell]; rfl, by rw [h.cell]; rfl, by rw [h.cell]; rfl, by rw [h.cell]; rfl, by rw [h.cell]; rfl, by rw [h.cell]; rfl, by rw [h.cell]; rfl, by rw [h.cell]; rfl, by rw [h.cell]; rfl, by rw [h.cell]; rfl, by rw [h.cell]; rfl, by rw [h.cell]; rfl, by rw [h.cell]; rfl, by rw [h.cell]; rfl, by rw [h.cell]; rfl, by rw [h.cell]; rfl, by rw [h.cell]; rfl, by rw [h.cell]; rfl⟩
theorem RdX.oneM (w : World) (E : TypeId) (x : MlB) : RdX mlc 2 (w.alloc (.cells #[.int .i64 x.peer, .slice x.D x.n x.c] E)) (some ⟨w.heap.size, 0, none⟩) [x] := by
  have hB := Blk.new w E #[.int .i64 x.peer, .slice x.D x.n x.c]
  refine ⟨by simp [mlc_len], fun _ => ⟨w.heap.size, 0, rfl, fun j u hu => ?_⟩⟩
  rw [hB.cell, Nat.zero_add]
  simpa [mlc] using hu

set_option maxRecDepth 100000 in
set_option maxHeartbeats 4000000 in
theorem send_yes (p : Nat) (hp : p < 4) (B : Option Addr) (bn bc : Nat) (bs : List UInt8) (hbn : bs.length = bn) (hb400 : bn ≤ 400) (base gd : Nat) (g : GtD) (A : Option Addr) (n c : Nat) (xs : List NtB) (O : Option Addr) (m co : Nat) (hm10 : m ≤ 100) (ms : List MlB)
    (ok : TlyOk (g.t p)) (h1 : (g.t p).2.1 ≤ 1099511627376) (h3 : (g.t p).2.2 ≤ 1099511627376) (h5 : (g.t p).1 = true ∨ (g.t p).2.2 + bn ≤ 3 * (g.t p).2.1) (w : World) (h : DkV w base gd g A n c xs O m co ms) (hB : OwnX u8c 1 w 0 5 B bc bs) (hbase : base ≤ w.heap.size) :
    Calls Tryz.prog 102 #[.pointer (some ⟨gd, 0, none⟩), .int .i64 p, .slice B bn bc] w fun e w' => e = .returned (.bool true) ∧
      (∃ O' co', DkV w' base gd (g.set p ((g.t p).1, (g.t p).2.1, (g.t p).2.2 + bn)) A n c xs O' (m + 1) co' (ms ++ [⟨p, B, bn, bc, bs⟩])) ∧ Below base w w' := by
  have HV := Lib.hid h
  have HB := Lib.hid hB
  have HBN := Lib.hid hbn
  have hgd := h.hg
  have HS := Lib.hid (fun W => tallySend_yes (g.t p) ok h1 h3 bn (by omega) (by omega) h5 W)
  have F : _ := Blk.c19 (by have := h.d; unfold dkc at this; exact this)
  clear h hB hbn ok h5
  rcases (show p = 0 ∨ p = 1 ∨ p = 2 ∨ p = 3 by omega) with rfl | rfl | rfl | rfl
  · -- [[p0
    go_enter Tryz.func102, Tryz.ntmps102
    go_wp2_with fail
    refine (HS.out _).mono ?_
    rintro e w1 ⟨rfl, hb1⟩
    have HV1 := Lib.hid (HV.out.carry hb1)
    have HB1 := Lib.hid (HB.out.carry hb1)
    have hb := hb1.mono hbase
    have hs1 := hb1.size
    clear F hb1
    go_upto_region 4 with (fail)
    obtain ⟨q, hq⟩ : ∃ q, w1.heap.size = q := ⟨_, rfl⟩
    refine wp_world (fun w' => Blk w' q 26 #[.bool (g.t 0).1, .int .i64 (g.t 0).2.1, .int .i64 ((g.t 0).2.2 + bn)] ∧ DkV w' base gd g A n c xs O m co ms ∧ OwnX u8c 1 w' 0 5 B bc bs ∧ Below base w w') ⟨Blk.newF hq, HV1.out.carry ((Below.refl _ _).alloc (Nat.le_refl _) _), HB1.out.alloc _, hb.alloc (by omega) _⟩ ?_
    try rw [hq]
    clear hq HV1 HB1 hb HV HB
    rintro w2 ⟨hT, hV, hX, hb⟩
    have FT := hT.c3
    have F : _ := Blk.c19 (by have := hV.d; unfold dkc at this; exact this)
    have z4 := hV.d.zs
    have HV := Lib.hid hV
    have HX := Lib.hid hX
    have HBL := Lib.hid hb
    clear hT hV hX hb
    go_region
    all_goals
      go_upto_region 5 with (fail)
      refine wp_world (fun w' => DkV w' base gd (g.set 0 ((g.t 0).1, (g.t 0).2.1, (g.t 0).2.2 + bn)) A n c xs O m co ms ∧ OwnX u8c 1 w' 0 5 B bc bs ∧ Below base w w') ⟨?gva, ?gvb, ?gvc⟩ ?_
      case gva => exact (HV.out.carry (Below.refl _ _).drew).wr ((((HV.out.d.drew.set_ 4 _).set_ 5 _).set_ 6 _).as (by simp [dkc, upd, GtD.set])) (((Wr.set _ gd 4 _).trans (Wr.set _ gd 5 _)).trans (Wr.set _ gd 6 _))
      case gvb => exact (HX.out.carry (Below.refl _ _).drew).wr (((Wr.set _ gd 4 _).trans (Wr.set _ gd 5 _)).trans (Wr.set _ gd 6 _)) (own_ne HX.out HV.out.d (by decide))
      case gvc => exact (((Wr.set _ gd 4 _).trans (Wr.set _ gd 5 _)).trans (Wr.set _ gd 6 _)).trans_below HBL.out.drew hgd
      clear F FT z4 HV HX HBL
      rintro w3 ⟨hV, hX, hb⟩
      have f18 : w3.cell? ⟨gd, 18, none⟩ = some (.slice O m co) := by rw [hV.d.cell]; rfl
      have HV := Lib.hid hV
      have HX := Lib.hid hX
      have HBL := Lib.hid hb
      have hbz := hV.nt
      have hb3 := hb.size
      clear hV hX hb hbz
      go_wp2_with (at_builtin
                   refine wpList_appL mlc 2 mlc_one _ rfl (.tmp 35) (.tmp 39) _ rfl base 75 _ 32 Tryz.underlying71 mlInfo rfl (by decide) (by decide) O m co ms rfl HV.out.hm (HV.out.ml.alloc _) _ 1 1 [⟨0, B, bn, bc, bs⟩] rfl rfl (RdX.oneM _ _ ⟨0, B, bn, bc, bs⟩) (ms ++ [⟨0, B, bn, bc, bs⟩]) rfl (m + 1) rfl (by omega) (by simp; omega) ?_
                   intro A7 c7 w7 hO7 hc7 hm7 hb7 hg7 ha7
                   have hD7 := (HV.out.d.alloc (.cells #[.int .i64 0, .slice B bn bc] 75)).grown hg7 (fun e => by
                     cases hO' : O with
                     | none => rw [hO'] at e; cases e
                     | some a => rw [hO'] at e; exact own_ne HV.out.ml HV.out.d (by decide) a hO' (Option.some.inj e).symm)
                   have f18 : w7.cell? ⟨gd, 18, none⟩ = some (.slice O m co) := by rw [hD7.cell]; rfl
                   have z18 := hD7.zs 18)
      refine bodyPost_ret (v := .bool true) (by simp [results, Tryz.results102, go_sem]) rfl ⟨rfl, ⟨A7, c7, ?_⟩, ?_⟩
      · exact (HV.out.carry ((Below.refl _ _).alloc (Nat.le_refl _) _)).mail (x := ⟨0, B, bn, bc, bs⟩) hO7 hg7 (HX.out.alloc _) HBN.out ((hD7.set_ 18 _).as (by rfl)) (Wr.set _ gd 18 _)
      · exact (Wr.set _ gd 18 _).trans_below ((HBL.out.alloc (by omega) _).trans hb7) hgd
    -- ]]p0
  · -- [[p1
    go_enter Tryz.func102, Tryz.ntmps102
    go_wp2_with fail
    refine (HS.out _).mono ?_
    rintro e w1 ⟨rfl, hb1⟩
    have HV1 := Lib.hid (HV.out.carry hb1)
    have HB1 := Lib.hid (HB.out.carry hb1)
    have hb := hb1.mono hbase
    have hs1 := hb1.size
    clear F hb1
    go_upto_region 4 with (fail)
    obtain ⟨q, hq⟩ : ∃ q, w1.heap.size = q := ⟨_, rfl⟩
    refine wp_world (fun w' => Blk w' q 26 #[.bool (g.t 1).1, .int .i64 (g.t 1).2.1, .int .i64 ((g.t 1).2.2 + bn)] ∧ DkV w' base gd g A n c xs O m co ms ∧ OwnX u8c 1 w' 0 5 B bc bs ∧ Below base w w') ⟨Blk.newF hq, HV1.out.carry ((Below.refl _ _).alloc (Nat.le_refl _) _), HB1.out.alloc _, hb.alloc (by omega) _⟩ ?_
    try rw [hq]
    clear hq HV1 HB1 hb HV HB
    rintro w2 ⟨hT, hV, hX, hb⟩
    have FT := hT.c3
    have F : _ := Blk.c19 (by have := hV.d; unfold dkc at this; exact this)
    have z4 := hV.d.zs
    have HV := Lib.hid hV
    have HX := Lib.hid hX
    have HBL := Lib.hid hb
    clear hT hV hX hb
    go_region
    all_goals
      go_upto_region 5 with (fail)
      refine wp_world (fun w' => DkV w' base gd (g.set 1 ((g.t 1).1, (g.t 1).2.1, (g.t 1).2.2 + bn)) A n c xs O m co ms ∧ OwnX u8c 1 w' 0 5 B bc bs ∧ Below base w w') ⟨?gva, ?gvb, ?gvc⟩ ?_
      case gva => exact (HV.out.carry (Below.refl _ _).drew).wr ((((HV.out.d.drew.set_ 7 _).set_ 8 _).set_ 9 _).as (by simp [dkc, upd, GtD.set])) (((Wr.set _ gd 7 _).trans (Wr.set _ gd 8 _)).trans (Wr.set _ gd 9 _))
      case gvb => exact (HX.out.carry (Below.refl _ _).drew).wr (((Wr.set _ gd 7 _).trans (Wr.set _ gd 8 _)).trans (Wr.set _ gd 9 _)) (own_ne HX.out HV.out.d (by decide))
      case gvc => exact (((Wr.set _ gd 7 _).trans (Wr.set _ gd 8 _)).trans (Wr.set _ gd 9 _)).trans_below HBL.out.drew hgd
      clear F FT z4 HV HX HBL
      rintro w3 ⟨hV, hX, hb⟩
      have f18 : w3.cell? ⟨gd, 18, none⟩ = some (.slice O m co) := by rw [hV.d.cell]; rfl
      have HV := Lib.hid hV
      have HX := Lib.hid hX
      have HBL := Lib.hid hb
      have hbz := hV.nt
      have hb3 := hb.size
      clear hV hX hb hbz
      go_wp2_with (at_builtin
                   refine wpList_appL mlc 2 mlc_one _ rfl (.tmp 35) (.tmp 39) _ rfl base 75 _ 32 Tryz.underlying71 mlInfo rfl (by decide) (by decide) O m co ms rfl HV.out.hm (HV.out.ml.alloc _) _ 1 1 [⟨1, B, bn, bc, bs⟩] rfl rfl (RdX.oneM _ _ ⟨1, B, bn, bc, bs⟩) (ms ++ [⟨1, B, bn, bc, bs⟩]) rfl (m + 1) rfl (by omega) (by simp; omega) ?_
                   intro A7 c7 w7 hO7 hc7 hm7 hb7 hg7 ha7
                   have hD7 := (HV.out.d.alloc (.cells #[.int .i64 1, .slice B bn bc] 75)).grown hg7 (fun e => by
                     cases hO' : O with
                     | none => rw [hO'] at e; cases e
                     | some a => rw [hO'] at e; exact own_ne HV.out.ml HV.out.d (by decide) a hO' (Option.some.inj e).symm)
                   have f18 : w7.cell? ⟨gd, 18, none⟩ = some (.slice O m co) := by rw [hD7.cell]; rfl
                   have z18 := hD7.zs 18)
      refine bodyPost_ret (v := .bool true) (by simp [results, Tryz.results102, go_sem]) rfl ⟨rfl, ⟨A7, c7, ?_⟩, ?_⟩
      · exact (HV.out.carry ((Below.refl _ _).alloc (Nat.le_refl _) _)).mail (x := ⟨1, B, bn, bc, bs⟩) hO7 hg7 (HX.out.alloc _) HBN.out ((hD7.set_ 18 _).as (by rfl)) (Wr.set _ gd 18 _)
      · exact (Wr.set _ gd 18 _).trans_below ((HBL.out.alloc (by omega) _).trans hb7) hgd
    -- ]]p1
  · -- [[p2
    go_enter Tryz.func102, Tryz.ntmps102
    go_wp2_with fail
    refine (HS.out _).mono ?_
    rintro e w1 ⟨rfl, hb1⟩
    have HV1 := Lib.hid (HV.out.carry hb1)
    have HB1 := Lib.hid (HB.out.carry hb1)
    have hb := hb1.mono hbase
    have hs1 := hb1.size
    clear F hb1
    go_upto_region 4 with (fail)
    obtain ⟨q, hq⟩ : ∃ q, w1.heap.size = q := ⟨_, rfl⟩
    refine wp_world (fun w' => Blk w' q 26 #[.bool (g.t 2).1, .int .i64 (g.t 2).2.1, .int .i64 ((g.t 2).2.2 + bn)] ∧ DkV w' base gd g A n c xs O m co ms ∧ OwnX u8c 1 w' 0 5 B bc bs ∧ Below base w w') ⟨Blk.newF hq, HV1.out.carry ((Below.refl _ _).alloc (Nat.le_refl _) _), HB1.out.alloc _, hb.alloc (by omega) _⟩ ?_
    try rw [hq]
    clear hq HV1 HB1 hb HV HB
    rintro w2 ⟨hT, hV, hX, hb⟩
    have FT := hT.c3
    have F : _ := Blk.c19 (by have := hV.d; unfold dkc at this; exact this)
    have z4 := hV.d.zs
    have HV := Lib.hid hV
    have HX := Lib.hid hX
    have HBL := Lib.hid hb
    clear hT hV hX hb
    go_region
    all_goals
      go_upto_region 5 with (fail)
      refine wp_world (fun w' => DkV w' base gd (g.set 2 ((g.t 2).1, (g.t 2).2.1, (g.t 2).2.2 + bn)) A n c xs O m co ms ∧ OwnX u8c 1 w' 0 5 B bc bs ∧ Below base w w') ⟨?gva, ?gvb, ?gvc⟩ ?_
      case gva => exact (HV.out.carry (Below.refl _ _).drew).wr ((((HV.out.d.drew.set_ 10 _).set_ 11 _).set_ 12 _).as (by simp [dkc, upd, GtD.set])) (((Wr.set _ gd 10 _).trans (Wr.set _ gd 11 _)).trans (Wr.set _ gd 12 _))
      case gvb => exact (HX.out.carry (Below.refl _ _).drew).wr (((Wr.set _ gd 10 _).trans (Wr.set _ gd 11 _)).trans (Wr.set _ gd 12 _)) (own_ne HX.out HV.out.d (by decide))
      case gvc => exact (((Wr.set _ gd 10 _).trans (Wr.set _ gd 11 _)).trans (Wr.set _ gd 12 _)).trans_below HBL.out.drew hgd
      clear F FT z4 HV HX HBL
      rintro w3 ⟨hV, hX, hb⟩
      have f18 : w3.cell? ⟨gd, 18, none⟩ = some (.slice O m co) := by rw [hV.d.cell]; rfl
      have HV := Lib.hid hV
      have HX := Lib.hid hX
      have HBL := Lib.hid hb
      have hbz := hV.nt
      have hb3 := hb.size
      clear hV hX hb hbz
      go_wp2_with (at_builtin
                   refine wpList_appL mlc 2 mlc_one _ rfl (.tmp 35) (.tmp 39) _ rfl base 75 _ 32 Tryz.underlying71 mlInfo rfl (by decide) (by decide) O m co ms rfl HV.out.hm (HV.out.ml.alloc _) _ 1 1 [⟨2, B, bn, bc, bs⟩] rfl rfl (RdX.oneM _ _ ⟨2, B, bn, bc, bs⟩) (ms ++ [⟨2, B, bn, bc, bs⟩]) rfl (m + 1) rfl (by omega) (by simp; omega) ?_
                   intro A7 c7 w7 hO7 hc7 hm7 hb7 hg7 ha7
                   have hD7 := (HV.out.d.alloc (.cells #[.int .i64 2, .slice B bn bc] 75)).grown hg7 (fun e => by
                     cases hO' : O with
                     | none => rw [hO'] at e; cases e
                     | some a => rw [hO'] at e; exact own_ne HV.out.ml HV.out.d (by decide) a hO' (Option.some.inj e).symm)
                   have f18 : w7.cell? ⟨gd, 18, none⟩ = some (.slice O m co) := by rw [hD7.cell]; rfl
                   have z18 := hD7.zs 18)
      refine bodyPost_ret (v := .bool true) (by simp [results, Tryz.results102, go_sem]) rfl ⟨rfl, ⟨A7, c7, ?_⟩, ?_⟩
      · exact (HV.out.carry ((Below.refl _ _).alloc (Nat.le_refl _) _)).mail (x := ⟨2, B, bn, bc, bs⟩) hO7 hg7 (HX.out.alloc _) HBN.out ((hD7.set_ 18 _).as (by rfl)) (Wr.set _ gd 18 _)
      · exact (Wr.set _ gd 18 _).trans_below ((HBL.out.alloc (by omega) _).trans hb7) hgd
    -- ]]p2
  · -- [[p3
    go_enter Tryz.func102, Tryz.ntmps102
    go_wp2_with fail
    refine (HS.out _).mono ?_
    rintro e w1 ⟨rfl, hb1⟩
    have HV1 := Lib.hid (HV.out.carry hb1)
    have HB1 := Lib.hid (HB.out.carry hb1)
    have hb := hb1.mono hbase
    have hs1 := hb1.size
    clear F hb1
    go_upto_region 4 with (fail)
    obtain ⟨q, hq⟩ : ∃ q, w1.heap.size = q := ⟨_, rfl⟩
    refine wp_world (fun w' => Blk w' q 26 #[.bool (g.t 3).1, .int .i64 (g.t 3).2.1, .int .i64 ((g.t 3).2.2 + bn)] ∧ DkV w' base gd g A n c xs O m co ms ∧ OwnX u8c 1 w' 0 5 B bc bs ∧ Below base w w') ⟨Blk.newF hq, HV1.out.carry ((Below.refl _ _).alloc (Nat.le_refl _) _), HB1.out.alloc _, hb.alloc (by omega) _⟩ ?_
    try rw [hq]
    clear hq HV1 HB1 hb HV HB
    rintro w2 ⟨hT, hV, hX, hb⟩
    have FT := hT.c3
    have F : _ := Blk.c19 (by have := hV.d; unfold dkc at this; exact this)
    have z4 := hV.d.zs
    have HV := Lib.hid hV
    have HX := Lib.hid hX
    have HBL := Lib.hid hb
    clear hT hV hX hb
    go_region
    all_goals
      go_upto_region 5 with (fail)
      refine wp_world (fun w' => DkV w' base gd (g.set 3 ((g.t 3).1, (g.t 3).2.1, (g.t 3).2.2 + bn)) A n c xs O m co ms ∧ OwnX u8c 1 w' 0 5 B bc bs ∧ Below base w w') ⟨?gva, ?gvb, ?gvc⟩ ?_
      case gva => exact (HV.out.carry (Below.refl _ _).drew).wr ((((HV.out.d.drew.set_ 13 _).set_ 14 _).set_ 15 _).as (by simp [dkc, upd, GtD.set])) (((Wr.set _ gd 13 _).trans (Wr.set _ gd 14 _)).trans (Wr.set _ gd 15 _))
      case gvb => exact (HX.out.carry (Below.refl _ _).drew).wr (((Wr.set _ gd 13 _).trans (Wr.set _ gd 14 _)).trans (Wr.set _ gd 15 _)) (own_ne HX.out HV.out.d (by decide))
      case gvc => exact (((Wr.set _ gd 13 _).trans (Wr.set _ gd 14 _)).trans (Wr.set _ gd 15 _)).trans_below HBL.out.drew hgd
      clear F FT z4 HV HX HBL
      rintro w3 ⟨hV, hX, hb⟩
      have f18 : w3.cell? ⟨gd, 18, none⟩ = some (.slice O m co) := by rw [hV.d.cell]; rfl
      have HV := Lib.hid hV
      have HX := Lib.hid hX
      have HBL := Lib.hid hb
      have hbz := hV.nt
      have hb3 := hb.size
      clear hV hX hb hbz
      go_wp2_with (at_builtin
                   refine wpList_appL mlc 2 mlc_one _ rfl (.tmp 35) (.tmp 39) _ rfl base 75 _ 32 Tryz.underlying71 mlInfo rfl (by decide) (by decide) O m co ms rfl HV.out.hm (HV.out.ml.alloc _) _ 1 1 [⟨3, B, bn, bc, bs⟩] rfl rfl (RdX.oneM _ _ ⟨3, B, bn, bc, bs⟩) (ms ++ [⟨3, B, bn, bc, bs⟩]) rfl (m + 1) rfl (by omega) (by simp; omega) ?_
                   intro A7 c7 w7 hO7 hc7 hm7 hb7 hg7 ha7
                   have hD7 := (HV.out.d.alloc (.cells #[.int .i64 3, .slice B bn bc] 75)).grown hg7 (fun e => by
                     cases hO' : O with
                     | none => rw [hO'] at e; cases e
                     | some a => rw [hO'] at e; exact own_ne HV.out.ml HV.out.d (by decide) a hO' (Option.some.inj e).symm)
                   have f18 : w7.cell? ⟨gd, 18, none⟩ = some (.slice O m co) := by rw [hD7.cell]; rfl
                   have z18 := hD7.zs 18)
      refine bodyPost_ret (v := .bool true) (by simp [results, Tryz.results102, go_sem]) rfl ⟨rfl, ⟨A7, c7, ?_⟩, ?_⟩
      · exact (HV.out.carry ((Below.refl _ _).alloc (Nat.le_refl _) _)).mail (x := ⟨3, B, bn, bc, bs⟩) hO7 hg7 (HX.out.alloc _) HBN.out ((hD7.set_ 18 _).as (by rfl)) (Wr.set _ gd 18 _)
      · exact (Wr.set _ gd 18 _).trans_below ((HBL.out.alloc (by omega) _).trans hb7) hgd
    -- ]]p3

end Go.Proofs.YtbcagdjfegobnaaGreat
/- A region that draws its order, by a condition that every step keeps. -/
namespace Go.Proofs.YtbcagdjfegobnaaGreat
open Go.RowKit
set_option linter.unusedVariables false

section
variable {P : Program} {ops : Array Oper} {Q : Exit → Act → World → Prop} {md : Region.Mode}
/-- An operation, as_v it stands in the region. -/
theorem wpOp_if {i : Nat} {o : Oper} {K : Act → World → Prop} {a : Act} {w : World} (ho : ops[i]? = some o) (h : if Region.wanted o (yielded ops a.tmps) = true then Oper.wp P o a w K Q else K (a.put o.dst undef) w) : wpOp P ops Q i K a w := by
  unfold wpOp
  rw [ho]
  dsimp only
  split
  · rename_i hw; rw [if_pos hw] at h; exact .inl h
  · rename_i hw; rw [if_neg hw] at h; exact h
/-- Where none may come up, all have come up. -/
def backEdges (ops : Array Oper) : Bool := (List.range ops.size).all fun i => ((ops[i]?).map fun o => o.after.toList.all fun e => e.on < i).getD true
end

/-- A chain 'append([]T{}, x...)' of a region: what has come up of it. A: where its row lies. -/
structure Chn {α : Type} (f : α → List Value) (m : Nat) (E : TypeId) (M : Nat) (w : World) (pt src : Value) (n : Nat) (xs : List α) (b0 b1 b2 b3 : Bool) (x0 x1 x2 x3 : Value) (A : Option Addr) : Prop where
  n0 : b0 = false → A = none
  e0 : b0 = true → b3 = false → x0 = .slice A 0 0 ∧ OwnX f m w M E A 0 []
  e1 : b1 = true → x1 = pt
  e2 : b2 = true → x2 = src
  e3 : b3 = true → ∃ c, x3 = .slice A n c ∧ n ≤ c ∧ c ≤ 9223372036854775807 ∧ OwnX f m w M E A c xs
  d3 : b3 = true → b0 = true
section
variable {α : Type} {f : α → List Value} {m : Nat} {E : TypeId} {M : Nat} {w w' : World} {pt src : Value} {n : Nat} {xs : List α} {b0 b1 b2 b3 : Bool} {x0 x1 x2 x3 : Value} {A : Option Addr}
theorem Chn.keep (h : Chn f m E M w pt src n xs b0 b1 b2 b3 x0 x1 x2 x3 A) (hk : ∀ c (ys : List α), OwnX f m w M E A c ys → OwnX f m w' M E A c ys) : Chn f m E M w' pt src n xs b0 b1 b2 b3 x0 x1 x2 x3 A where
  n0 := h.n0
  e0 := fun a b => ⟨(h.e0 a b).1, hk _ _ (h.e0 a b).2⟩
  e1 := h.e1
  e2 := h.e2
  e3 := fun a => by obtain ⟨c, h1, h2, h3, h4⟩ := h.e3 a; exact ⟨c, h1, h2, h3, hk _ _ h4⟩
  d3 := h.d3
theorem Chn.lt (h : Chn f m E M w pt src n xs b0 b1 b2 b3 x0 x1 x2 x3 A) : ∀ q, A.map (fun y : Addr => y.block) = some q → M ≤ q ∧ q < w.heap.size := fun q hq => by
  cases hb : b0 with
  | false => rw [h.n0 hb] at hq; cases hq
  | true =>
    cases hb3 : b3 with
    | false => exact (h.e0 hb hb3).2.lt (n := 0) q (by rw [slice_own]; exact hq)
    | true => obtain ⟨c, _, _, _, h4⟩ := h.e3 hb3; exact h4.lt (n := 0) q (by rw [slice_own]; exact hq)
theorem Chn.alloc (h : Chn f m E M w pt src n xs b0 b1 b2 b3 x0 x1 x2 x3 A) (o : Obj) : Chn f m E M (w.alloc o) pt src n xs b0 b1 b2 b3 x0 x1 x2 x3 A := h.keep fun _ _ ho => ho.alloc o
theorem Chn.set (h : Chn f m E M w pt src n xs b0 b1 b2 b3 x0 x1 x2 x3 A) {p : Addr} (hp : p.block < M) (u : Value) : Chn f m E M (w.setCell p u) pt src n xs b0 b1 b2 b3 x0 x1 x2 x3 A := h.keep fun _ _ ho => ho.set_below hp u
theorem Chn.grown (h : Chn f m E M w pt src n xs b0 b1 b2 b3 x0 x1 x2 x3 A) {row : Option Nat} (hg : w.grownBy w' row) (hne : ∀ q, A.map (fun y : Addr => y.block) = some q → row ≠ some q) : Chn f m E M w' pt src n xs b0 b1 b2 b3 x0 x1 x2 x3 A :=
  h.keep fun _ _ ho => ho.grown hg (by
    cases hA : A.map (fun y : Addr => y.block) with
    | none => exact .inl rfl
    | some q => exact .inr fun e => hne q hA e.symm)
theorem Chn.load (h : Chn f m E M w pt src n xs b0 b1 b2 b3 x0 x1 x2 x3 A) : Chn f m E M w pt src n xs b0 b1 true b3 x0 x1 src x3 A := ⟨h.n0, h.e0, h.e1, fun _ => rfl, h.e3, h.d3⟩
theorem Chn.app (h : Chn f m E M w pt src n xs true b1 b2 false x0 x1 x2 x3 A) {A' : Option Addr} {c : Nat} (ho : OwnX f m w' M E A' c xs) (h1 : n ≤ c) (h2 : c ≤ 9223372036854775807) : Chn f m E M w' pt src n xs true b1 b2 true x0 x1 x2 (.slice A' n c) A' :=
  ⟨fun a => Bool.noConfusion a, fun _ a => Bool.noConfusion a, h.e1, h.e2, fun _ => ⟨c, rfl, h1, h2, ho⟩, fun _ => rfl⟩
theorem Chn.zero (hA : A = none) : Chn f m E M w pt src n xs false false false false x0 x1 x2 x3 A :=
  ⟨fun _ => hA, fun a => Bool.noConfusion a, fun a => Bool.noConfusion a, fun a => Bool.noConfusion a, fun a => Bool.noConfusion a, fun a => Bool.noConfusion a⟩
end
end Go.Proofs.YtbcagdjfegobnaaGreat
/- A region that draws its order, walked once in the order of the text: operations that yield one value in every world of a class, and events (calls, new blocks) of which a condition is told that stays. -/
namespace Go.Proofs.YtbcagdjfegobnaaGreat
open Go.RowKit
set_option linter.unusedVariables false

/-- An operation leaves the world alone and yields v. -/
def stillR (w : World) (v : Value) : Result Next → Prop
  | .ok (.value u) w' => w' = w ∧ u = v
  | .ok .skip w' => w' = w ∧ v = undef
  | _ => False
/-- An operation yields a value and a world of which R holds. -/
def doesR (P : Program) (R : Value → World → Prop) : Result Next → Prop
  | .ok (.value u) w' => R u w'
  | .ok .skip w' => R undef w'
  | .ok (.enter f args) w' => Calls P f args w' (fun e w'' => ∃ v, e = .returned v ∧ R v w'')
  | _ => False
theorem stillR.one {w : World} {v u : Value} {r : Result Next} (h : stillR w v r) (k : stillR w u r) : v = u := by
  cases r with
  | ok n w' => cases n <;> simp only [stillR] at h k <;> first | exact h.2.symm.trans k.2 | exact h.2.trans k.2.symm
  | halt x w' => exact h.elim
theorem doesR.mono {P : Program} {R R' : Value → World → Prop} {r : Result Next} (h : doesR P R r) (hr : ∀ v w, R v w → R' v w) : doesR P R' r := by
  cases r with
  | ok n w' => cases n <;> simp only [doesR] at h ⊢ <;> first | exact hr _ _ h | exact h.mono fun e w'' ⟨v, he, hv⟩ => ⟨v, he, hr _ _ hv⟩ | exact h
  | halt x w' => exact h
theorem doesR.some {P : Program} {R : Value → World → Prop} {r : Result Next} (h : doesR P R r) : ∃ v w, R v w := by
  cases r with
  | ok n w' =>
    cases n <;> simp only [doesR] at h
    case value u => exact ⟨_, _, h⟩
    case skip => exact ⟨_, _, h⟩
    case enter f args => obtain ⟨e, w'', _, ⟨v, _, hv⟩, _⟩ := h []; exact ⟨_, _, hv⟩
  | halt x w' => exact h.elim
theorem wp_of_still {P : Program} {o : Oper} {a : Act} {w : World} {K : Act → World → Prop} {Q : Exit → Act → World → Prop} {v : Value} (h : stillR w v ((execOp a.eval o).run P w)) (hk : K (a.put o.dst v) w) : o.wp P a w K Q := by
  unfold Oper.wp
  generalize (execOp a.eval o).run P w = r at *
  cases r with
  | ok n w' =>
    cases n <;> simp only [stillR] at h <;> simp only [Oper.upon]
    case value u => obtain ⟨rfl, rfl⟩ := h; exact hk
    case skip => obtain ⟨rfl, rfl⟩ := h; exact hk
  | halt x w' => exact h.elim
theorem wp_of_does {P : Program} {o : Oper} {a : Act} {w : World} {K : Act → World → Prop} {Q : Exit → Act → World → Prop} {R : Value → World → Prop} (h : doesR P R ((execOp a.eval o).run P w)) (hk : ∀ v w', R v w' → K (a.put o.dst v) w') : o.wp P a w K Q := by
  unfold Oper.wp
  generalize (execOp a.eval o).run P w = r at *
  cases r with
  | ok n w' =>
    cases n <;> simp only [doesR] at h <;> simp only [Oper.upon]
    case value u => exact hk _ _ h
    case skip => exact hk _ _ h
    case enter f args => exact h.mono fun e w'' ⟨v, he, hv⟩ => by subst he; exact hk _ _ hv
  | halt x w' => exact h.elim

section
variable (ops : Array Oper)
/-- What an operation waits for, at once. -/
def waits (k : Nat) : List Nat := match ops[k]? with
  | some o => (o.after.toList.filter (Region.binds .any)).map (·.on)
  | none => []
/-- .. and at length. -/
def waitsAll : Nat → Nat → List Nat
  | 0, _ => []
  | f + 1, k => waits ops k ++ (waits ops k).flatMap (waitsAll f)
def depB (k i : Nat) : Bool := (waitsAll ops ops.size k).contains i
def dstOf (k : Nat) : Option Tmp := (ops[k]?).bind (·.dst)
def looks (k : Nat) : List Tmp := match ops[k]? with
  | some o => o.looksAt ops
  | none => []
/-- Operations that yield the same in whatever world: they may be taken ahead of all. -/
def pureOp (o : Oper) : Bool := match o.op with
  | .extract _ _ => true
  | .move _ => true
  | .nilCheck _ => true
  | .fieldAddr _ _ _ => true
  | _ => false
def pu (j : Nat) : Bool := match ops[j]? with
  | some o => pureOp o
  | none => false
def pureB (core ev : Nat → Bool) : Bool := Region.noSelect ops &&
  (List.range ops.size).all fun j => !(core j && pu ops j) || (!ev j && (List.range ops.size).all fun i => i == j || ((waits ops i).contains j || (depB ops j i || (match ops[i]?, ops[j]? with | some oi, some oj => oj.apart ops oi | _, _ => true))))
/-- The order of the text serves: each operation of the core waits for operations of the core ahead of it alone; a slot is written once, and read by those alone that wait for its writer; the others wait for the whole core. -/
def flowB (core : Nat → Bool) (sz : Nat) : Bool :=
  (List.range ops.size).all fun k =>
    (waits ops k).all (fun e => e < k) &&
    (if core k then
      (waits ops k).all core &&
      (List.range ops.size).all (fun j => !core j || ((match dstOf ops j with
        | some d => d < sz && (!(looks ops k).contains d || depB ops k j) && (j == k || dstOf ops k != some d)
        | none => true))) &&
      (match ops[k]? with | some o => (match o.op with | Op.select _ _ => false | _ => true) | none => true)
    else (List.range ops.size).all (fun j => !core j || (depB ops k j || pu ops j)))
end

section
variable {ops : Array Oper}
theorem looks_of {k : Nat} {o : Oper} (ho : ops[k]? = some o) : looks ops k = o.looksAt ops := by simp [looks, ho]
theorem agree_exec {k : Nat} {o : Oper} (ho : ops[k]? = some o) (hs : ∀ cs b, o.op ≠ .select cs b) {a b : Act} (h : ∀ t ∈ looks ops k, a.tmps[t]? = b.tmps[t]?) : execOp a.eval o = execOp b.eval o :=
  execOp_congr o hs fun x hx => by
    cases x with
    | tmp t =>
      have ht : t ∈ looks ops k := by
        rw [looks_of ho]
        exact List.mem_append_left _ (List.mem_filterMap.2 ⟨.tmp t, by simpa using hx, rfl⟩)
      simp only [Act.eval, Array.getD_eq_getD_getElem?, h t ht]
    | _ => rfl
theorem agree_wanted {k : Nat} {o : Oper} (ho : ops[k]? = some o) {a b : Act} (h : ∀ t ∈ looks ops k, a.tmps[t]? = b.tmps[t]?) : Region.wanted o (yielded ops a.tmps) = Region.wanted o (yielded ops b.tmps) := by
  unfold Region.wanted
  cases hg : o.guard with
  | none => rfl
  | some p =>
    obtain ⟨j, want⟩ := p
    have e : yielded ops a.tmps j = yielded ops b.tmps j := by
      unfold yielded
      cases hd : (ops[j]?).bind (·.dst) with
      | none => simp
      | some d =>
        have ht : d ∈ looks ops k := by
          rw [looks_of ho]
          exact List.mem_append_right _ (by simp [hg, hd])
        simp [h d ht]
    simp [e]
end
end Go.Proofs.YtbcagdjfegobnaaGreat
/- A region that draws its order, walked once in the order of the text: the theorem. -/
namespace Go.Proofs.YtbcagdjfegobnaaGreat
open Go.RowKit
set_option linter.unusedVariables false

section
variable (ops : Array Oper) (core : Nat → Bool)
/-- Who writes a slot. -/
def writer (t : Tmp) : Option Nat := (List.range ops.size).find? fun j => core j && dstOf ops j == some t
def lookV (a0 : Act) (vals : Nat → Value) (t : Tmp) : Value := match writer ops core t with
  | some j => vals j
  | none => a0.tmps.getD t undef
/-- The frame when all of the core have yielded these values. -/
def AV (a0 : Act) (vals : Nat → Value) : Act := { a0 with tmps := Array.ofFn fun t : Fin a0.tmps.size => lookV ops core a0 vals t }
end
section
variable {ops : Array Oper} {core : Nat → Bool}
theorem AV_get (a0 : Act) (vals : Nat → Value) (t : Nat) : (AV ops core a0 vals).tmps[t]? = if t < a0.tmps.size then some (lookV ops core a0 vals t) else none := by
  simp [AV, Array.getElem?_ofFn]
theorem writer_spec {t : Tmp} {j : Nat} (h : writer ops core t = some j) : j < ops.size ∧ core j = true ∧ dstOf ops j = some t := by
  have h1 := List.mem_of_find?_eq_some h
  have h2 := List.find?_some h
  simp at h1 h2
  exact ⟨h1, h2.1, h2.2⟩
theorem writer_none {t : Tmp} (h : writer ops core t = none) (j : Nat) (hj : j < ops.size) (hc : core j = true) : dstOf ops j ≠ some t := by
  have := List.find?_eq_none.1 h j (by simpa using hj)
  simpa [hc] using this
/-- What flowB says. -/
structure FlowOk (ops : Array Oper) (core : Nat → Bool) (sz : Nat) : Prop where
  back : ∀ k, k < ops.size → ∀ e ∈ waits ops k, e < k
  cl : ∀ k, k < ops.size → core k = true → ∀ e ∈ waits ops k, core e = true
  ssa : ∀ k j d, k < ops.size → core k = true → j < ops.size → core j = true → dstOf ops j = some d → d < sz ∧ (d ∈ looks ops k → depB ops k j = true) ∧ (j ≠ k → dstOf ops k ≠ some d)
  sel : ∀ k o cs b, ops[k]? = some o → core k = true → o.op ≠ .select cs b
  last : ∀ k j, k < ops.size → core k = false → j < ops.size → core j = true → depB ops k j = true ∨ pu ops j = true
theorem flow_ok {sz : Nat} (h : flowB ops core sz = true) : FlowOk ops core sz := by
  unfold flowB at h
  have h := fun k (hk : k < ops.size) => List.all_eq_true.1 h k (List.mem_range.2 hk)
  refine ⟨fun k hk e he => ?_, fun k hk hc e he => ?_, fun k j d hk hc hj hcj hd => ?_, fun k o cs b ho hc e => ?_, fun k j hk hc hj hcj => ?_⟩
  · have := h k hk
    rw [Bool.and_eq_true] at this
    simpa using List.all_eq_true.1 this.1 e he
  · have := h k hk
    rw [Bool.and_eq_true, if_pos hc, Bool.and_eq_true, Bool.and_eq_true] at this
    exact List.all_eq_true.1 this.2.1.1 e he
  · have := h k hk
    rw [Bool.and_eq_true, if_pos hc, Bool.and_eq_true, Bool.and_eq_true] at this
    have := List.all_eq_true.1 this.2.1.2 j (List.mem_range.2 hj)
    simp only [hcj, hd, Bool.not_true, Bool.false_or, Bool.and_eq_true, decide_eq_true_eq] at this
    obtain ⟨⟨h1, h2⟩, h3⟩ := this
    refine ⟨h1, fun hl => ?_, fun hne => ?_⟩
    · simpa [hl] using h2
    · simpa [hne] using h3
  · have hk : k < ops.size := (Array.getElem?_eq_some_iff.1 ho).1
    have := h k hk
    rw [Bool.and_eq_true, if_pos hc, Bool.and_eq_true, Bool.and_eq_true] at this
    have := this.2.2
    simp [ho, e] at this
  · have := h k hk
    rw [Bool.and_eq_true, if_neg (by simp [hc])] at this
    have := List.all_eq_true.1 this.2 j (List.mem_range.2 hj)
    simpa [hcj] using this
theorem writer_of {sz : Nat} (hok : FlowOk ops core sz) {t : Tmp} {j : Nat} (hj : j < ops.size) (hc : core j = true) (hd : dstOf ops j = some t) : writer ops core t = some j := by
  cases hw : writer ops core t with
  | none => exact absurd hd (writer_none hw j hj hc)
  | some i =>
    obtain ⟨h1, h2, h3⟩ := writer_spec hw
    by_cases e : i = j
    · rw [e]
    · exact absurd hd ((hok.ssa j i t hj hc h1 h2 h3).2.2 e)
theorem waitsAll_in {l : Nat → Prop} (hcl : ∀ k, l k → ∀ e ∈ waits ops k, l e) : ∀ (f k : Nat), (∀ e ∈ waits ops k, l e) → ∀ i ∈ waitsAll ops f k, l i
  | 0, k, hk, i, hi => by cases hi
  | f + 1, k, hk, i, hi => by
    rcases List.mem_append.1 hi with h | h
    · exact hk i h
    · obtain ⟨e, he, hi⟩ := List.mem_flatMap.1 h
      exact waitsAll_in hcl f e (hcl e (hk e he)) i hi
theorem waitsAll_lt {sz : Nat} (hok : FlowOk ops core sz) : ∀ (f k : Nat), k < ops.size → ∀ i ∈ waitsAll ops f k, i < k
  | 0, k, hk, i, hi => by cases hi
  | f + 1, k, hk, i, hi => by
    rcases List.mem_append.1 hi with h | h
    · exact hok.back k hk i h
    · obtain ⟨e, he, hi⟩ := List.mem_flatMap.1 h
      have h1 := hok.back k hk e he
      have h2 := waitsAll_lt hok f e (by omega) i hi
      omega
theorem dep_lt {sz : Nat} (hok : FlowOk ops core sz) {k i : Nat} (hk : k < ops.size) (h : depB ops k i = true) : i < k := waitsAll_lt hok _ k hk i (by simpa [depB] using h)
/-- A value that an operation k yields, which those do not see that do not wait for it. -/
theorem AV_upd {sz : Nat} (hok : FlowOk ops core sz) (a0 : Act) (vals vals' : Nat → Value) (e : Nat) (he : e < ops.size) (hce : core e = true) (hv : ∀ j, j < ops.size → core j = true → depB ops e j = true → vals' j = vals j) : ∀ t ∈ looks ops e, (AV ops core a0 vals').tmps[t]? = (AV ops core a0 vals).tmps[t]? := by
  intro t ht
  rw [AV_get, AV_get]
  congr 1
  unfold lookV
  cases hw : writer ops core t with
  | none => rfl
  | some j =>
    obtain ⟨h1, h2, h3⟩ := writer_spec hw
    simp only
    rw [hv j h1 h2 ((hok.ssa e j t he hce h1 h2 h3).2.1 ht)]
end
end Go.Proofs.YtbcagdjfegobnaaGreat
/- A region that draws its order, walked once in the order of the text: the walk and its soundness. -/
namespace Go.Proofs.YtbcagdjfegobnaaGreat
open Go.RowKit
set_option linter.unusedVariables false

section
variable (P : Program) (ops : Array Oper) (core ev : Nat → Bool) (C : World → Prop) (W : Nat → Act → Value → World → Prop) (R : World → World → Prop)
abbrev Fact := Nat × (World → Prop)
/-- The worlds in which operation k may come up: of the class, and all that it waits for has been told. -/
def cls (F : List Fact) (k : Nat) (w : World) : Prop := C w ∧ ∀ p ∈ F, depB ops k p.1 = true → p.2 w
/-- THE WALK in the order of the text. -/
def flowL (Fin : List Fact → Act → Prop) : List Nat → List Fact → Act → Prop
  | [], F, a => Fin F a
  | k :: ks, F, a => ∀ o, ops[k]? = some o →
    if Region.wanted o (yielded ops a.tmps) = true then
      (if ev k = true then (∀ w, cls ops C F k w → doesR P (fun v w' => W k a v w' ∧ C w' ∧ R w w') ((execOp a.eval o).run P w)) ∧ ∀ v, (∃ w, C w ∧ W k a v w) → flowL Fin ks ((k, W k a v) :: F) (a.put o.dst v)
       else ∃ v, (∀ w, cls ops C F k w → stillR w v ((execOp a.eval o).run P w)) ∧ (pu ops k = true → ∀ w, (execOp a.eval o).run P w = .ok (.value v) w) ∧ flowL Fin ks F (a.put o.dst v))
    else flowL Fin ks F (a.put o.dst undef)
/-- What is known in the midst of the region. -/
structure FInv (a0 : Act) (l : Array Bool) (vals : Nat → Value) (a : Act) (w : World) : Prop where
  hsz : l.size = ops.size
  sz : a.tmps.size = a0.tmps.size
  df : a.defers = a0.defers
  slot : ∀ t, (∀ j, j < ops.size → core j = true → l.getD j true = false → dstOf ops j ≠ some t) → a.tmps[t]? = (AV ops core a0 vals).tmps[t]?
  c : C w
  fact : ∀ k o, core k = true → l.getD k true = true → ops[k]? = some o → Region.wanted o (yielded ops (AV ops core a0 vals).tmps) = true → ev k = true → W k (AV ops core a0 vals) (vals k) w
  still : ∀ k o, core k = true → l.getD k true = true → ops[k]? = some o → Region.wanted o (yielded ops (AV ops core a0 vals).tmps) = true → ev k = false →
    ∃ wk, C wk ∧ (∀ e oe, core e = true → ops[e]? = some oe → Region.wanted oe (yielded ops (AV ops core a0 vals).tmps) = true → ev e = true → depB ops k e = true → W e (AV ops core a0 vals) (vals e) wk) ∧ stillR wk (vals k) ((execOp (AV ops core a0 vals).eval o).run P wk)
  skip : ∀ k o, core k = true → l.getD k true = true → ops[k]? = some o → Region.wanted o (yielded ops (AV ops core a0 vals).tmps) = false → vals k = undef
  closed : ∀ k, k < ops.size → l.getD k true = true → ∀ e ∈ waits ops k, l.getD e true = true
  tail : ∀ k, k < ops.size → core k = false → l.getD k true = false
/-- The walk has come to the operations suf. -/
structure FAt (a0 : Act) (l : Array Bool) (vals : Nat → Value) (w : World) (suf : List Nat) (vals' : Nat → Value) (w' : World) (F : List Fact) (A : Act) : Prop where
  same : ∀ k, core k = true → k < ops.size → l.getD k true = true → vals' k = vals k
  c : C w'
  sz : A.tmps.size = a0.tmps.size
  df : A.defers = a0.defers
  slot : ∀ t, (∀ j ∈ suf, dstOf ops j ≠ some t) → A.tmps[t]? = (AV ops core a0 vals').tmps[t]?
  now : ∀ p ∈ F, p.2 w'
  form : ∀ p ∈ F, ∃ o Ae, p.1 < ops.size ∧ core p.1 = true ∧ p.1 ∉ suf ∧ ops[p.1]? = some o ∧ ev p.1 = true ∧ Region.wanted o (yielded ops (AV ops core a0 vals').tmps) = true ∧ (∀ t ∈ looks ops p.1, Ae.tmps[t]? = (AV ops core a0 vals').tmps[t]?) ∧ p.2 = W p.1 Ae (vals' p.1)
end
section
variable {P : Program} {ops : Array Oper} {core ev : Nat → Bool} {C : World → Prop} {W : Nat → Act → Value → World → Prop}
theorem listed_cl {l : Array Bool} (hcl : ∀ k, k < ops.size → l.getD k true = true → ∀ e ∈ waits ops k, l.getD e true = true) {sz : Nat} (hok : FlowOk ops core sz) {k i : Nat} (hk : k < ops.size) (hw : ∀ e ∈ waits ops k, l.getD e true = true) (h : depB ops k i = true) : l.getD i true = true := by
  have h1 := waitsAll_in (ops := ops) (l := fun k => k < ops.size ∧ l.getD k true = true) (fun k hk e he => ⟨by have := hok.back k hk.1 e he; omega, hcl k hk.1 hk.2 e he⟩) ops.size k (fun e he => ⟨by have := hok.back k hk e he; omega, hw e he⟩) i (by simpa [depB] using h)
  exact h1.2
/-- The slots that an operation looks at, behind the walk's beginning up to it. -/
theorem at_looks {a0 A : Act} {vals' : Nat → Value} {sz : Nat} (hok : FlowOk ops core sz) {k : Nat} {ks : List Nat} (hk : k < ops.size) (hc : core k = true) (hsuf : ∀ j ∈ k :: ks, k ≤ j ∧ j < ops.size ∧ core j = true)
    (hslot : ∀ t, (∀ j ∈ k :: ks, dstOf ops j ≠ some t) → A.tmps[t]? = (AV ops core a0 vals').tmps[t]?) : ∀ t ∈ looks ops k, A.tmps[t]? = (AV ops core a0 vals').tmps[t]? := fun t ht => hslot t fun j hj e => by
  obtain ⟨h1, h2, h3⟩ := hsuf j hj
  have := dep_lt hok hk ((hok.ssa k j t hk hc h2 h3 e).2.1 ht)
  omega
/-- One value more. -/
def updV (vals : Nat → Value) (k : Nat) (v : Value) : Nat → Value := fun i => if i = k then v else vals i
theorem updV_self (vals : Nat → Value) (k : Nat) (v : Value) : updV vals k v k = v := by simp [updV]
theorem updV_ne (vals : Nat → Value) {k i : Nat} (v : Value) (h : i ≠ k) : updV vals k v i = vals i := by simp [updV, h]
theorem put_slot {a0 A : Act} {vals' : Nat → Value} {sz : Nat} (hok : FlowOk ops core sz) (hsz : sz = a0.tmps.size) (hA : A.tmps.size = a0.tmps.size) {k : Nat} {ks : List Nat} {o : Oper} (ho : ops[k]? = some o) (hc : core k = true) (hks : ∀ j ∈ ks, j ≠ k) (v : Value)
    (hslot : ∀ t, (∀ j ∈ k :: ks, dstOf ops j ≠ some t) → A.tmps[t]? = (AV ops core a0 vals').tmps[t]?) : ∀ t, (∀ j ∈ ks, dstOf ops j ≠ some t) → (A.put o.dst v).tmps[t]? = (AV ops core a0 (updV vals' k v)).tmps[t]? := by
  intro t ht
  have hk : k < ops.size := (Array.getElem?_eq_some_iff.1 ho).1
  have hdst : dstOf ops k = o.dst := by simp [dstOf, ho]
  by_cases hd : o.dst = some t
  · have h1 := hok.ssa k k t hk hc hk hc (hdst.trans hd)
    rw [AV_get, if_pos (by rw [← hsz]; exact h1.1), hd]
    have hw := writer_of hok hk hc (hdst.trans hd)
    simp [Act.put, lookV, hw, updV, hA, ← hsz, h1.1]
  · have e : (A.put o.dst v).tmps[t]? = A.tmps[t]? := by
      cases hx : o.dst with
      | none => rfl
      | some d =>
        have hne : d ≠ t := fun e => hd (by rw [hx, e])
        simp [Act.put, Array.getElem?_setIfInBounds_ne hne]
    rw [e, hslot t (fun j hj => by
      rcases List.mem_cons.1 hj with rfl | hj
      · rw [hdst]; exact hd
      · exact ht j hj), AV_get, AV_get]
    congr 1
    unfold lookV
    cases hw : writer ops core t with
    | none => rfl
    | some j =>
      have hjk : j ≠ k := fun e => by
        have := (writer_spec hw).2.2
        rw [e, hdst] at this
        exact hd this
      simp [updV, hjk]
end
end Go.Proofs.YtbcagdjfegobnaaGreat
/- A region that draws its order, walked once: from what is known in its midst the walk comes to every operation. -/
namespace Go.Proofs.YtbcagdjfegobnaaGreat
open Go.RowKit
set_option linter.unusedVariables false

section
variable {P : Program} {ops : Array Oper} {core ev : Nat → Bool} {C : World → Prop} {W : Nat → Act → Value → World → Prop} {R : World → World → Prop}
/-- What the class and what is told are asked. -/
structure FStay (ops : Array Oper) (C : World → Prop) (W : Nat → Act → Value → World → Prop) (R : World → World → Prop) : Prop where
  r0 : ∀ w, R w w
  r2 : ∀ a b c, R a b → R b c → R a c
  c : ∀ w w', C w → R w w' → C w'
  w : ∀ k a v w w', W k a v w → R w w' → W k a v w'
  a : ∀ k a b v w, (∀ t ∈ looks ops k, a.tmps[t]? = b.tmps[t]?) → W k a v w → W k b v w
theorem core_sorted {pre suf : List Nat} {k : Nat} (h : (List.range ops.size).filter core = pre ++ k :: suf) : k < ops.size ∧ core k = true ∧ (∀ j ∈ pre, j < k ∧ j < ops.size ∧ core j = true) ∧ (∀ j ∈ suf, k < j ∧ j < ops.size ∧ core j = true) := by
  have hm : ∀ j, j ∈ pre ++ k :: suf → j < ops.size ∧ core j = true := fun j hj => by
    rw [← h] at hj; simpa using hj
  have hp : (pre ++ k :: suf).Pairwise (· < ·) := by
    rw [← h]; exact List.Pairwise.filter _ List.pairwise_lt_range
  rw [List.pairwise_append] at hp
  obtain ⟨h1, h2, h3⟩ := hp
  refine ⟨(hm k (by simp)).1, (hm k (by simp)).2, fun j hj => ⟨h3 j hj k (by simp), (hm j (by simp [hj])).1, (hm j (by simp [hj])).2⟩, fun j hj => ⟨(List.pairwise_cons.1 h2).1 j hj, (hm j (by simp [hj])).1, (hm j (by simp [hj])).2⟩⟩

theorem flow_next {sz : Nat} (hok : FlowOk ops core sz) (hst : FStay ops C W R) {a0 : Act} (hsz : sz = a0.tmps.size) {l : Array Bool} {vals : Nat → Value} {w : World} {pre suf : List Nat} {k : Nat} {o : Oper} (hl : (List.range ops.size).filter core = pre ++ k :: suf) (ho : ops[k]? = some o)
    {vals' : Nat → Value} {w' w'' : World} {F F' : List Fact} {A : Act} (h : FAt ops core ev C W a0 l vals w (k :: suf) vals' w' F A) (v : Value) (hv : l.getD k true = true → v = vals k) (hb : R w' w'') (hc : C w'')
    (hF : F' = F ∨ F' = (k, W k A v) :: F ∧ ev k = true ∧ Region.wanted o (yielded ops A.tmps) = true ∧ W k A v w'') : FAt ops core ev C W a0 l vals w suf (updV vals' k v) w'' F' (A.put o.dst v) := by
  obtain ⟨hk, hck, hpre, hsuf⟩ := core_sorted hl
  have hlk := at_looks hok hk hck (fun j hj => by
    rcases List.mem_cons.1 hj with rfl | hj
    · exact ⟨Nat.le_refl _, hk, hck⟩
    · exact ⟨Nat.le_of_lt (hsuf j hj).1, (hsuf j hj).2⟩) h.slot
  have hup : ∀ e, e < ops.size → core e = true → e ≤ k → ∀ t ∈ looks ops e, (AV ops core a0 (updV vals' k v)).tmps[t]? = (AV ops core a0 vals').tmps[t]? := fun e he hce hek => AV_upd hok a0 vals' _ e he hce fun j hj hcj hd => updV_ne _ _ (by have := dep_lt hok he hd; omega)
  have hold : ∀ p ∈ F, ∃ o Ae, p.1 < ops.size ∧ core p.1 = true ∧ p.1 ∉ suf ∧ ops[p.1]? = some o ∧ ev p.1 = true ∧ Region.wanted o (yielded ops (AV ops core a0 (updV vals' k v)).tmps) = true ∧ (∀ t ∈ looks ops p.1, Ae.tmps[t]? = (AV ops core a0 (updV vals' k v)).tmps[t]?) ∧ p.2 = W p.1 Ae (updV vals' k v p.1) := fun p hp => by
    obtain ⟨o', Ae, h1, h2, h3, h4, h5, h6, h7, h8⟩ := h.form p hp
    have hin : p.1 ∈ pre ++ k :: suf := by rw [← hl]; simp [h1, h2]
    have hpk : p.1 < k := by
      rcases List.mem_append.1 hin with hin | hin
      · exact (hpre _ hin).1
      · exact absurd hin h3
    have hu := hup p.1 h1 h2 (Nat.le_of_lt hpk)
    refine ⟨o', Ae, h1, h2, fun hm => h3 (by simp [hm]), h4, h5, ?_, fun t ht => (h7 t ht).trans (hu t ht).symm, by rw [updV_ne _ _ (by omega)]; exact h8⟩
    rw [agree_wanted h4 hu]; exact h6
  refine ⟨fun i hci hi hli => ?_, hc, ?_, ?_, put_slot hok hsz h.sz ho hck (fun j hj => by have := (hsuf j hj).1; omega) v h.slot, ?_, ?_⟩
  · by_cases e : i = k
    · subst e; rw [updV_self]; exact hv hli
    · rw [updV_ne _ _ e]; exact h.same i hci hi hli
  · cases hd : o.dst with
    | none => exact h.sz
    | some d => simp [Act.put, h.sz]
  · cases hd : o.dst with
    | none => exact h.df
    | some d => simp [Act.put, h.df]
  · intro p hp
    have hn : ∀ p ∈ F, p.2 w'' := fun p hp => by
      obtain ⟨o', Ae, _, _, _, _, _, _, _, h8⟩ := h.form p hp
      have := h.now p hp
      rw [h8] at this ⊢
      exact hst.w _ _ _ _ _ this hb
    rcases hF with rfl | ⟨rfl, _, _, h4⟩
    · exact hn p hp
    · rcases List.mem_cons.1 hp with rfl | hp
      · exact h4
      · exact hn p hp
  · intro p hp
    rcases hF with rfl | ⟨rfl, h2, h3, h4⟩
    · exact hold p hp
    · rcases List.mem_cons.1 hp with rfl | hp
      · refine ⟨o, A, hk, hck, fun hm => absurd (hsuf k hm).1 (Nat.lt_irrefl _), ho, h2, ?_, fun t ht => (hlk t ht).trans (hup k hk hck (Nat.le_refl _) t ht).symm, by rw [updV_self]⟩
        rw [← agree_wanted ho (fun t ht => (hlk t ht).trans (hup k hk hck (Nat.le_refl _) t ht).symm)]; exact h3
      · exact hold p hp
end
end Go.Proofs.YtbcagdjfegobnaaGreat
/- A region that draws its order, walked once in the order of the text: the theorem. -/
namespace Go.Proofs.YtbcagdjfegobnaaGreat
open Go.RowKit
set_option linter.unusedVariables false

section
variable {P : Program} {ops : Array Oper} {core ev : Nat → Bool} {C : World → Prop} {W : Nat → Act → Value → World → Prop} {R : World → World → Prop}
/-- The walk comes to every operation, whatever has come up already. -/
theorem flow_walk {sz : Nat} (hok : FlowOk ops core sz) (hst : FStay ops C W R) {a0 : Act} (hsz : sz = a0.tmps.size) {l : Array Bool} {vals : Nat → Value} {a : Act} {w : World} (hI : FInv P ops core ev C W a0 l vals a w) {Fin : List Fact → Act → Prop}
    (hfl : flowL P ops ev C W R Fin ((List.range ops.size).filter core) [] a0) : ∀ (m : Nat) (pre suf : List Nat), pre.length = m → (List.range ops.size).filter core = pre ++ suf → ∃ vals' w' F A, FAt ops core ev C W a0 l vals w suf vals' w' F A ∧ flowL P ops ev C W R Fin suf F A ∧ R w w'
  | 0, pre, suf, hm, hl => by
    obtain rfl := List.eq_nil_of_length_eq_zero hm
    rw [List.nil_append] at hl
    refine ⟨vals, w, [], a0, ⟨fun _ _ _ _ => rfl, hI.c, rfl, rfl, fun t ht => ?_, fun p hp => (by cases hp), fun p hp => (by cases hp)⟩, by rw [← hl]; exact hfl, hst.r0 _⟩
    rw [AV_get]
    have hw : writer ops core t = none := by
      cases hw : writer ops core t with
      | none => rfl
      | some j =>
        obtain ⟨h1, h2, h3⟩ := writer_spec hw
        exact absurd h3 (ht j (by rw [← hl]; simp [h1, h2]))
    by_cases h : t < a0.tmps.size
    · rw [if_pos h]; simp [lookV, hw, h]
    · rw [if_neg h]; exact Array.getElem?_eq_none (Nat.le_of_not_lt h)
  | m + 1, pre, suf, hm, hl => by
    obtain ⟨p, k, rfl⟩ : ∃ p k, pre = p ++ [k] := ⟨pre.dropLast, pre.getLast (by intro e; rw [e] at hm; cases hm), (List.dropLast_concat_getLast _).symm⟩
    have hl' : (List.range ops.size).filter core = p ++ k :: suf := by rw [hl]; simp
    obtain ⟨vals', w', F, A, hat, hf, hb⟩ := flow_walk hok hst hsz hI hfl m p (k :: suf) (by simpa using hm) hl'
    obtain ⟨hk, hck, hpre, hsuf⟩ := core_sorted hl'
    obtain ⟨o, ho⟩ : ∃ o, ops[k]? = some o := ⟨ops[k], by simp [hk]⟩
    have hf := hf o ho
    have hlk := at_looks hok hk hck (fun j hj => by
      rcases List.mem_cons.1 hj with rfl | hj
      · exact ⟨Nat.le_refl _, hk, hck⟩
      · exact ⟨Nat.le_of_lt (hsuf j hj).1, (hsuf j hj).2⟩) hat.slot
    -- what the values at hand and those in the midst have in common
    have hsm : ∀ e, e < ops.size → core e = true → l.getD e true = true → ∀ t ∈ looks ops e, (AV ops core a0 vals').tmps[t]? = (AV ops core a0 vals).tmps[t]? := fun e he hce hle => AV_upd hok a0 vals vals' e he hce fun j hj hcj hd => hat.same j hcj hj (listed_cl hI.closed hok he (hI.closed e he hle) hd)
    by_cases hw : Region.wanted o (yielded ops A.tmps) = true
    · rw [if_pos hw] at hf
      by_cases he : ev k = true
      · rw [if_pos he] at hf
        obtain ⟨h1, h2⟩ := hf
        by_cases hlk2 : l.getD k true = true
        · have hAk : ∀ t ∈ looks ops k, A.tmps[t]? = (AV ops core a0 vals).tmps[t]? := fun t ht => (hlk t ht).trans (hsm k hk hck hlk2 t ht)
          have hwk : W k A (vals k) w' := hst.w _ _ _ _ _ (hst.a k _ _ _ _ (fun t ht => (hAk t ht).symm) (hI.fact k o hck hlk2 ho (by rw [← agree_wanted ho hAk]; exact hw) he)) hb
          exact ⟨_, w', _, _, flow_next hok hst hsz hl' ho hat (vals k) (fun _ => rfl) (hst.r0 _) hat.c (.inr ⟨rfl, he, hw, hwk⟩), h2 _ ⟨w', hat.c, hwk⟩, hb⟩
        · obtain ⟨v, w2, h3, h4, h5⟩ := (h1 w' ⟨hat.c, fun p hp _ => hat.now p hp⟩).some
          exact ⟨_, w2, _, _, flow_next hok hst hsz hl' ho hat v (fun h => absurd h hlk2) h5 h4 (.inr ⟨rfl, he, hw, h3⟩), h2 _ ⟨w2, h4, h3⟩, hst.r2 _ _ _ hb h5⟩
      · rw [if_neg he] at hf
        obtain ⟨v, h1, _, h2⟩ := hf
        refine ⟨_, w', F, _, flow_next hok hst hsz hl' ho hat v (fun hlk2 => ?_) (hst.r0 _) hat.c (.inl rfl), h2, hb⟩
        have hAk : ∀ t ∈ looks ops k, A.tmps[t]? = (AV ops core a0 vals).tmps[t]? := fun t ht => (hlk t ht).trans (hsm k hk hck hlk2 t ht)
        obtain ⟨wk, hc, hfk, hs⟩ := hI.still k o hck hlk2 ho (by rw [← agree_wanted ho hAk]; exact hw) (by simpa using he)
        have h3 := h1 wk ⟨hc, fun q hq hd => by
          obtain ⟨o', Ae, g1, g2, g3, g4, g5, g6, g7, g8⟩ := hat.form q hq
          have hlq := listed_cl hI.closed hok hk (hI.closed k hk hlk2) hd
          have hAq := hsm q.1 g1 g2 hlq
          rw [g8, hat.same q.1 g2 g1 hlq]
          exact hst.a _ _ _ _ _ (fun t ht => ((g7 t ht).trans (hAq t ht)).symm) (hfk q.1 o' g2 g4 (by rw [← agree_wanted g4 hAq]; exact g6) g5 hd)⟩
        rw [agree_exec ho (fun cs b => hok.sel k o cs b ho hck) hAk] at h3
        exact h3.one hs
    · rw [if_neg hw] at hf
      refine ⟨_, w', F, _, flow_next hok hst hsz hl' ho hat undef (fun hlk2 => ?_) (hst.r0 _) hat.c (.inl rfl), hf, hb⟩
      have hAk : ∀ t ∈ looks ops k, A.tmps[t]? = (AV ops core a0 vals).tmps[t]? := fun t ht => (hlk t ht).trans (hsm k hk hck hlk2 t ht)
      exact (hI.skip k o hck hlk2 ho (by rw [← agree_wanted ho hAk]; simpa using hw)).symm
end
end Go.Proofs.YtbcagdjfegobnaaGreat
/- A region that draws its order, walked once in the order of the text: one operation more; the theorem. -/
namespace Go.Proofs.YtbcagdjfegobnaaGreat
open Go.RowKit
set_option linter.unusedVariables false

section
variable {P : Program} {ops : Array Oper} {core ev : Nat → Bool} {C : World → Prop} {W : Nat → Act → Value → World → Prop} {R : World → World → Prop}
theorem getD_set_self {l : Array Bool} {i n : Nat} (hi : i < n) (hl : l.size = n) : (l.setIfInBounds i true).getD i true = true := by
  simp [hl, hi]
theorem getD_set_other {l : Array Bool} {i k : Nat} (h : k ≠ i) : (l.setIfInBounds i true).getD k true = l.getD k true := by
  simp [Array.getElem?_setIfInBounds_ne (Ne.symm h)]
theorem flow_step {sz : Nat} (hok : FlowOk ops core sz) (hst : FStay ops C W R) {a0 : Act} (hsz : sz = a0.tmps.size) {l : Array Bool} {vals : Nat → Value} {a : Act} {w w' : World} (hI : FInv P ops core ev C W a0 l vals a w) {i : Nat} {o : Oper} (ho : ops[i]? = some o) (hci : core i = true) (hun : l.getD i true = false)
    (hdep : ∀ e ∈ waits ops i, l.getD e true = true) (v : Value) (hb : R w w') (hc : C w')
    (hev : Region.wanted o (yielded ops (AV ops core a0 vals).tmps) = true → ev i = true → W i (AV ops core a0 vals) v w')
    (hsv : Region.wanted o (yielded ops (AV ops core a0 vals).tmps) = true → ev i = false → stillR w v ((execOp (AV ops core a0 vals).eval o).run P w))
    (hnw : Region.wanted o (yielded ops (AV ops core a0 vals).tmps) = false → v = undef) : FInv P ops core ev C W a0 (l.setIfInBounds i true) (updV vals i v) (a.put o.dst v) w' := by
  have hi : i < ops.size := (Array.getElem?_eq_some_iff.1 ho).1
  have hdst : dstOf ops i = o.dst := by simp [dstOf, ho]
  have hdl : ∀ j, depB ops i j = true → l.getD j true = true := fun j hj => listed_cl hI.closed hok hi hdep hj
  -- those that are listed, and i itself, see no difference
  have hup : ∀ e, e < ops.size → core e = true → (l.getD e true = true ∨ e = i) → ∀ t ∈ looks ops e, (AV ops core a0 (updV vals i v)).tmps[t]? = (AV ops core a0 vals).tmps[t]? := fun e he hce hle => AV_upd hok a0 vals _ e he hce fun j hj hcj hd => updV_ne _ _ fun hji => by
    subst hji
    have : l.getD j true = true := by
      rcases hle with h | rfl
      · exact listed_cl hI.closed hok he (hI.closed e he h) hd
      · exact hdl _ hd
    rw [hun] at this; cases this
  have hcase : ∀ k, (l.setIfInBounds i true).getD k true = true → k = i ∨ l.getD k true = true := fun k hk => by
    by_cases e : k = i
    · exact .inl e
    · rw [getD_set_other e] at hk; exact .inr hk
  have hne : ∀ k, l.getD k true = true → k ≠ i := fun k hk e => by rw [e, hun] at hk; cases hk
  have hsize : ∀ {k o'}, ops[k]? = some o' → k < ops.size := fun h => (Array.getElem?_eq_some_iff.1 h).1
  refine ⟨by simp [hI.hsz], ?_, ?_, ?_, hc, ?_, ?_, ?_, ?_, ?_⟩
  · cases hd : o.dst with
    | none => exact hI.sz
    | some d => simp [Act.put, hI.sz]
  · cases hd : o.dst with
    | none => exact hI.df
    | some d => simp [Act.put, hI.df]
  · intro t ht
    by_cases hd : o.dst = some t
    · have h1 := hok.ssa i i t hi hci hi hci (hdst.trans hd)
      rw [AV_get, if_pos (by rw [← hsz]; exact h1.1), hd]
      have hw := writer_of hok hi hci (hdst.trans hd)
      simp [Act.put, lookV, hw, updV, hI.sz, ← hsz, h1.1]
    · have e : (a.put o.dst v).tmps[t]? = a.tmps[t]? := by
        cases hx : o.dst with
        | none => rfl
        | some d =>
          have hne : d ≠ t := fun e => hd (by rw [hx, e])
          simp [Act.put, Array.getElem?_setIfInBounds_ne hne]
      rw [e, hI.slot t (fun j hj hcj hlj => by
        by_cases e : j = i
        · rw [e, hdst]; exact hd
        · exact ht j hj hcj (by rw [getD_set_other e]; exact hlj)), AV_get, AV_get]
      congr 1
      unfold lookV
      cases hw : writer ops core t with
      | none => rfl
      | some j =>
        have hjk : j ≠ i := fun e => by
          have := (writer_spec hw).2.2
          rw [e, hdst] at this
          exact hd this
        simp [updV, hjk]
  · intro k o' hck hlk ho' hw he
    rcases hcase k hlk with rfl | hlk
    · obtain rfl : o = o' := Option.some.inj (ho.symm.trans ho')
      have hu := hup k hi hci (.inr rfl)
      rw [updV_self]
      exact hst.a k _ _ _ _ (fun t ht => (hu t ht).symm) (hev (by rw [← agree_wanted ho hu]; exact hw) he)
    · have hu := hup k (hsize ho') hck (.inl hlk)
      rw [updV_ne _ _ (hne k hlk)]
      exact hst.a k _ _ _ _ (fun t ht => (hu t ht).symm) (hst.w _ _ _ _ _ (hI.fact k o' hck hlk ho' (by rw [← agree_wanted ho' hu]; exact hw) he) hb)
  · intro k o' hck hlk ho' hw he
    have hfe : ∀ e, e < ops.size → core e = true → l.getD e true = true → ∀ wk, W e (AV ops core a0 vals) (vals e) wk → W e (AV ops core a0 (updV vals i v)) (updV vals i v e) wk := fun e hes hce hle wk h => by
      rw [updV_ne _ _ (hne e hle)]
      exact hst.a e _ _ _ _ (fun t ht => (hup e hes hce (.inl hle) t ht).symm) h
    rcases hcase k hlk with rfl | hlk
    · obtain rfl : o = o' := Option.some.inj (ho.symm.trans ho')
      have hu := hup k hi hci (.inr rfl)
      refine ⟨w, hI.c, fun e oe hce hoe hwe hee hd => ?_, ?_⟩
      · have hle := hdl e hd
        have hue := hup e (hsize hoe) hce (.inl hle)
        exact hfe e (hsize hoe) hce hle w (hI.fact e oe hce hle hoe (by rw [← agree_wanted hoe hue]; exact hwe) hee)
      · rw [updV_self, agree_exec ho (fun cs b => hok.sel k o cs b ho hci) hu]
        exact hsv (by rw [← agree_wanted ho hu]; exact hw) he
    · have hks := hsize ho'
      have hu := hup k hks hck (.inl hlk)
      obtain ⟨wk, h1, h2, h3⟩ := hI.still k o' hck hlk ho' (by rw [← agree_wanted ho' hu]; exact hw) he
      refine ⟨wk, h1, fun e oe hce hoe hwe hee hd => ?_, ?_⟩
      · have hle := listed_cl hI.closed hok hks (hI.closed k hks hlk) hd
        have hue := hup e (hsize hoe) hce (.inl hle)
        exact hfe e (hsize hoe) hce hle wk (h2 e oe hce hoe (by rw [← agree_wanted hoe hue]; exact hwe) hee hd)
      · rw [updV_ne _ _ (hne k hlk), agree_exec ho' (fun cs b => hok.sel k o' cs b ho' hck) hu]
        exact h3
  · intro k o' hck hlk ho' hw
    rcases hcase k hlk with rfl | hlk
    · obtain rfl : o = o' := Option.some.inj (ho.symm.trans ho')
      rw [updV_self]
      exact hnw (by rw [← agree_wanted ho (hup k hi hci (.inr rfl))]; exact hw)
    · rw [updV_ne _ _ (hne k hlk)]
      exact hI.skip k o' hck hlk ho' (by rw [← agree_wanted ho' (hup k (hsize ho') hck (.inl hlk))]; exact hw)
  · intro k hk hlk e he
    have h1 : l.getD e true = true := by
      rcases hcase k hlk with rfl | hlk
      · exact hdep e he
      · exact hI.closed k hk hlk e he
    rw [getD_set_other (hne e h1)]; exact h1
  · intro k hk hck
    have hki : k ≠ i := fun e => by rw [e, hci] at hck; cases hck
    rw [getD_set_other hki]; exact hI.tail k hk hck
end
end Go.Proofs.YtbcagdjfegobnaaGreat
/- A region that draws its order, walked once in the order of the text: whatever order is drawn. -/
namespace Go.Proofs.YtbcagdjfegobnaaGreat
open Go.RowKit
set_option linter.unusedVariables false

section
variable {P : Program} {ops : Array Oper} {core ev : Nat → Bool} {C : World → Prop} {W : Nat → Act → Value → World → Prop} {R : World → World → Prop} {Q : Exit → Act → World → Prop}
def coreL (ops : Array Oper) (core : Nat → Bool) : List Nat := (List.range ops.size).filter core
/-- What stands behind the core. -/
def flowFin (P : Program) (ops : Array Oper) (core : Nat → Bool) (C : World → Prop) (Q : Exit → Act → World → Prop) (F : List Fact) (a : Act) : Prop :=
  ∀ w, C w → (∀ p ∈ F, p.2 w) → wpAny P .any ops Q (ops.size - (coreL ops core).length) ((List.range ops.size).map core).toArray a w
/-- How many of the core have not come up. -/
def left_ (ops : Array Oper) (core : Nat → Bool) (l : Array Bool) : Nat := ((coreL ops core).filter fun k => !l.getD k true).length
theorem left_zero {l : Array Bool} (h : left_ ops core l = 0) : ∀ k, k < ops.size → core k = true → l.getD k true = true := fun k hk hc => by
  unfold left_ at h
  have h1 := List.eq_nil_of_length_eq_zero h
  rw [List.filter_eq_nil_iff] at h1
  have := h1 k (by simp [coreL, hk, hc])
  simpa using this
theorem nodup_coreL : (coreL ops core).Nodup := List.Pairwise.filter _ List.nodup_range
theorem left_succ {l : Array Bool} (hsz : l.size = ops.size) {i : Nat} (hi : i < ops.size) (hc : core i = true) (hun : l.getD i true = false) : left_ ops core (l.setIfInBounds i true) + 1 = left_ ops core l := by
  unfold left_
  have hm : i ∈ coreL ops core := by simp [coreL, hi, hc]
  have key : ∀ (L : List Nat), L.Nodup → i ∈ L → (L.filter fun k => !(l.setIfInBounds i true).getD k true).length + 1 = (L.filter fun k => !l.getD k true).length := by
    intro L
    induction L with
    | nil => intro _ h; cases h
    | cons k L ih =>
      intro hnd hmem
      rw [List.nodup_cons] at hnd
      by_cases e : k = i
      · subst e
        have h1 : (L.filter fun j => !(l.setIfInBounds k true).getD j true) = L.filter fun j => !l.getD j true := List.filter_congr fun j hj => by
          have hjk : j ≠ k := fun e => hnd.1 (by rw [← e]; exact hj)
          rw [getD_set_other hjk]
        rw [List.filter_cons, List.filter_cons, h1]
        simp only [getD_set_self hi hsz, hun, Bool.not_true, Bool.not_false, Bool.false_eq_true, if_false, if_true, List.length_cons]
      · have hmem : i ∈ L := by
          rcases List.mem_cons.1 hmem with h | h
          · exact absurd h.symm e
          · exact h
        have := ih hnd.2 hmem
        rw [List.filter_cons, List.filter_cons, getD_set_other e]
        split
        · simp only [List.length_cons]; omega
        · exact this
  exact key _ nodup_coreL hm
theorem waits_ready {l : Array Bool} {i : Nat} {o : Oper} (ho : ops[i]? = some o) : (∀ e ∈ o.after, Region.binds .any e = true → l.getD e.on false = true) → ∀ e ∈ waits ops i, l.getD e true = true := by
  intro h e he
  unfold waits at he
  rw [ho] at he
  simp only [List.mem_map, List.mem_filter] at he
  obtain ⟨x, ⟨hx, hb⟩, rfl⟩ := he
  have h1 := h x (by simpa using hx) hb
  rcases Nat.lt_or_ge x.on l.size with hlt | hge
  · simp [hlt] at h1 ⊢; exact h1
  · simp [Array.getElem?_eq_none hge] at h1
theorem ready_waits {l : Array Bool} (hsz : l.size = ops.size) {i : Nat} {o : Oper} (ho : ops[i]? = some o) (hb : ∀ e ∈ waits ops i, e < ops.size ∧ l.getD e true = true) (hun : l.getD i true = false) : i ∈ Region.ready .any ops l := by
  rw [mem_ready]
  refine ⟨hun, o, ho, fun e he hbi => ?_⟩
  have hm : e.on ∈ waits ops i := by
    unfold waits
    rw [ho]
    simp only [List.mem_map, List.mem_filter]
    exact ⟨e, ⟨by simpa using he, hbi⟩, rfl⟩
  obtain ⟨h1, h2⟩ := hb _ hm
  simp [hsz, h1] at h2 ⊢
  exact h2

theorem pure_ok (h : pureB ops core ev = true) : (∀ (j : Nat) (o : Oper) cs b, ops[j]? = some o → o.op ≠ .select cs b) ∧ ∀ j, j < ops.size → core j = true → pu ops j = true → ev j = false ∧ ∀ i oi oj, ops[i]? = some oi → ops[j]? = some oj → i ≠ j → j ∉ waits ops i → depB ops j i = false → oj.apart ops oi = true := by
  unfold pureB at h
  rw [Bool.and_eq_true] at h
  refine ⟨Region.noSelect_spec h.1, fun j hj hc hp => ?_⟩
  have := List.all_eq_true.1 h.2 j (List.mem_range.2 hj)
  simp only [hc, hp, Bool.and_self, Bool.not_true, Bool.false_or, Bool.and_eq_true] at this
  refine ⟨by simpa using this.1, fun i oi oj hi hoj hne hw hdp => ?_⟩
  have h2 := List.all_eq_true.1 this.2 i (List.mem_range.2 (Array.getElem?_eq_some_iff.1 hi).1)
  have h3 : (i == j) = false := by simpa using hne
  simpa [h3, hw, hi, hoj, hdp] using h2

theorem flow_all {sz : Nat} (hok : FlowOk ops core sz) (hpu : pureB ops core ev = true) (hQ : ∀ c a d v w, Q (.panic c) (a.put (some d) v) w → Q (.panic c) a w) (hst : FStay ops C W R) {a0 : Act} (hsz : sz = a0.tmps.size) (hfl : flowL P ops ev C W R (flowFin P ops core C Q) (coreL ops core) [] a0) :
    ∀ (n : Nat) (l : Array Bool) (vals : Nat → Value) (a : Act) (w : World), left_ ops core l = n → FInv P ops core ev C W a0 l vals a w → wpAny P .any ops Q (ops.size - (coreL ops core).length + n) l a w
  | 0, l, vals, a, w, hn, hI => by
    have hall := left_zero hn
    obtain ⟨vals', w', F, A, hat, hf, hb⟩ := flow_walk hok hst hsz hI hfl _ (coreL ops core) [] rfl (by rw [List.append_nil]; rfl)
    have hv : ∀ t, (AV ops core a0 vals').tmps[t]? = (AV ops core a0 vals).tmps[t]? := fun t => by
      rw [AV_get, AV_get]
      congr 1
      unfold lookV
      cases hw : writer ops core t with
      | none => rfl
      | some j =>
        obtain ⟨h1, h2, _⟩ := writer_spec hw
        simp only
        rw [hat.same j h2 h1 (hall j h1 h2)]
    have hA : A = a := by
      have h1 : A.tmps = a.tmps := Array.ext_getElem? fun t => by
        rw [hat.slot t (fun j hj => by cases hj), hv t, hI.slot t (fun j hj hc hl => by rw [hall j hj hc] at hl; cases hl)]
      have h2 : A.defers = a.defers := hat.df.trans hI.df.symm
      cases A; cases a; simp only at h1 h2; rw [h1, h2]
    have hl : l = ((List.range ops.size).map core).toArray := by
      apply Array.ext_getElem?
      intro k
      by_cases hk : k < ops.size
      · have h1 : l.getD k true = core k := by
          cases hc : core k with
          | true => exact hall k hk hc
          | false => exact hI.tail k hk hc
        have h2 : k < l.size := by rw [hI.hsz]; exact hk
        simp [h2] at h1
        simp [h2, hk, h1]
      · rw [Array.getElem?_eq_none (by rw [hI.hsz]; omega), Array.getElem?_eq_none (by simp; omega)]
    rw [hA] at hf
    rw [hl]
    refine hf w hI.c fun p hp => ?_
    obtain ⟨o', Ae, g1, g2, g3, g4, g5, g6, g7, g8⟩ := hat.form p hp
    rw [g8, hat.same p.1 g2 g1 (hall _ g1 g2)]
    have hAe : ∀ t ∈ looks ops p.1, Ae.tmps[t]? = (AV ops core a0 vals).tmps[t]? := fun t ht => (g7 t ht).trans (hv t)
    exact hst.a _ _ _ _ _ (fun t ht => (hAe t ht).symm) (hI.fact p.1 o' g2 (hall _ g1 g2) g4 (by rw [← agree_wanted g4 (fun t _ => hv t)]; exact g6) g5)
  | n + 1, l, vals, a, w, hn, hI => by
    rw [← Nat.add_assoc]
    obtain ⟨hsel, hpu'⟩ := pure_ok hpu
    have hnil : Region.ready .any ops l ≠ [] := by
      intro hr
      have hall : ∀ k, k < ops.size → core k = true → l.getD k true = true := by
        intro k
        induction k using Nat.strongRecOn with
        | _ k ih =>
          intro hk hc
          cases hl : l.getD k true with
          | true => rfl
          | false =>
            exfalso
            have hm := ready_waits hI.hsz (o := ops[k]) (by simp [hk]) (fun e he => ⟨by have := hok.back k hk e he; omega, ih e (hok.back k hk e he) (by have := hok.back k hk e he; omega) (hok.cl k hk hc e he)⟩) hl
            rw [hr] at hm
            cases hm
      have h0 : left_ ops core l = 0 := by
        unfold left_
        rw [List.length_eq_zero_iff, List.filter_eq_nil_iff]
        intro k hk
        simp only [coreL, List.mem_filter, List.mem_range] at hk
        simp [hall k hk.1 hk.2]
      omega
    -- what an operation of the core that may come up does
    have hdo : ∀ i o, ops[i]? = some o → core i = true → l.getD i true = false → (∀ e ∈ waits ops i, l.getD e true = true) →
        (Region.wanted o (yielded ops a.tmps) = true → ev i = true → doesR P (fun v w' => wpAny P .any ops Q (ops.size - (coreL ops core).length + n) (l.setIfInBounds i true) (a.put o.dst v) w') ((execOp a.eval o).run P w)) ∧
        (Region.wanted o (yielded ops a.tmps) = true → ev i = false → ∃ v, stillR w v ((execOp a.eval o).run P w) ∧ (pu ops i = true → ∀ w', (execOp a.eval o).run P w' = .ok (.value v) w') ∧ wpAny P .any ops Q (ops.size - (coreL ops core).length + n) (l.setIfInBounds i true) (a.put o.dst v) w) ∧
        (Region.wanted o (yielded ops a.tmps) = false → wpAny P .any ops Q (ops.size - (coreL ops core).length + n) (l.setIfInBounds i true) (a.put o.dst undef) w) := by
      intro i o ho hci hun hdep
      have his : i < ops.size := (Array.getElem?_eq_some_iff.1 ho).1
      obtain ⟨pre, suf, hl⟩ := List.append_of_mem (show i ∈ coreL ops core by simp [coreL, his, hci])
      obtain ⟨vals', w', F, A, hat, hf, hb⟩ := flow_walk hok hst hsz hI hfl _ pre (i :: suf) rfl hl
      obtain ⟨_, _, hpre, hsuf⟩ := core_sorted hl
      have hf := hf o ho
      have hdl : ∀ j, depB ops i j = true → l.getD j true = true := fun j hj => listed_cl hI.closed hok his hdep hj
      have hAk : ∀ t ∈ looks ops i, A.tmps[t]? = (AV ops core a0 vals).tmps[t]? := fun t ht =>
        (at_looks hok his hci (fun j hj => by
          rcases List.mem_cons.1 hj with rfl | hj
          · exact ⟨Nat.le_refl _, his, hci⟩
          · exact ⟨Nat.le_of_lt (hsuf j hj).1, (hsuf j hj).2⟩) hat.slot t ht).trans (AV_upd hok a0 vals vals' i his hci (fun j hj hcj hd => hat.same j hcj hj (hdl j hd)) t ht)
      have ha : ∀ t ∈ looks ops i, a.tmps[t]? = (AV ops core a0 vals).tmps[t]? := fun t ht => hI.slot t fun j hj hcj hlj e => by
        have := hdl j ((hok.ssa i j t his hci hj hcj e).2.1 ht)
        rw [this] at hlj; cases hlj
      have hex : execOp a.eval o = execOp (AV ops core a0 vals).eval o := agree_exec ho (fun cs b => hok.sel i o cs b ho hci) ha
      have hexA : execOp A.eval o = execOp (AV ops core a0 vals).eval o := agree_exec ho (fun cs b => hok.sel i o cs b ho hci) hAk
      have hwa := agree_wanted ho ha
      have hwA := agree_wanted ho hAk
      have hcls : cls ops C F i w := ⟨hI.c, fun p hp hd => by
        obtain ⟨o', Ae, g1, g2, g3, g4, g5, g6, g7, g8⟩ := hat.form p hp
        have hlp := hdl p.1 hd
        have hu := AV_upd hok a0 vals vals' p.1 g1 g2 (fun j hj hcj hd => hat.same j hcj hj (listed_cl hI.closed hok g1 (hI.closed p.1 g1 hlp) hd))
        rw [g8, hat.same p.1 g2 g1 hlp]
        exact hst.a _ _ _ _ _ (fun t ht => ((g7 t ht).trans (hu t ht)).symm) (hI.fact p.1 o' g2 hlp g4 (by rw [← agree_wanted g4 hu]; exact g6) g5)⟩
      have hgo : ∀ v w', R w w' → C w' → (Region.wanted o (yielded ops (AV ops core a0 vals).tmps) = true → ev i = true → W i (AV ops core a0 vals) v w') → (Region.wanted o (yielded ops (AV ops core a0 vals).tmps) = true → ev i = false → stillR w v ((execOp (AV ops core a0 vals).eval o).run P w)) →
          (Region.wanted o (yielded ops (AV ops core a0 vals).tmps) = false → v = undef) → wpAny P .any ops Q (ops.size - (coreL ops core).length + n) (l.setIfInBounds i true) (a.put o.dst v) w' := fun v w' h1 h2 h3 h4 h5 =>
        flow_all hok hpu hQ hst hsz hfl n _ _ _ _ (by have := left_succ hI.hsz his hci hun; omega) (flow_step hok hst hsz hI ho hci hun hdep v h1 h2 h3 h4 h5)
      refine ⟨fun hw he => ?_, fun hw he => ?_, fun hw => ?_⟩
      · have hwv : Region.wanted o (yielded ops (AV ops core a0 vals).tmps) = true := by rw [← hwa]; exact hw
        rw [if_pos (by rw [hwA]; exact hwv), if_pos he] at hf
        have h1 := hf.1 w hcls
        rw [hexA, ← hex] at h1
        exact h1.mono fun v w2 ⟨g1, g2, g3⟩ => hgo v w2 g3 g2 (fun _ _ => hst.a _ _ _ _ _ hAk g1) (fun _ h => by rw [he] at h; cases h) (fun h => by rw [hwv] at h; cases h)
      · have hwv : Region.wanted o (yielded ops (AV ops core a0 vals).tmps) = true := by rw [← hwa]; exact hw
        rw [if_pos (by rw [hwA]; exact hwv), if_neg (by simp [he])] at hf
        obtain ⟨v, h1, hpv, _⟩ := hf
        have h1 := h1 w hcls
        have h2 := h1
        rw [hexA, ← hex] at h1
        rw [hexA] at h2
        exact ⟨v, h1, fun hp w' => by have h3 := hpv hp w'; rw [hexA, ← hex] at h3; exact h3, hgo v w (hst.r0 _) hI.c (fun _ h => by rw [he] at h; cases h) (fun _ _ => h2) (fun h => by rw [hwv] at h; cases h)⟩
      · have hwv : Region.wanted o (yielded ops (AV ops core a0 vals).tmps) = false := by rw [← hwa]; exact hw
        exact hgo undef w (hst.r0 _) hI.c (fun h _ => by rw [hwv] at h; cases h) (fun h _ => by rw [hwv] at h; cases h) (fun _ => rfl)
    by_cases hex : ∃ i, i ∈ Region.ready .any ops l ∧ core i = true ∧ pu ops i = true
    · -- one that yields in whatever world is taken first
      obtain ⟨i, hi, hci, hpi⟩ := hex
      obtain ⟨hun, o, ho, hdp⟩ := mem_ready.1 hi
      have his : i < ops.size := (Array.getElem?_eq_some_iff.1 ho).1
      have hdep := waits_ready ho hdp
      obtain ⟨hei, hap⟩ := hpu' i his hci hpi
      have hpo : pureOp o = true := by simpa [pu, ho] using hpi
      have hQp : ∀ c (a : Act) v w, Q (.panic c) (a.put o.dst v) w → Q (.panic c) a w := fun c a v w h => by
        cases hd : o.dst with
        | none => rw [hd] at h; exact h
        | some d => rw [hd] at h; exact hQ c a d v w h
      obtain ⟨_, d2, d3⟩ := hdo i o ho hci hun hdep
      have hfree : ∀ j oj, ops[j]? = some oj → j ≠ i → l.getD j true = false → (∀ e ∈ oj.after, Region.binds .any e = true → e.on ≠ i) → o.apart ops oj = true := fun j oj hj hne hlj hno => hap j oj o hj ho hne (fun hm => by
        unfold waits at hm
        rw [hj] at hm
        simp only [List.mem_map, List.mem_filter] at hm
        obtain ⟨x, ⟨hx, hb⟩, hxi⟩ := hm
        exact hno x (by simpa using hx) hb hxi) (by
          cases hd : depB ops i j with
          | false => rfl
          | true =>
            have := listed_cl hI.closed hok his hdep hd
            rw [hlj] at this; cases this)
      cases hw : Region.wanted o (yielded ops a.tmps) with
      | true =>
        obtain ⟨v, h1, hpv, h2⟩ := d2 hw hei
        exact wpAny_first ho hsel (fun c a w h => hQp c a _ w h) _ l a w hfree hi (.inl ⟨hw, hpv hpi⟩) h2
      | false => exact wpAny_first ho hsel (fun c a w h => hQp c a _ w h) _ l a w hfree hi (.inr ⟨hw, rfl⟩) (d3 hw)
    · refine ⟨fun hr => absurd hr hnil, fun i hi => ?_⟩
      obtain ⟨hun, o, ho, hdp⟩ := mem_ready.1 hi
      have his : i < ops.size := (Array.getElem?_eq_some_iff.1 ho).1
      have hdep := waits_ready ho hdp
      have hci : core i = true := by
        cases hc : core i with
        | true => rfl
        | false =>
          exfalso
          have hall : ∀ k, k < ops.size → core k = true → l.getD k true = true := by
            intro k
            induction k using Nat.strongRecOn with
            | _ k ih =>
              intro hk hck
              cases hl : l.getD k true with
              | true => rfl
              | false =>
                exfalso
                rcases hok.last i k his hc hk hck with hd | hp
                · have := listed_cl hI.closed hok his hdep hd
                  rw [hl] at this; cases this
                · exact hex ⟨k, ready_waits hI.hsz (o := ops[k]) (by simp [hk]) (fun e he => ⟨by have := hok.back k hk e he; omega, ih e (hok.back k hk e he) (by have := hok.back k hk e he; omega) (hok.cl k hk hck e he)⟩) hl, hck, hp⟩
          have h0 : left_ ops core l = 0 := by
            unfold left_
            rw [List.length_eq_zero_iff, List.filter_eq_nil_iff]
            intro k hk
            simp only [coreL, List.mem_filter, List.mem_range] at hk
            simp [hall k hk.1 hk.2]
          omega
      obtain ⟨d1, d2, d3⟩ := hdo i o ho hci hun hdep
      refine wpOp_if ho ?_
      by_cases hw : Region.wanted o (yielded ops a.tmps) = true
      · rw [if_pos hw]
        cases he : ev i with
        | true => exact wp_of_does (d1 hw he) fun v w2 h => h
        | false => obtain ⟨v, h1, _, h2⟩ := d2 hw he; exact wp_of_still h1 h2
      · rw [if_neg hw]
        exact d3 (by simpa using hw)

/-- **A REGION THAT DRAWS ITS ORDER, WALKED ONCE**, in the order of the text; behind it what is left of it, its core having come up. -/
theorem wp_region_flow {id : Nat} {a : Act} {w : World} (hm : P.follows .mixedOrders = true) (core ev : Nat → Bool) (sz : Nat) (hB : flowB ops core sz = true) (hpu : pureB ops core ev = true) (hQ : ∀ c a d v w, Q (.panic c) (a.put (some d) v) w → Q (.panic c) a w) (hsz : a.tmps.size = sz) (C : World → Prop) (W : Nat → Act → Value → World → Prop)
    (hst : FStay ops C W R) (hC : C w.drew) (hfl : flowL P ops ev C W R (flowFin P ops core C Q) (coreL ops core) [] a) : (Code.region id ops true).wp P Q a w := by
  refine wp_region_any hm ?_
  have hc0 : ∀ k, (Array.replicate ops.size false).getD k true = true → ¬ k < ops.size := fun k hk h => by simp [h] at hk
  have hle : (coreL ops core).length ≤ ops.size := by
    have := List.length_filter_le core (List.range ops.size)
    simpa [coreL] using this
  have h := flow_all (flow_ok hB) hpu hQ hst hsz.symm hfl (coreL ops core).length (Array.replicate ops.size false) (fun _ => undef) a w.drew (by
    unfold left_
    congr 1
    rw [List.filter_eq_self]
    intro k hk
    simp only [coreL, List.mem_filter, List.mem_range] at hk
    simp [hk.1]) ⟨by simp, rfl, rfl, fun t ht => ?_, hC, fun k o hk hl ho => absurd (Array.getElem?_eq_some_iff.1 ho).1 (hc0 k hl), fun k o hk hl ho => absurd (Array.getElem?_eq_some_iff.1 ho).1 (hc0 k hl), fun k o hk hl ho => absurd (Array.getElem?_eq_some_iff.1 ho).1 (hc0 k hl), fun k hk hl => absurd hk (hc0 k hl), fun k hk _ => by simp [hk]⟩
  · rw [Nat.sub_add_cancel hle] at h
    exact h
  · rw [AV_get]
    have hw : writer ops core t = none := by
      cases hw : writer ops core t with
      | none => rfl
      | some j =>
        obtain ⟨h1, h2, h3⟩ := writer_spec hw
        exact absurd h3 (ht j h1 h2 (by simp [h1]))
    by_cases h : t < a.tmps.size
    · rw [if_pos h]; simp [lookV, hw, h]
    · rw [if_neg h]; exact Array.getElem?_eq_none (Nat.le_of_not_lt h)
end
end Go.Proofs.YtbcagdjfegobnaaGreat
/- A region that draws its order, walked once: the steps. -/
namespace Go.Proofs.YtbcagdjfegobnaaGreat
open Go.RowKit
set_option linter.unusedVariables false

section
variable {P : Program} {ops : Array Oper} {core ev : Nat → Bool} {C : World → Prop} {W : Nat → Act → Value → World → Prop} {R : World → World → Prop} {Q : Exit → Act → World → Prop} {Fin : List Fact → Act → Prop} {k : Nat} {ks : List Nat} {F : List Fact} {a : Act}
theorem wp_flowR {id : Nat} {a : Act} {w : World} (core ev : Nat → Bool) (sz : Nat) (ks : List Nat) (C : World → Prop) (W : Nat → Act → Value → World → Prop) (R : World → World → Prop) (hm : P.follows .mixedOrders = true) (hB : flowB ops core sz = true) (hpu : pureB ops core ev = true) (hks : coreL ops core = ks) (hQ : ∀ c a d v w, Q (.panic c) (a.put (some d) v) w → Q (.panic c) a w) (hsz : a.tmps.size = sz)
    (hst : FStay ops C W R) (hC : C w.drew) (hfl : flowL P ops ev C W R (flowFin P ops core C Q) ks [] a) : (Code.region id ops true).wp P Q a w :=
  wp_region_flow hm core ev sz hB hpu hQ hsz C W hst hC (by rw [hks]; exact hfl)
/-- What is asked where every step leaves the blocks that there are. -/
structure FStayB (ops : Array Oper) (C : World → Prop) (W : Nat → Act → Value → World → Prop) : Prop where
  c : ∀ w w', C w → Below w.heap.size w w' → C w'
  w : ∀ k a v w w', W k a v w → Below w.heap.size w w' → W k a v w'
  a : ∀ k a b v w, (∀ t ∈ looks ops k, a.tmps[t]? = b.tmps[t]?) → W k a v w → W k b v w
theorem FStayB.st (h : FStayB ops C W) : FStay ops C W (fun w w' => Below w.heap.size w w') := ⟨fun _ => Below.refl _ _, fun _ _ _ h k => h.trans (k.mono h.size), h.c, h.w, h.a⟩
theorem wp_flow {id : Nat} {a : Act} {w : World} (core ev : Nat → Bool) (sz : Nat) (ks : List Nat) (C : World → Prop) (W : Nat → Act → Value → World → Prop) (hm : P.follows .mixedOrders = true) (hB : flowB ops core sz = true) (hpu : pureB ops core ev = true) (hks : coreL ops core = ks) (hQ : ∀ c a d v w, Q (.panic c) (a.put (some d) v) w → Q (.panic c) a w) (hsz : a.tmps.size = sz)
    (hst : FStayB ops C W) (hC : C w.drew) (hfl : flowL P ops ev C W (fun w w' => Below w.heap.size w w') (flowFin P ops core C Q) ks [] a) : (Code.region id ops true).wp P Q a w :=
  wp_flowR core ev sz ks C W _ hm hB hpu hks hQ hsz hst.st hC hfl
theorem flow_quiet {o : Oper} {v : Value} (ho : ops[k]? = some o) (hw : Region.wanted o (yielded ops a.tmps) = true) (he : ev k = false) (hs : ∀ w, cls ops C F k w → stillR w v ((execOp a.eval o).run P w)) (hp : pu ops k = true → ∀ w, (execOp a.eval o).run P w = .ok (.value v) w) (h : flowL P ops ev C W R Fin ks F (a.put o.dst v)) : flowL P ops ev C W R Fin (k :: ks) F a := by
  intro o' ho'
  obtain rfl := Option.some.inj (ho.symm.trans ho')
  rw [if_pos hw, if_neg (by simp [he])]
  exact ⟨v, hs, hp, h⟩
theorem flow_event {o : Oper} (ho : ops[k]? = some o) (hw : Region.wanted o (yielded ops a.tmps) = true) (he : ev k = true) (hd : ∀ w, cls ops C F k w → doesR P (fun v w' => W k a v w' ∧ C w' ∧ R w w') ((execOp a.eval o).run P w))
    (h : ∀ v, (∃ w, C w ∧ W k a v w) → flowL P ops ev C W R Fin ks ((k, W k a v) :: F) (a.put o.dst v)) : flowL P ops ev C W R Fin (k :: ks) F a := by
  intro o' ho'
  obtain rfl := Option.some.inj (ho.symm.trans ho')
  rw [if_pos hw, if_pos he]
  exact ⟨hd, h⟩
/-- A load of a struct whose cells are not looked into. -/
theorem still_loadR {o : Oper} {w : World} (ty : TypeId) (x : Operand) (ho : o.op = .load ty x) (b off : Nat) (hx : a.eval x = .pointer (some ⟨b, off, none⟩)) (p : Array Value) (d : TypeDesc)
    (hu : P.underlying ty = some d) (hd : (match d with | .struct _ | .array _ _ => true | _ => false) = true) (hi : (P.info? ty).map (·.size) = some p.size) (hc : ∀ j v, p[j]? = some v → w.cell? ⟨b, off + j, none⟩ = some v) : stillR w (.agg p) ((execOp a.eval o).run P w) := by
  unfold execOp
  simp only [ho, hx, Instr.loadAt, Instr.sureAddr, Sem.run_bind, Sem.run_pure, Result.andThen_ok, run_loadVar_cells ty b off p d hu hd hi hc]
  exact ⟨rfl, rfl⟩
/-- An operation that yields a value and leaves the world. -/
theorem still_run {o : Oper} {w : World} {v : Value} (h : (execOp a.eval o).run P w = .ok (.value v) w) : stillR w v ((execOp a.eval o).run P w) := by rw [h]; exact ⟨rfl, rfl⟩
/-- A load of one cell. -/
theorem still_load1 {o : Oper} {w : World} (ty : TypeId) (x : Operand) (ho : o.op = .load ty x) (b off : Nat) (hx : a.eval x = .pointer (some ⟨b, off, none⟩)) (v : Value) (d : TypeDesc)
    (hu : P.underlying ty = some d) (hd : (match d with | .struct _ | .array _ _ => true | _ => false) = false) (hc : w.cell? ⟨b, off, none⟩ = some v) : stillR w v ((execOp a.eval o).run P w) := by
  have hagg : (isAgg ty).run P w = .ok false w := by
    unfold isAgg
    rw [Sem.run_bind, run_underlying hu w]
    cases d <;> simp_all
  have hl : (loadVar ty ⟨b, off, none⟩).run P w = .ok v w := by simp [loadVar, Sem.run_bind, hagg, hc]
  unfold execOp
  simp only [ho, hx, Instr.loadAt, Instr.sureAddr, Sem.run_bind, Sem.run_pure, Result.andThen_ok, hl]
  exact ⟨rfl, rfl⟩
/-- A call of a Go function. -/
theorem does_call {o : Oper} {w w2 : World} {f : FuncId} {args : Array Value} {R : Value → World → Prop} (h : (execOp a.eval o).run P w = .ok (.enter f args) w2) (hc : Calls P f args w2 (fun e w'' => ∃ v, e = .returned v ∧ R v w'')) : doesR P R ((execOp a.eval o).run P w) := by rw [h]; exact hc
/-- What yields a value. -/
theorem does_value {o : Oper} {w w2 : World} {v : Value} {R : Value → World → Prop} (h : (execOp a.eval o).run P w = .ok (.value v) w2) (hc : R v w2) : doesR P R ((execOp a.eval o).run P w) := by rw [h]; exact hc
end
end Go.Proofs.YtbcagdjfegobnaaGreat
/- A region that draws its order, walked once: the steps, by the operation's number. -/
namespace Go.Proofs.YtbcagdjfegobnaaGreat
open Go.RowKit
set_option linter.unusedVariables false

theorem cell_on {B : Nat} {w w' : World} (h : Below B w w') {b off : Nat} (hb : b < B) {v : Value} (hc : w.cell? ⟨b, off, none⟩ = some v) : w'.cell? ⟨b, off, none⟩ = some v := by
  rw [h.cell (show (⟨b, off, none⟩ : Addr).block < B from hb)]; exact hc
def opK (ops : Array Oper) (k : Nat) : Oper := (ops[k]?).getD default
theorem opK_some {ops : Array Oper} {k : Nat} (hk : decide (k < ops.size) = true) : ops[k]? = some (opK ops k) := by
  have h : k < ops.size := of_decide_eq_true hk
  simp [opK, h]
section
variable {P : Program} {ops : Array Oper} {core ev : Nat → Bool} {C : World → Prop} {W : Nat → Act → Value → World → Prop} {R : World → World → Prop} {Q : Exit → Act → World → Prop} {Fin : List Fact → Act → Prop} {k : Nat} {ks : List Nat} {F : List Fact} {a : Act}
/-- A step whose operation yields v in whatever world. -/
theorem fq (d : Tmp) (v : Value) (hk : decide (k < ops.size) = true) (hd : (opK ops k).dst = some d) (hw : Region.wanted (opK ops k) (yielded ops a.tmps) = true) (he : ev k = false) (hs : ∀ w, (execOp a.eval (opK ops k)).run P w = .ok (.value v) w) (h : flowL P ops ev C W R Fin ks F (a.put (some d) v)) : flowL P ops ev C W R Fin (k :: ks) F a :=
  flow_quiet (opK_some hk) hw he (fun w _ => still_run (hs w)) (fun _ => hs) (by rw [hd]; exact h)
/-- A load of one cell. -/
theorem fq1 (d : Tmp) (v : Value) (ty : TypeId) (x : Operand) (b off : Nat) (desc : TypeDesc) (hk : decide (k < ops.size) = true) (hd : (opK ops k).dst = some d) (hw : Region.wanted (opK ops k) (yielded ops a.tmps) = true) (he : ev k = false)
    (ho : (opK ops k).op = .load ty x) (hx : a.eval x = .pointer (some ⟨b, off, none⟩)) (hu : P.underlying ty = some desc) (hds : (match desc with | .struct _ | .array _ _ => true | _ => false) = false) (hc : ∀ w, cls ops C F k w → w.cell? ⟨b, off, none⟩ = some v)
    (h : flowL P ops ev C W R Fin ks F (a.put (some d) v)) : flowL P ops ev C W R Fin (k :: ks) F a :=
  flow_quiet (opK_some hk) hw he (fun w hw => still_load1 ty x ho b off hx v desc hu hds (hc w hw)) (fun hp => absurd hp (by simp [pu, opK_some hk, pureOp, ho])) (by rw [hd]; exact h)
/-- A load of a struct whose cells are not looked into. -/
theorem fqR (d : Tmp) (p : Array Value) (ty : TypeId) (x : Operand) (b off : Nat) (desc : TypeDesc) (hk : decide (k < ops.size) = true) (hd : (opK ops k).dst = some d) (hw : Region.wanted (opK ops k) (yielded ops a.tmps) = true) (he : ev k = false)
    (ho : (opK ops k).op = .load ty x) (hx : a.eval x = .pointer (some ⟨b, off, none⟩)) (hu : P.underlying ty = some desc) (hds : (match desc with | .struct _ | .array _ _ => true | _ => false) = true) (hi : (P.info? ty).map (·.size) = some p.size) (hc : ∀ w, cls ops C F k w → ∀ j v, p[j]? = some v → w.cell? ⟨b, off + j, none⟩ = some v)
    (h : flowL P ops ev C W R Fin ks F (a.put (some d) (.agg p))) : flowL P ops ev C W R Fin (k :: ks) F a :=
  flow_quiet (opK_some hk) hw he (fun w hw => still_loadR ty x ho b off hx p desc hu hds hi (hc w hw)) (fun hp => absurd hp (by simp [pu, opK_some hk, pureOp, ho])) (by rw [hd]; exact h)
/-- A call of a Go function. -/
theorem fcall (d : Tmp) (f : FuncId) (args : Array Value) (hk : decide (k < ops.size) = true) (hd : (opK ops k).dst = some d) (hw : Region.wanted (opK ops k) (yielded ops a.tmps) = true) (he : ev k = true) (hr : ∀ w, (execOp a.eval (opK ops k)).run P w = .ok (.enter f args) w)
    (hc : ∀ w, cls ops C F k w → Calls P f args w (fun e w'' => ∃ v, e = .returned v ∧ (W k a v w'' ∧ C w'' ∧ R w w'')))
    (h : ∀ v, (∃ w, C w ∧ W k a v w) → flowL P ops ev C W R Fin ks ((k, W k a v) :: F) (a.put (some d) v)) : flowL P ops ev C W R Fin (k :: ks) F a :=
  flow_event (opK_some hk) hw he (fun w hcl => does_call (hr w) (hc w hcl)) (fun v hv => by rw [hd]; exact h v hv)
/-- What yields a value and a new world: an alloc and its like. -/
theorem fnew (d : Tmp) (vf : World → Value) (wf : World → World) (hk : decide (k < ops.size) = true) (hd : (opK ops k).dst = some d) (hw : Region.wanted (opK ops k) (yielded ops a.tmps) = true) (he : ev k = true) (hr : ∀ w, (execOp a.eval (opK ops k)).run P w = .ok (.value (vf w)) (wf w))
    (hc : ∀ w, cls ops C F k w → W k a (vf w) (wf w) ∧ C (wf w) ∧ R w (wf w))
    (h : ∀ v, (∃ w, C w ∧ W k a v w) → flowL P ops ev C W R Fin ks ((k, W k a v) :: F) (a.put (some d) v)) : flowL P ops ev C W R Fin (k :: ks) F a :=
  flow_event (opK_some hk) hw he (fun w hcl => does_value (hr w) (hc w hcl)) (fun v hv => by rw [hd]; exact h v hv)
/-- Behind the core: the others, one behind the other. -/
def seqL (ops : Array Oper) : List Nat → Array Bool → Bool
  | [], l => (Region.ready .any ops l).isEmpty
  | t :: ts, l => decide (Region.ready .any ops l = [t]) && (decide (t < ops.size) && seqL ops ts (l.setIfInBounds t true))
theorem wpAny_of_seqL : ∀ (ts : List Nat) (l : Array Bool) (a : Act) (w : World), seqL ops ts l = true → wpList P ops Q (ts.map (opK ops)) a w → wpAny P .any ops Q ts.length l a w
  | [], _, _, _, hB, h => ⟨by simpa [seqL] using hB, h⟩
  | t :: ts, l, a, w, hB, h => by
    simp only [seqL, Bool.and_eq_true, decide_eq_true_eq] at hB
    obtain ⟨h1, h2, h3⟩ := hB
    refine ⟨fun h0 => (by rw [h1] at h0; cases h0), fun i hi => ?_⟩
    rw [h1] at hi
    have hik : i = t := by simpa using hi
    subst hik
    have hw : wpOp P ops Q i (wpList P ops Q (ts.map (opK ops))) a w := by unfold wpOp; simp only [opK_some (decide_eq_true h2)]; exact h
    exact wpOp_mono (fun a' w' h' => wpAny_of_seqL ts _ a' w' h3 h') hw
theorem fend (ts : List Nat) (hf : ops.size - (coreL ops core).length = ts.length) (hs : seqL ops ts ((List.range ops.size).map core).toArray = true)
    (h : ∀ w, C w → (∀ p ∈ F, p.2 w) → wpList P ops Q (ts.map (opK ops)) a w) : flowL P ops ev C W R (flowFin P ops core C Q) [] F a := by
  show flowFin P ops core C Q F a
  intro w hw hF
  rw [hf]
  exact wpAny_of_seqL ts _ a w hs (h w hw hF)
variable {w : World} {ts : List Nat}
/-- Steps of the tail. -/
theorem tval (d : Option Tmp) (v : Value) (w' : World) (hd : (opK ops k).dst = d) (hw : Region.wanted (opK ops k) (yielded ops a.tmps) = true) (hr : (execOp a.eval (opK ops k)).run P w = .ok (.value v) w')
    (h : wpList P ops Q (ts.map (opK ops)) (a.put d v) w') : wpList P ops Q ((k :: ts).map (opK ops)) a w := by
  rw [List.map_cons]
  unfold wpList
  rw [if_pos hw]
  refine .inl ?_
  unfold Oper.wp
  rw [hr]
  simp only [Oper.upon]
  rw [hd]; exact h
/-- What yields nothing: a store. -/
theorem tnone (d : Option Tmp) (w' : World) (hd : (opK ops k).dst = d) (hw : Region.wanted (opK ops k) (yielded ops a.tmps) = true) (hr : (execOp a.eval (opK ops k)).run P w = .ok .skip w')
    (h : wpList P ops Q (ts.map (opK ops)) (a.put d undef) w') : wpList P ops Q ((k :: ts).map (opK ops)) a w := by
  rw [List.map_cons]
  unfold wpList
  rw [if_pos hw]
  refine .inl ?_
  unfold Oper.wp
  rw [hr]
  simp only [Oper.upon]
  rw [hd]; exact h
/-- A struct is stored as_v a whole. -/
theorem tstoreP (hd : (opK ops k).dst = none) (hgd : (opK ops k).guard = none) (ty : TypeId) (x y : Operand) (ho : (opK ops k).op = .store ty x y) (g off : Nat) (hx : a.eval x = .pointer (some ⟨g, off, none⟩)) (p : Array Value) (hy : a.eval y = .agg p)
    (t : TypeId) (cs : Array Value) (hg : Blk w g t cs) (hi : (P.info? ty).map (·.size) = some p.size) (hs : off + p.size ≤ cs.size) (h1 : ∀ v ∈ p.toList, v.oneCell' = true) (cs' : Array Value) (hcs : (cs.toList.take off ++ p.toList ++ cs.toList.drop (off + p.size)).toArray = cs')
    (h : ∀ w', Blk w' g t cs' → Wr g w w' → wpList P ops Q (ts.map (opK ops)) (a.put none undef) w') : wpList P ops Q ((k :: ts).map (opK ops)) a w := by
  rw [List.map_cons]
  exact wpList_storeP hgd ty x y ho g off hx p hy t cs hg hi hs h1 cs' hcs (fun w' hB hw => by rw [hd]; exact h w' hB hw)
theorem tend (h : Q .normal a w) : wpList P ops Q (([] : List Nat).map (opK ops)) a w := h
end
end Go.Proofs.YtbcagdjfegobnaaGreat
/- Rows of things whose parts lie elsewhere: append of one thing, and where the new row lies. -/
namespace Go.Proofs.YtbcagdjfegobnaaGreat
open Go.RowKit
set_option linter.unusedVariables false

theorem blk_of (A : Option Addr) (n c : Nat) : (Value.slice A n c).ownBlock = A.map (·.block) := by cases A <;> rfl
/-- What is read lies in no block that is to come, nor in the block bo. -/
def InOff (w : World) (bo : Option Nat) (A : Option Addr) : Prop := ∀ a, A = some a → a.block < w.heap.size ∧ bo ≠ some a.block
theorem InOff.nil (w : World) (bo : Option Nat) : InOff w bo none := fun a h => by cases h
theorem InOff.grow {w w' : World} {bo bo' : Option Nat} {A : Option Addr} (h : InOff w bo A) (hs : w.heap.size ≤ w'.heap.size) (hb : ∀ k, bo' = some k → bo = some k ∨ w.heap.size ≤ k) : InOff w' bo' A := fun a ha => by
  obtain ⟨h1, h2⟩ := h a ha
  refine ⟨Nat.lt_of_lt_of_le h1 hs, fun e => ?_⟩
  rcases hb _ e with h3 | h3
  · exact h2 h3
  · omega
theorem InOff.keep {w w' : World} {bo : Option Nat} {A : Option Addr} (h : InOff w bo A) (hs : w.heap.size ≤ w'.heap.size) : InOff w' bo A := h.grow hs fun k hk => .inl hk
theorem InOff.fresh {w w' : World} {bo : Option Nat} {A : Option Addr} (h : ∀ a, A = some a → w.heap.size ≤ a.block ∧ a.block < w'.heap.size) (hb : ∀ k, bo = some k → k < w.heap.size) : InOff w' bo A := fun a ha => by
  obtain ⟨h1, h2⟩ := h a ha
  exact ⟨h2, fun e => by have := hb _ e; omega⟩
theorem Rd.grown {w w' : World} {size n : Nat} {A : Option Addr} {xs : List Value} {bo : Option Nat} (h : Rd w size A n xs) (hi : InOff w bo A) (hg : w.grownBy w' bo) : Rd w' size A n xs :=
  ⟨h.1, fun hn => by
    obtain ⟨b, off, rfl, hc⟩ := h.2 hn
    obtain ⟨h1, h2⟩ := hi _ rfl
    exact ⟨b, off, rfl, fun j v hv => (World.cell?_of_block (hg.block b h1 (fun e => h2 e.symm))).trans (hc j v hv)⟩⟩

section
variable {P : Program} {α : Type} (f : α → List Value) (size bytes : Nat) (hf : ∀ x, (f x).length = size) (hone : ∀ x, ∀ u ∈ f x, u.oneCell' = true)
include hf hone
/-- append of one thing, at an operation. -/
theorem wp_addN {w : World} {o : Oper} {a : Act} {K : Act → World → Prop} {Q : Exit → Act → World → Prop} (s x : Operand) (t : TypeId)
    (ho : o.op = .call { callee := .builtin .append, args := #[s, x], argTypes := #[t, t] })
    (E : TypeId) (z : Value) (ht : P.underlying t = some (.slice E)) (hinfo : (P.info? E).map (fun i => (i.zero, i.size, i.bytes)) = some (some z, size, bytes)) (hzs : z.cells.size = size) (hsz : 0 < size) (hb1 : 1 ≤ bytes)
    (base : Nat) (A : Option Addr) (m c : Nat) (l : List α) (hl : l.length = m) (hs : a.eval s = .slice A m c) (hown : OwnX f size w base E A c l)
    (p : α) (G d : Nat) (hx : a.eval x = .slice (some ⟨G, 0, none⟩) 1 d) (hr : Rd w size (some ⟨G, 0, none⟩) 1 (f p)) (k : Nat) (hk : m + 1 = k) (hm : (m + 1) * bytes ≤ 140737488355328) (hbase : base ≤ w.heap.size)
    (h : ∀ g cap w', OwnX f size w' base E (some ⟨g, 0, none⟩) cap (l ++ [p]) → k ≤ cap → cap ≤ 9223372036854775807 → Below base w w' → w.grownBy w' (A.map (·.block)) → (A.map (·.block) = some g ∨ g = w.heap.size) → g < w'.heap.size → K (a.put o.dst (.slice (some ⟨g, 0, none⟩) k cap)) w') :
    o.wp P a w K Q := by
  subst hk
  subst hl
  obtain ⟨i, hi, hz, hsize, hby⟩ := info_parts hinfo
  have hown' : w.ownsRow base E size (.slice A l.length c) l.length (l.flatMap f) := hown
  have hml : l.length + 1 ≤ maxLen := by
    have : (l.length + 1) * 1 ≤ (l.length + 1) * bytes := Nat.mul_le_mul_left _ hb1
    unfold maxLen; omega
  refine wp_append_lies w s x t ho base E i z size bytes ht hi hz hsize hby hzs hsz _ l.length (l.flatMap f) hs hown' ⟨G, 0, none⟩ 1 d (f p) hx (by rw [hf]; omega) ?_ (hone p) (by decide) hml hm hbase _ rfl fun g cap w' h2 h3 h4 h5 => ?_
  · intro j u hu
    obtain ⟨b, off, e, hc⟩ := hr.2 (by decide)
    injection e with e; injection e with e1 e2; subst e1; subst e2
    rw [add_none]; exact hc j u hu
  · rw [blk_of] at h3 h4
    have h2' : OwnX f size w' base E (some ⟨g, 0, none⟩) cap (l ++ [p]) := by unfold OwnX; simpa using h2
    have hcap := h2'.cap
    rw [List.length_append] at hcap
    exact h g cap w' h2' hcap.1 hcap.2 ((Below.refl _ _).grown (by rw [← blk_of A l.length c] at h3; exact h3) hbase (fun k hk => (hown'.lt k hk).1)) h3 h4 h5
theorem wpList_addN {w : World} {ops : Array Oper} {rest : List Oper} {o : Oper} {a : Act} {Q : Exit → Act → World → Prop} (hg : o.guard = none) (s x : Operand) (t : TypeId)
    (ho : o.op = .call { callee := .builtin .append, args := #[s, x], argTypes := #[t, t] })
    (E : TypeId) (z : Value) (ht : P.underlying t = some (.slice E)) (hinfo : (P.info? E).map (fun i => (i.zero, i.size, i.bytes)) = some (some z, size, bytes)) (hzs : z.cells.size = size) (hsz : 0 < size) (hb1 : 1 ≤ bytes)
    (base : Nat) (A : Option Addr) (m c : Nat) (l : List α) (hl : l.length = m) (hs : a.eval s = .slice A m c) (hown : OwnX f size w base E A c l)
    (p : α) (G d : Nat) (hx : a.eval x = .slice (some ⟨G, 0, none⟩) 1 d) (hr : Rd w size (some ⟨G, 0, none⟩) 1 (f p)) (k : Nat) (hk : m + 1 = k) (hm : (m + 1) * bytes ≤ 140737488355328) (hbase : base ≤ w.heap.size)
    (h : ∀ g cap w', OwnX f size w' base E (some ⟨g, 0, none⟩) cap (l ++ [p]) → k ≤ cap → cap ≤ 9223372036854775807 → Below base w w' → w.grownBy w' (A.map (·.block)) → (A.map (·.block) = some g ∨ g = w.heap.size) → g < w'.heap.size → wpList P ops Q rest (a.put o.dst (.slice (some ⟨g, 0, none⟩) k cap)) w') :
    wpList P ops Q (o :: rest) a w :=
  wpList_plain hg fun _ hK => wp_addN f size bytes hf hone s x t ho E z ht hinfo hzs hsz hb1 base A m c l hl hs hown p G d hx hr k hk hm hbase fun g cap w' h1 h2 h3 h4 h5 h6 h7 => hK _ _ (h g cap w' h1 h2 h3 h4 h5 h6 h7)
end
end Go.Proofs.YtbcagdjfegobnaaGreat
