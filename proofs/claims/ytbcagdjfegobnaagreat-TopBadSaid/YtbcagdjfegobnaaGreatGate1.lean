/- Gates whose connections have just begun: in memory; the contracts of gate.Begin, Check. -/
import Derived.Test.YtbcagdjfegobnaaGreatBegFlush
import Derived.Test.YtbcagdjfegobnaaGreatTallyWalk
namespace Go.Proofs.YtbcagdjfegobnaaGreat
open Go.ChangeShapes Go.WideShapes Go.ChangeAt Go.RowKit
set_option linter.unusedVariables false

/-- A server's connection that has just begun. -/
def BgR (cs : Array Value) (last : Int) : Prop := ∃ A c B d, c ≤ 9223372036854775807 ∧ d ≤ 9223372036854775807 ∧ cs = bg0 false A c B d last 0 4 ∧ 0 ≤ last ∧ last ≤ 1099511627776
theorem BgR.size {cs : Array Value} {l : Int} (h : BgR cs l) : cs.size = 24 := by obtain ⟨A, c, B, d, _, _, rfl, _⟩ := h; rfl
theorem BgR.one {cs : Array Value} {l : Int} (h : BgR cs l) : ∀ u ∈ cs.toList, u.oneCell' = true := by obtain ⟨A, c, B, d, _, _, rfl, _⟩ := h; exact bg0_one _ _ _ _ _ _ _ _
theorem BgR.client {cs : Array Value} {l : Int} (h : BgR cs l) : cs[0]? = some (.bool false) := by obtain ⟨A, c, B, d, _, _, rfl, _⟩ := h; rfl
theorem BgR.closed {cs : Array Value} {l : Int} (h : BgR cs l) : cs[22]? = some (.bool false) := by obtain ⟨A, c, B, d, _, _, rfl, _⟩ := h; rfl
theorem BgR.check {cs : Array Value} {l : Int} (h : BgR cs l) (w : World) : Calls Tryz.prog 49 #[.agg cs] w fun e w' => e = .returned (.int .i64 0) ∧ Below w.heap.size w w' := by
  obtain ⟨A, c, B, d, hc, hd, rfl, h0, h1⟩ := h
  exact connCheck_bg0 false A c B d l 0 4 (.inr ⟨rfl, rfl⟩) hc hd h0 h1 w
theorem BgR.fresh {cs : Array Value} {l : Int} (h : BgR cs l) (w : World) : Calls Tryz.prog 92 #[.agg cs] w fun e w' => ∃ cs', e = .returned (.agg cs') ∧ BgR cs' l ∧ Below w.heap.size w w' := by
  obtain ⟨A, c, B, d, hc, hd, rfl, h0, h1⟩ := h
  refine (connFresh_bg0 false A c B d l 0 4 w).mono ?_
  rintro e w' ⟨A', B', rfl, hb⟩
  exact ⟨_, rfl, ⟨A', 0, B', 0, by decide, by decide, rfl, h0, h1⟩, hb⟩
theorem BgR.flush {cs : Array Value} {l : Int} (h : BgR cs l) (now : Int) (n0 : 0 ≤ now) (n1 : now ≤ 1099511627776) (w : World) : Calls Tryz.prog 104 #[.agg cs, .int .i64 now] w fun e w' => ∃ cs', e = .returned (.tuple #[.agg cs', .int .i64 0, .slice none 0 0, .int .i64 0]) ∧ BgR cs' l ∧ Below w.heap.size w w' := by
  obtain ⟨A, c, B, d, hc, hd, rfl, h0, h1⟩ := h
  refine (connFlush_bg0 false A c B d l 0 4 (.inr ⟨rfl, rfl⟩) hc hd h0 h1 now n0 n1 w).mono ?_
  rintro e w' ⟨A', B', rfl, hb⟩
  exact ⟨_, rfl, ⟨A', 0, B', 0, by decide, by decide, rfl, h0, h1⟩, hb⟩
theorem connBegin_BgR (now : Int) (h0 : 0 ≤ now) (h1 : now ≤ 1099511627776) (w : World) : Calls Tryz.prog 69 #[.bool false, .int .i64 now] w fun e w' => ∃ cs, e = .returned (.tuple #[.agg cs, .int .i64 0]) ∧ BgR cs now ∧ Below w.heap.size w w' := by
  refine (connBegin_ok false now h0 h1 w).mono ?_
  rintro e w' ⟨rfl, hb⟩
  exact ⟨_, rfl, ⟨none, 0, none, 0, by decide, by decide, rfl, h0, h1⟩, hb⟩

abbrev Tly := Bool × Int × Int
def TlyOk (t : Tly) : Prop := (0 ≤ t.2.1 ∧ t.2.1 ≤ 1099511627776) ∧ (0 ≤ t.2.2 ∧ t.2.2 ≤ 1099511627776) ∧ (t.1 = false → t.2.2 ≤ 3 * t.2.1)
theorem tallyCheck_any (t : Tly) (ok : TlyOk t) (w : World) : Calls Tryz.prog 48 #[.agg #[.bool t.1, .int .i64 t.2.1, .int .i64 t.2.2]] w fun e w' => e = .returned (.int .i64 0) ∧ Below w.heap.size w w' := by
  obtain ⟨k, g, s⟩ := t
  obtain ⟨⟨h0, h1⟩, ⟨h2, h3⟩, h4⟩ := ok
  cases k
  · exact tallyCheck_f g s h0 h1 h2 h3 (h4 rfl) w
  · exact tallyCheck_t g s h0 h1 h2 h3 w

/-- A note of a gate. -/
structure NtB where
  id : Int
  from_ : Int
  peer : Int
  key : Int
  ready : Bool
  last : Int
  cs : Array Value
  sz : cs.size = 24
  one : ∀ u ∈ cs.toList, u.oneCell' = true
def nta (x : NtB) : Array Value := #[.int .i64 x.id, .int .i64 x.from_, .int .i64 x.peer, .int .u64 x.key, .bool x.ready] ++ x.cs
def ntc (x : NtB) : List Value := (nta x).toList
def ntn : NtB := ⟨0, 0, 0, 0, false, 0, bg0 false none 0 none 0 0 0 0, rfl, bg0_one _ _ _ _ _ _ _ _⟩
theorem nta_size (x : NtB) : (nta x).size = 29 := by simp [nta, x.sz]
theorem ntc_len (x : NtB) : (ntc x).length = 29 := by simp [ntc, nta_size]
theorem nta_one (x : NtB) : ∀ u ∈ (nta x).toList, u.oneCell' = true := by
  intro u hu
  simp only [nta, Array.toList_append, List.mem_append] at hu
  rcases hu with hu | hu
  · simp only [List.mem_cons, List.not_mem_nil, or_false] at hu
    rcases hu with rfl | rfl | rfl | rfl | rfl <;> rfl
  · exact x.one u hu
theorem ntc_one (xs : List NtB) : ∀ u ∈ xs.flatMap ntc, u.oneCell' = true := by
  intro u hu
  obtain ⟨x, _, hx⟩ := List.mem_flatMap.1 hu
  exact nta_one x u hx
structure GtD where
  secret : Int
  now : Int
  next : Int
  t : Nat → Tly
  retry : Bool
  shed : Int
/-- The cells of a gate whose notes lie in the slice A. -/
def gcs (g : GtD) (A : Option Addr) (n c : Nat) : Array Value :=
  #[.int .u64 g.secret, .int .i64 g.now, .int .i64 g.next, .slice A n c, .bool (g.t 0).1, .int .i64 (g.t 0).2.1, .int .i64 (g.t 0).2.2, .bool (g.t 1).1, .int .i64 (g.t 1).2.1, .int .i64 (g.t 1).2.2,
    .bool (g.t 2).1, .int .i64 (g.t 2).2.1, .int .i64 (g.t 2).2.2, .bool (g.t 3).1, .int .i64 (g.t 3).2.1, .int .i64 (g.t 3).2.2, .bool g.retry, .int .i64 g.shed]
structure NtOk (nx : Int) (x : NtB) : Prop where
  id0 : 0 < x.id
  id1 : x.id < nx
  f0 : 0 ≤ x.from_
  f1 : x.from_ ≤ 255
  p0 : 0 ≤ x.peer
  p1 : x.peer < 4
  k0 : 0 ≤ x.key
  k1 : x.key < 18446744073709551616
  r : BgR x.cs x.last
structure GOk (g : GtD) (xs : List NtB) : Prop where
  s0 : 0 ≤ g.secret
  s1 : g.secret < 18446744073709551616
  n0 : 0 ≤ g.now
  n1 : g.now ≤ 1099511627776
  x0 : 1 ≤ g.next
  x1 : g.next ≤ 256
  h0 : 0 ≤ g.shed
  h1 : g.shed ≤ 1099511627776
  tl : ∀ i, i < 4 → TlyOk (g.t i)
  few : xs.length ≤ 3
  nts : ∀ x ∈ xs, NtOk g.next x
  inc : xs.Pairwise (fun a b => a.id < b.id)
theorem ntInfo : (Tryz.prog.info? 53).map (fun i => (i.zero, i.size, i.bytes)) = some (some (.agg (nta ⟨0, 0, 0, 0, false, 0, #[.bool false, .int .i64 0, .slice none 0 0, .int .i64 0, .slice none 0 0, .slice none 0 0, .int .i64 0, .int .i64 0, .int .i64 0, .int .i64 0, .int .i64 0, .int .i64 0, .int .i64 0, .int .i64 0, .int .i64 0, .int .i64 0, .int .i64 0, .slice none 0 0, .bool false, .slice none 0 0, .int .i64 0, .int .i64 0, .bool false, .int .i64 0], rfl, by decide⟩)), 29, 312) := by kernel_rfl
/-- A gate that may be, in memory. -/
structure GtV (w : World) (g : GtD) (A : Option Addr) (n c : Nat) (xs : List NtB) : Prop where
  hn : xs.length = n
  hnc : n ≤ c
  hcm : c ≤ 9223372036854775807
  ok : GOk g xs
  rd : RdX ntc 29 w A xs
theorem GtV.below {w w' : World} {g : GtD} {A : Option Addr} {n c : Nat} {xs : List NtB} (h : GtV w g A n c xs) (hb : Below w.heap.size w w') : GtV w' g A n c xs := ⟨h.hn, h.hnc, h.hcm, h.ok, RdX.below h.rd hb⟩
/-- A note of a row: all its cells. -/
theorem RdX.nt {w : World} {A : Option Addr} {xs : List NtB} (h : RdX ntc 29 w A xs) (hn : 0 < xs.length) : ∃ b off, A = some ⟨b, off, none⟩ ∧ ∀ k, k < xs.length → ∀ j v, (nta (xs.getD k ntn))[j]? = some v → w.cell? ⟨b, off + k * 29 + j, none⟩ = some v := by
  obtain ⟨b, off, e, hc⟩ := RdX.at_ ntc_len h ntn hn
  refine ⟨b, off, e, fun k hk j v hv => hc k hk j v ?_ (by simpa [ntc] using hv)⟩
  have := (Array.getElem?_eq_some_iff.1 hv).1
  rw [nta_size] at this; exact this
/-- What a block that holds a note says of its cells. -/
theorem Blk.nt {w : World} {g : Nat} {t : TypeId} {x : NtB} (h : Blk w g t (nta x)) : g < w.heap.size ∧ w.cell? ⟨g, 0, none⟩ = some (.int .i64 x.id) ∧ w.cell? ⟨g, 1, none⟩ = some (.int .i64 x.from_) ∧ w.cell? ⟨g, 2, none⟩ = some (.int .i64 x.peer) ∧ w.cell? ⟨g, 3, none⟩ = some (.int .u64 x.key) ∧ w.cell? ⟨g, 4, none⟩ = some (.bool x.ready) :=
  ⟨h.lt, by rw [h.cell, nta, Array.getElem?_append_left (by simp)]; rfl, by rw [h.cell, nta, Array.getElem?_append_left (by simp)]; rfl, by rw [h.cell, nta, Array.getElem?_append_left (by simp)]; rfl, by rw [h.cell, nta, Array.getElem?_append_left (by simp)]; rfl, by rw [h.cell, nta, Array.getElem?_append_left (by simp)]; rfl⟩
theorem nta_cs (x : NtB) : ∀ j v, x.cs[j]? = some v → (nta x)[5 + j]? = some v := by
  intro j v hv
  simp only [nta]
  rw [Array.getElem?_append_right (by simp)]
  simpa using hv
theorem Blk.ntcs {w : World} {g : Nat} {t : TypeId} {x : NtB} (h : Blk w g t (nta x)) : ∀ j v, x.cs[j]? = some v → w.cell? ⟨g, 5 + j, none⟩ = some v := fun j v hv => by rw [h.cell]; exact nta_cs x j v hv
def lastN (xs : List NtB) : Nat → Int
  | 0 => 0
  | k + 1 => (xs.getD k ntn).id
theorem GOk.at_ {g : GtD} {xs : List NtB} (h : GOk g xs) (k : Nat) (hk : k < xs.length) : NtOk g.next (xs.getD k ntn) ∧ lastN xs k < (xs.getD k ntn).id := by
  have hm : xs.getD k ntn ∈ xs := by simp [List.getD, hk]
  refine ⟨h.nts _ hm, ?_⟩
  cases k with
  | zero => exact (h.nts _ hm).id0
  | succ k =>
    show (xs.getD k ntn).id < _
    have := List.pairwise_iff_getElem.1 h.inc k (k + 1) (by omega) hk (by omega)
    simpa [List.getD, hk, show k < xs.length by omega] using this

set_option maxRecDepth 100000 in
set_option maxHeartbeats 2000000 in
theorem gateBegin_ok (s : Int) (retry : Bool) (w : World) : Calls Tryz.prog 28 #[.int .u64 s, .bool retry] w fun e w' => e = .returned (.agg (gcs ⟨s, 0, 1, fun _ => (false, 0, 0), retry, 0⟩ none 0 0)) ∧ Below w.heap.size w w' := by
  go_enter Tryz.func28, Tryz.ntmps28
  go_upto_region 1 with (fail)
  refine wp_world (fun w' => (∃ z, z.size = 18 ∧ Blk w' w.heap.size 29 z) ∧ Below w.heap.size w w') ⟨⟨_, rfl, Blk.new _ _ _⟩, (Below.refl _ _).alloc (Nat.le_refl _) _⟩ ?_
  rintro w1 ⟨⟨z, hz, hZ⟩, hb⟩
  go_wp2_with (refine wpList_storeP rfl 29 (.tmp 4) (.tmp 7) rfl w.heap.size 0 rfl (gcs ⟨s, 0, 1, fun _ => (false, 0, 0), retry, 0⟩ none 0 0) rfl 29 _ hZ (by kernel_rfl) (by simp [gcs, hz]) (by intro u hu; simp only [gcs, List.mem_cons, List.not_mem_nil, or_false] at hu; rcases hu with rfl | rfl | rfl | rfl | rfl | rfl | rfl | rfl | rfl | rfl | rfl | rfl | rfl | rfl | rfl | rfl | rfl | rfl <;> rfl) _ (splice_all _ _ (by simp [gcs, hz])) ?_
               intro w8 hB8 hw8)
  exact bodyPost_ret (results_c1 _ _ w.heap.size _ (gcs ⟨s, 0, 1, fun _ => (false, 0, 0), retry, 0⟩ none 0 0) _ Tryz.results28 rfl hB8 Tryz.underlying29 rfl (by kernel_rfl)) rfl ⟨rfl, hw8.trans_below hb (Nat.le_refl _)⟩

set_option maxRecDepth 100000 in
set_option maxHeartbeats 4000000 in
theorem gateCheck_ok (g : GtD) (A : Option Addr) (n c : Nat) (xs : List NtB) (w : World) (h : GtV w g A n c xs) :
    Calls Tryz.prog 18 #[.agg (gcs g A n c)] w fun e w' => e = .returned (.int .i64 0) ∧ Below w.heap.size w w' := by
  have HV := Lib.hid h
  obtain ⟨hn, hnc, hcm, ok, rd⟩ := h
  have q0 := ok.n0
  have q1 := ok.n1
  have q2 := ok.x0
  have q3 := ok.x1
  have q4 := ok.h0
  have q5 := ok.h1
  have q6 := ok.few
  rw [hn] at q6
  have q7 : (n : Int) ≤ 3 := by omega
  clear hn ok rd
  go_enter Tryz.func18, Tryz.ntmps18
  go_upto_region 1 with (fail)
  refine wp_world (fun w' => Blk w' w.heap.size 29 (gcs g A n c) ∧ Below w.heap.size w w') ⟨Blk.new _ _ _, (Below.refl _ _).alloc (Nat.le_refl _) _⟩ ?_
  rintro w1 ⟨hS, hb⟩
  have HF : ∀ W, Blk W w.heap.size 29 (gcs g A n c) → _ := fun W h => Blk.c18 (by unfold gcs at h; exact h)
  have HF := Lib.hid HF
  have F := HF.out _ hS
  have hi : ∀ k, k < 4 → ∀ W, (Instr.index 27 (.agg #[.bool (g.t 0).1, .int .i64 (g.t 0).2.1, .int .i64 (g.t 0).2.2, .bool (g.t 1).1, .int .i64 (g.t 1).2.1, .int .i64 (g.t 1).2.2, .bool (g.t 2).1, .int .i64 (g.t 2).2.1, .int .i64 (g.t 2).2.2, .bool (g.t 3).1, .int .i64 (g.t 3).2.1, .int .i64 (g.t 3).2.2]) (.int .i64 (k : Nat))).run Tryz.prog W = .ok (.agg #[.bool (g.t k).1, .int .i64 (g.t k).2.1, .int .i64 (g.t k).2.2]) W := by
    intro k hk W
    rcases (show k = 0 ∨ k = 1 ∨ k = 2 ∨ k = 3 by omega) with rfl | rfl | rfl | rfl <;> kernel_rfl
  have HI := Lib.hid hi
  clear hi
  go_wp2_with fail
  go_loopw [3, 45] (fun s3 s45 wr => ∃ k : Nat, k ≤ 4 ∧ s45 = .int .i64 k ∧ s3 = .bool true ∧ Blk wr w.heap.size 29 (gcs g A n c) ∧ Below w.heap.size w wr) (fun _ s45 _ => 4 - (intOf s45).toNat)
  case atStart => exact ⟨0, Nat.zero_le _, rfl, by first | rfl | (simp; done) | (simp; omega), hS, hb⟩
  case round =>
    obtain ⟨k, hk, rfl, rfl, hSr, hbr⟩ := hrel
    clear F hS hb
    by_cases hlt : k < 4
    -- [[round1
    · have hik := HI.out k hlt
      have hti := HV.out.ok.tl k hlt
      have hk4 : (k : Int) < 4 := by omega
      go_upto_region 5 with (fail)
      refine wp_world (fun w' => Blk w' wr.heap.size 26 #[.bool (g.t k).1, .int .i64 (g.t k).2.1, .int .i64 (g.t k).2.2] ∧ Blk w' w.heap.size 29 (gcs g A n c) ∧ Below w.heap.size w w') ⟨Blk.new _ _ _, ?_, ?_⟩ ?_
      · have hgl := hSr.lt
        (apply Blk.as; (case h => (repeat (first | with_reducible exact hSr | with_reducible apply Blk.drew | with_reducible apply Blk.set4 | with_reducible apply Blk.set_ | (with_reducible apply Blk.far4 (hne := ?side); case side => (first | omega | (simp; omega) | (simp; done))) | (with_reducible apply Blk.far (hp := ?side); case side => (first | omega | (simp; omega) | (simp; done))) | with_reducible apply Blk.alloc))); (case e => (first | with_reducible rfl | (simp; done) | rfl)))
      · have hgl := hSr.lt
        (repeat (first | with_reducible exact hbr | with_reducible refine Below.drew ?_ | (with_reducible refine Below.set4 ?_ ?side _ _ _ _; case side => (first | omega | (simp; omega) | (simp; done))) | (with_reducible refine Below.setCell ?_ ?side _; case side => (first | omega | (simp; omega) | (simp; done))) | (with_reducible refine Below.alloc ?_ ?side _; case side => (first | omega | (simp; omega) | (simp; done)))))
      have hgl := hSr.lt
      obtain ⟨q, hq⟩ : ∃ q, wr.heap.size = q := ⟨_, rfl⟩
      try rw [hq]
      clear hSr hbr hik hq hgl
      rintro w2 ⟨hT, hS2, hb2⟩
      have FT := hT.c3
      go_wp2_with fail
      refine (tallyCheck_any (g.t k) hti _).mono ?_
      rintro e w3 ⟨rfl, hb3⟩
      have hS3 := hS2.carry hb3
      have hb3 := hb2.trans (hb3.mono hb2.size)
      clear FT hT hS2 hb2
      go_wp2_with fail
      go_roundw
      case rel => exact ⟨k + 1, by omega, by go_num, by first | rfl | simp, hS3, hb3⟩
      case measure => simp [intOf]; omega
      -- ]]round1
    -- [[loop2
    · obtain rfl : k = 4 := by omega
      have HBR := Lib.hid hbr
      have F := HF.out _ hSr
      clear hlt hk
      go_wp2_with fail
      go_loopw [3, 6, 58] (fun s3 s6 s58 wr => ∃ k : Nat, k ≤ n ∧ s58 = .int .i64 k ∧ s3 = .bool true ∧ s6 = .int .i64 (lastN xs k) ∧ Blk wr w.heap.size 29 (gcs g A n c) ∧ Below w.heap.size w wr) (fun _ _ s58 _ => n - (intOf s58).toNat)
      case atStart => exact ⟨0, Nat.zero_le _, rfl, by first | rfl | simp, rfl, hSr, HBR.out⟩
      case round =>
        obtain ⟨k, hk, rfl, rfl, rfl, hS, hb⟩ := hrel
        clear F hSr
        by_cases hlt : k < n
        -- [[round2
        · have hkx : k < xs.length := by rw [HV.out.hn]; exact hlt
          obtain ⟨hok, hls⟩ := HV.out.ok.at_ k hkx
          obtain ⟨b, off, rfl, hcell⟩ := (RdX.below HV.out.rd hb).nt (by omega)
          have hc := hcell k hkx
          have HL : Hid (lastN xs (k + 1) = (xs.getD k ntn).id) := rfl
          generalize lastN xs k = L at *
          generalize xs.getD k ntn = x at *
          have HC := Lib.hid hc
          have hkn : (k : Int) < (n : Int) := by omega
          have hgl := hS.lt
          have HBB := Lib.hid hb
          clear hcell hc hkx hb
          go_upto_region 11 with (first
            | refine wpList_loadR rfl 53 (.tmp 60) rfl b (off + k * 29) rfl (nta x) _ Tryz.underlying53 rfl (by rw [nta_size]; kernel_rfl) HC.out ?_
            | (refine wpList_storeP rfl 53 (.tmp 8) (.tmp 61) rfl wr.heap.size 0 rfl (nta x) rfl 53 _ (Blk.new _ _ _) (by rw [nta_size]; kernel_rfl) (by rw [nta_size]; decide) (nta_one x) _ (splice_all _ _ (by rw [nta_size]; rfl)) ?_
               intro w2 hN hw2
               have hS2 := (hS.alloc _).wr hw2 (by omega)
               have hb2 := hw2.trans_below (HBB.out.alloc (by omega) _) (by omega)))
          obtain ⟨q, hq⟩ : ∃ q, wr.heap.size = q := ⟨_, rfl⟩
          rw [hq] at hN ⊢
          have hok2 := hok
          obtain ⟨i0, i1, f0, f1, p0, p1, k0, k1, hr⟩ := hok
          have HR := Lib.hid hr
          have HN := Lib.hid hN
          have HS2 := Lib.hid hS2
          have HB2 := Lib.hid hb2
          have fg : w2.cell? ⟨w.heap.size, 2, none⟩ = some (.int .i64 g.next) := by rw [hS2.cell]; rfl
          have FN := hN.nt
          clear hN hS2 hb2 hw2 hS HBB hq hgl HC
          go_wp2_with (refine wpList_loadG (by first | rfl | (simp [Region.wanted, yielded]; done)) 43 (.tmp 97) rfl q 5 rfl x.cs _ Tryz.underlying43 rfl (by rw [x.sz]; kernel_rfl) HN.out.ntcs ?_)
          refine (HR.out.check _).mono ?_
          rintro e w3 ⟨rfl, hb3⟩
          have FN := (HN.out.carry hb3).nt
          have e0 : w3.cell? ⟨q, 5, none⟩ = some (.bool false) := (HN.out.carry hb3).ntcs 0 _ HR.out.client
          have HS3 := Lib.hid (HS2.out.carry hb3)
          have HB3 := Lib.hid (HB2.out.trans (hb3.mono HB2.out.size))
          clear hb3 fg
          go_wp2_with fail
          go_roundw
          case rel =>
            (repeat apply Exists.intro)
            refine ⟨⟨k + 1, ?n1, ?n2, ?n3, ?n4, HS3.out, HB3.out⟩, ?f⟩
            case f => rfl
            case n1 => omega
            case n2 => go_num
            case n3 => first | rfl | simp
            case n4 => rw [HL.out]
          case measure => simp [intOf]; omega
          -- ]]round2
        · obtain rfl : k = n := by omega
          go_wp2_with fail
          go_ret
          exact ⟨rfl, hb⟩
      -- ]]loop2
end Go.Proofs.YtbcagdjfegobnaaGreat
