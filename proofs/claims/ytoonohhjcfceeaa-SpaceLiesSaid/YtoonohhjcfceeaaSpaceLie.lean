/- The contract of space.Acked, told of what may not be. -/
import Derived.Test.YtoonohhjcfceeaaSpaceAck
namespace Go.Proofs.Ytoonohhjcfceeaa
open Go.ChangeShapes Go.WideShapes Go.ChangeAt Go.RowKit
set_option linter.unusedVariables false

set_option maxRecDepth 100000 in
set_option maxHeartbeats 4000000 in
/-- Told of a packet that was never sent. -/
theorem spAcked_far (nx : Int) (A : Option Addr) (n c : Nat) (top : Int) (B : Option Addr) (m d : Nat) (C : Option Addr) (k e : Nat) (ps : List Pcl) (hs : List Rng) (ks : List Int) (lo hi : Int) (h0 : 0 ≤ lo) (h1 : lo ≤ hi) (h2 : nx ≤ hi) (h3 : hi ≤ 9223372036854775807) (b off dL : Nat) (hd1 : 1 ≤ dL) (hd2 : dL ≤ 9223372036854775807) (w : World) (h : SpV w nx A n c top B m d C k e ps hs ks) (hr : RdX rcells 2 w (some ⟨b, off, none⟩) [(lo, hi)]) :
    Calls Try.prog 12 #[.agg #[.int .i64 nx, .slice A n c, .int .i64 top, .slice B m d, .slice C k e], .slice (some ⟨b, off, none⟩) 1 dL] w fun e' w' => e' = .returned (.tuple #[.agg #[.int .i64 0, .slice none 0 0, .int .i64 0, .slice none 0 0, .slice none 0 0], .slice none 0 0, .slice none 0 0, .int .i64 13]) ∧ Below w.heap.size w w' := by
  have h1_ := h1
  have h2_ := h2
  have hn0 := h.ok.n0
  have hn1 := h.ok.n1
  have ht0 := h.ok.t0
  have ht1 := h.ok.t1
  have HV := Lib.hid h
  have HR := Lib.hid hr
  clear h hr
  have b1 : decide (lo < 0) = false := decide_eq_false (by omega)
  have b2 : decide (hi < lo) = false := decide_eq_false (by omega)
  have b3 : decide (nx ≤ hi) = true := decide_eq_true (by omega)
  go_enter Try.func12, Try.ntmps12
  go_upto_region 1 with (fail)
  refine wp_world (fun w' => Blk w' w.heap.size 26 #[.int .i64 nx, .slice A n c, .int .i64 top, .slice B m d, .slice C k e] ∧ Blk w' (w.heap.size + 1) 23 #[.slice (some ⟨b, off, none⟩) 1 dL] ∧ Blk w' (w.heap.size + 2) 26 #[.int .i64 0, .slice none 0 0, .int .i64 0, .slice none 0 0, .slice none 0 0] ∧ Below w.heap.size w w') ⟨((Blk.new _ _ _).alloc _).alloc _, (Blk.new1 _ _ _ _).alloc _, blkN (by simp), (((Below.refl _ _).alloc (Nat.le_refl _) _).alloc (by simp) _).alloc (by simp; omega) _⟩ ?_
  rintro w1 ⟨hS, hL, hZ, hb⟩
  have FS := hS.facts5
  have HV1 := Lib.hid (HV.out.below hb)
  go_wp2_with fail
  refine (HV1.out.check).mono ?_
  rintro e1 w2 ⟨rfl, hb2⟩
  have hS := hS.carry hb2
  have hL := hL.carry hb2
  have hZ := hZ.carry hb2
  have hb := hb.trans (hb2.mono hb.size)
  have HV2 := Lib.hid (HV1.out.below hb2)
  have hgz := hZ.lt
  clear FS HV1 hb2
  have FS := hS.facts5
  go_upto_region 6 with (fail)
  refine wp_world (fun w' => Blk w' w.heap.size 26 #[.int .i64 nx, .slice A n c, .int .i64 top, .slice B m d, .slice C k e] ∧ Blk w' (w.heap.size + 1) 23 #[.slice (some ⟨b, off, none⟩) 1 dL] ∧ Blk w' (w.heap.size + 2) 26 #[.int .i64 0, .slice none 0 0, .int .i64 0, .slice none 0 0, .slice none 0 0] ∧ Blk w' w2.heap.size 78 #[.func (.func 31) #[] #[.pointer (some ⟨w.heap.size + 1, 0, none⟩)]] ∧ Blk w' (w2.heap.size + 1) 3 #[.int .i64 top] ∧ SpV w' nx A n c top B m d C k e ps hs ks ∧ RdX rcells 2 w' (some ⟨b, off, none⟩) [(lo, hi)] ∧ Below w.heap.size w w')
    ⟨(hS.alloc _).alloc _, (hL.alloc _).alloc _, (hZ.alloc _).alloc _, (Blk.new _ _ _).alloc _, Blk.new1 _ _ _ _, HV2.out.below (((Below.refl _ _).alloc (Nat.le_refl _) _).alloc (by simp) _), RdX.alloc (RdX.alloc (RdX.below HR.out hb) _) _, (hb.alloc hb.size _).alloc (by have := hb.size; simp; omega) _⟩ ?_
  clear FS hS hL hZ hb HV2
  rintro w3 ⟨hS, hL, hZ, hF, hT, hV, hR, hb⟩
  have hgz3 := hZ.lt
  have hgt3 := hT.lt
  have FS := hS.facts5
  have FL : w3.cell? ⟨w.heap.size + 1, 0, none⟩ = some (.slice (some ⟨b, off, none⟩) 1 dL) := by rw [hL.cell]; rfl
  have FT : w3.cell? ⟨w2.heap.size + 1, 0, none⟩ = some (.int .i64 top) ∧ w3.frozen? ⟨w2.heap.size + 1, 0, none⟩ = false := ⟨by rw [hT.cell]; rfl, hT.frozen 0⟩
  obtain ⟨_, _, e1, hcell⟩ := hR.rcell (by simp)
  injection e1 with e1
  injection e1 with e1 e2
  subst e1 e2
  obtain ⟨c0, c1⟩ := hcell 0 (by simp)
  simp only [Nat.zero_mul, Nat.add_zero, List.getD_cons_zero] at c0 c1
  have HS := Lib.hid hS
  have HL := Lib.hid hL
  have HZ := Lib.hid hZ
  have HF := Lib.hid hF
  have HT := Lib.hid hT
  have HV3 := Lib.hid hV
  have HR3 := Lib.hid hR
  have HB := Lib.hid hb
  clear hcell hS hL hZ hF hT hV hR hb
  have k1 : w3.heap.size ≠ w2.heap.size + 1 := by omega
  go_wp2_with fail
  refine wp_loop_rounds 2 ?_
  rw [rounds_succ]
  have FZ := HZ.out.facts5
  go_wp2_with fail
  refine bodyPost_ret (v := .tuple #[.agg #[.int .i64 0, .slice none 0 0, .int .i64 0, .slice none 0 0, .slice none 0 0], .slice none 0 0, .slice none 0 0, .int .i64 13]) ?_ rfl ⟨rfl, ?_⟩
  · simp [results, Try.results12, go_sem, FZ] <;> rfl
  · have hb := HB.out
    (repeat (first | with_reducible exact hb | with_reducible refine Below.drew ?_ | (with_reducible refine Below.set4 ?_ ?side _ _ _ _; case side => (first | omega | (simp; omega) | (simp; done))) | (with_reducible refine Below.setCell ?_ ?side _; case side => (first | omega | (simp; omega) | (simp; done))) | (with_reducible refine Below.alloc ?_ ?side _; case side => (first | omega | (simp; omega) | (simp; done)))))
set_option maxRecDepth 100000 in
set_option maxHeartbeats 4000000 in
/-- Told of a number that was left out. -/
theorem spAcked_skip (nx : Int) (A : Option Addr) (n c : Nat) (top : Int) (B : Option Addr) (m d : Nat) (C : Option Addr) (k e : Nat) (ps : List Pcl) (hs : List Rng) (ks : List Int) (lo hi : Int) (h0 : 0 ≤ lo) (h1 : lo ≤ hi) (h2 : hi < nx) (hsk : ∃ x ∈ ks, inR [(lo, hi)] x = true) (b off dL : Nat) (hd1 : 1 ≤ dL) (hd2 : dL ≤ 9223372036854775807) (w : World) (h : SpV w nx A n c top B m d C k e ps hs ks) (hr : RdX rcells 2 w (some ⟨b, off, none⟩) [(lo, hi)]) :
    Calls Try.prog 12 #[.agg #[.int .i64 nx, .slice A n c, .int .i64 top, .slice B m d, .slice C k e], .slice (some ⟨b, off, none⟩) 1 dL] w fun e' w' => e' = .returned (.tuple #[.agg #[.int .i64 0, .slice none 0 0, .int .i64 0, .slice none 0 0, .slice none 0 0], .slice none 0 0, .slice none 0 0, .int .i64 13]) ∧ Below w.heap.size w w' := by
  have h1_ := h1
  have h2_ := h2
  have hn0 := h.ok.n0
  have hn1 := h.ok.n1
  have ht0 := h.ok.t0
  have ht1 := h.ok.t1
  have HV := Lib.hid h
  have HR := Lib.hid hr
  have HSK := Lib.hid hsk
  clear h hr hsk
  obtain ⟨tp, htp⟩ : ∃ tp : Int, (if top < hi then hi else top) = tp := ⟨_, rfl⟩
  have htp2 : (if hi < top then top else hi) = tp := by rw [← htp]; split <;> split <;> omega
  have HTP : Hid (tp = top ∨ tp = hi) := by show _ ∨ _; rw [← htp]; split <;> simp
  have htpb : -1 ≤ tp ∧ tp < nx := by rcases HTP.out with h | h <;> omega
  have HTE := Lib.hid htp
  obtain ⟨htp0, htp1⟩ := htpb
  have b1 : decide (lo < 0) = false := decide_eq_false (by omega)
  have b2 : decide (hi < lo) = false := decide_eq_false (by omega)
  have b3 : decide (nx ≤ hi) = false := decide_eq_false (by omega)
  go_enter Try.func12, Try.ntmps12
  go_upto_region 1 with (fail)
  refine wp_world (fun w' => Blk w' w.heap.size 26 #[.int .i64 nx, .slice A n c, .int .i64 top, .slice B m d, .slice C k e] ∧ Blk w' (w.heap.size + 1) 23 #[.slice (some ⟨b, off, none⟩) 1 dL] ∧ Blk w' (w.heap.size + 2) 26 #[.int .i64 0, .slice none 0 0, .int .i64 0, .slice none 0 0, .slice none 0 0] ∧ Below w.heap.size w w') ⟨((Blk.new _ _ _).alloc _).alloc _, (Blk.new1 _ _ _ _).alloc _, blkN (by simp), (((Below.refl _ _).alloc (Nat.le_refl _) _).alloc (by simp) _).alloc (by simp; omega) _⟩ ?_
  rintro w1 ⟨hS, hL, hZ, hb⟩
  have FS := hS.facts5
  have HV1 := Lib.hid (HV.out.below hb)
  go_wp2_with fail
  refine (HV1.out.check).mono ?_
  rintro e1 w2 ⟨rfl, hb2⟩
  have hS := hS.carry hb2
  have hL := hL.carry hb2
  have hZ := hZ.carry hb2
  have hb := hb.trans (hb2.mono hb.size)
  have HV2 := Lib.hid (HV1.out.below hb2)
  have hgz := hZ.lt
  clear FS HV1 hb2
  have FS := hS.facts5
  go_upto_region 6 with (fail)
  refine wp_world (fun w' => Blk w' w.heap.size 26 #[.int .i64 nx, .slice A n c, .int .i64 top, .slice B m d, .slice C k e] ∧ Blk w' (w.heap.size + 1) 23 #[.slice (some ⟨b, off, none⟩) 1 dL] ∧ Blk w' (w.heap.size + 2) 26 #[.int .i64 0, .slice none 0 0, .int .i64 0, .slice none 0 0, .slice none 0 0] ∧ Blk w' w2.heap.size 78 #[.func (.func 31) #[] #[.pointer (some ⟨w.heap.size + 1, 0, none⟩)]] ∧ Blk w' (w2.heap.size + 1) 3 #[.int .i64 top] ∧ SpV w' nx A n c top B m d C k e ps hs ks ∧ RdX rcells 2 w' (some ⟨b, off, none⟩) [(lo, hi)] ∧ Below w.heap.size w w')
    ⟨(hS.alloc _).alloc _, (hL.alloc _).alloc _, (hZ.alloc _).alloc _, (Blk.new _ _ _).alloc _, Blk.new1 _ _ _ _, HV2.out.below (((Below.refl _ _).alloc (Nat.le_refl _) _).alloc (by simp) _), RdX.alloc (RdX.alloc (RdX.below HR.out hb) _) _, (hb.alloc hb.size _).alloc (by have := hb.size; simp; omega) _⟩ ?_
  clear FS hS hL hZ hb HV2
  rintro w3 ⟨hS, hL, hZ, hF, hT, hV, hR, hb⟩
  have hgz3 := hZ.lt
  have hgt3 := hT.lt
  have FS := hS.facts5
  have FL : w3.cell? ⟨w.heap.size + 1, 0, none⟩ = some (.slice (some ⟨b, off, none⟩) 1 dL) := by rw [hL.cell]; rfl
  have FT : w3.cell? ⟨w2.heap.size + 1, 0, none⟩ = some (.int .i64 top) ∧ w3.frozen? ⟨w2.heap.size + 1, 0, none⟩ = false := ⟨by rw [hT.cell]; rfl, hT.frozen 0⟩
  obtain ⟨_, _, e1, hcell⟩ := hR.rcell (by simp)
  injection e1 with e1
  injection e1 with e1 e2
  subst e1 e2
  obtain ⟨c0, c1⟩ := hcell 0 (by simp)
  simp only [Nat.zero_mul, Nat.add_zero, List.getD_cons_zero] at c0 c1
  have HS := Lib.hid hS
  have HL := Lib.hid hL
  have HZ := Lib.hid hZ
  have HF := Lib.hid hF
  have HT := Lib.hid hT
  have HV3 := Lib.hid hV
  have HR3 := Lib.hid hR
  have HB := Lib.hid hb
  clear hcell hS hL hZ hF hT hV hR hb
  have k1 : w3.heap.size ≠ w2.heap.size + 1 := by omega
  go_wp2_with fail
  refine wp_loop_rounds 2 ?_
  rw [rounds_succ]
  go_wp2_with fail
  rw [rounds_succ]
  go_upto_region 15 with (fail)
  refine wp_world (fun w' => Blk w' w.heap.size 26 #[.int .i64 nx, .slice A n c, .int .i64 top, .slice B m d, .slice C k e] ∧ Blk w' (w.heap.size + 1) 23 #[.slice (some ⟨b, off, none⟩) 1 dL] ∧ Blk w' (w.heap.size + 2) 26 #[.int .i64 0, .slice none 0 0, .int .i64 0, .slice none 0 0, .slice none 0 0] ∧ Blk w' w2.heap.size 78 #[.func (.func 31) #[] #[.pointer (some ⟨w.heap.size + 1, 0, none⟩)]] ∧ Blk w' (w2.heap.size + 1) 3 #[.int .i64 tp] ∧ Below w.heap.size w w')
    ⟨by (have hS := HS.out; (apply Blk.as; (case h => (repeat (first | with_reducible exact hS | with_reducible apply Blk.drew | with_reducible apply Blk.set4 | with_reducible apply Blk.set_ | (with_reducible apply Blk.far4 (hne := ?side); case side => (first | omega | (simp; omega) | (simp; done))) | (with_reducible apply Blk.far (hp := ?side); case side => (first | omega | (simp; omega) | (simp; done))) | with_reducible apply Blk.alloc))); (case e => (first | with_reducible rfl | (simp; done) | rfl)))), by (have hL := HL.out; (apply Blk.as; (case h => (repeat (first | with_reducible exact hL | with_reducible apply Blk.drew | with_reducible apply Blk.set4 | with_reducible apply Blk.set_ | (with_reducible apply Blk.far4 (hne := ?side); case side => (first | omega | (simp; omega) | (simp; done))) | (with_reducible apply Blk.far (hp := ?side); case side => (first | omega | (simp; omega) | (simp; done))) | with_reducible apply Blk.alloc))); (case e => (first | with_reducible rfl | (simp; done) | rfl)))), by (have hZ := HZ.out; (apply Blk.as; (case h => (repeat (first | with_reducible exact hZ | with_reducible apply Blk.drew | with_reducible apply Blk.set4 | with_reducible apply Blk.set_ | (with_reducible apply Blk.far4 (hne := ?side); case side => (first | omega | (simp; omega) | (simp; done))) | (with_reducible apply Blk.far (hp := ?side); case side => (first | omega | (simp; omega) | (simp; done))) | with_reducible apply Blk.alloc))); (case e => (first | with_reducible rfl | (simp; done) | rfl)))), by (have hF := HF.out; (apply Blk.as; (case h => (repeat (first | with_reducible exact hF | with_reducible apply Blk.drew | with_reducible apply Blk.set4 | with_reducible apply Blk.set_ | (with_reducible apply Blk.far4 (hne := ?side); case side => (first | omega | (simp; omega) | (simp; done))) | (with_reducible apply Blk.far (hp := ?side); case side => (first | omega | (simp; omega) | (simp; done))) | with_reducible apply Blk.alloc))); (case e => (first | with_reducible rfl | (simp; done) | rfl)))), ((HT.out.set_ 0 _).as (by rfl)).alloc _, by (have hb := HB.out; (repeat (first | with_reducible exact hb | with_reducible refine Below.drew ?_ | (with_reducible refine Below.set4 ?_ ?side _ _ _ _; case side => (first | omega | (simp; omega) | (simp; done))) | (with_reducible refine Below.setCell ?_ ?side _; case side => (first | omega | (simp; omega) | (simp; done))) | (with_reducible refine Below.alloc ?_ ?side _; case side => (first | omega | (simp; omega) | (simp; done))))))⟩ ?_
  have hw2s : w.heap.size + 2 < w2.heap.size := hgz
  clear FS FL FT c0 c1 HS HL HZ HF HT HB HV3 HR3
  rintro w4 ⟨hS, hL, hZ, hF, hT, hb⟩
  have hV : SpV w4 nx A n c top B m d C k e ps hs ks := HV.out.below hb
  have hR : RdX rcells 2 w4 (some ⟨b, off, none⟩) [(lo, hi)] := RdX.below HR.out hb
  have hgt4 := hT.lt
  have FS := hS.facts5
  have FF : w4.cell? ⟨w2.heap.size, 0, none⟩ = some (.func (.func 31) #[] #[.pointer (some ⟨w.heap.size + 1, 0, none⟩)]) := by rw [hF.cell]; rfl
  have HS := Lib.hid hS
  have HL := Lib.hid hL
  have HZ := Lib.hid hZ
  have HF := Lib.hid hF
  have HT := Lib.hid hT
  have HV4 := Lib.hid hV
  have HR4 := Lib.hid hR
  have HB := Lib.hid hb
  have hkc := hV.hke
  have hkm := hV.hem
  clear hS hL hZ hF hT hV hR hb
  have HMR : Hid (∀ i, i = k → (∀ j, j < i → inR [(lo, hi)] (ks.getD j 0) = false) → False) := fun i hik hall => by
    obtain ⟨x, hx, hin⟩ := HSK.out
    obtain ⟨j, hj, rfl⟩ := List.mem_iff_getElem.1 hx
    have h := hall j (by rw [hik, ← HV4.out.hk]; exact hj)
    have e : ks.getD j 0 = ks[j] := by simp [List.getD, hj]
    rw [e, hin] at h; cases h
  go_wp2_with fail
  go_loopw [59] (fun iv wr => ∃ i : Nat, i ≤ k ∧ iv = .int .i64 (i : Int) ∧ Hid (∀ j, j < i → inR [(lo, hi)] (ks.getD j 0) = false) ∧ Below w4.heap.size w4 wr) (fun iv _ => k - (intOf iv).toNat)
  case atStart => exact ⟨0, Nat.zero_le _, rfl, fun j hj => by omega, Below.refl _ _⟩
  case round =>
    obtain ⟨i, hi_, rfl, HJ, hbr⟩ := hrel
    clear FS FF
    have hF := HF.out.carry hbr
    have hS := HS.out.carry hbr
    have FS := hS.facts5
    have FF : wr.cell? ⟨w2.heap.size, 0, none⟩ = some (.func (.func 31) #[] #[.pointer (some ⟨w.heap.size + 1, 0, none⟩)]) := by rw [hF.cell]; rfl
    have hgs : w.heap.size < wr.heap.size := hS.lt
    clear hF
    by_cases hlt : i < k
    · have hkl := HV4.out.hk
      obtain ⟨bc, oc, rfl, hcell⟩ := (RdX.below HV4.out.rc hbr).int (by omega)
      have c0 := hcell i (by omega)
      obtain ⟨R, hR⟩ : ∃ R, inR [(lo, hi)] (ks.getD i 0) = R := ⟨_, rfl⟩
      have HX := Lib.hid hR
      have HZ2 := Lib.hid ((HZ.out.carry hbr))
      clear hR
      cases R with
      | true =>
        generalize ks.getD i 0 = x at *
        clear hcell hkl hS FS
        go_wp2_with fail
        refine (spWithin_any x (w.heap.size + 1) (some ⟨b, off, none⟩) 1 dL [(lo, hi)] rfl hd1 hd2 true HX.out _ (HL.out.carry hbr) (RdX.below HR4.out hbr)).mono ?_
        rintro e2 w5 ⟨rfl, hb5⟩
        have hZ5 := HZ2.out.carry hb5
        have FZ := hZ5.facts5
        have hbz := (HB.out.trans (hbr.mono HB.out.size)).trans (hb5.mono (HB.out.trans (hbr.mono HB.out.size)).size)
        go_wp2_with fail
        refine bodyPost_ret (v := .tuple #[.agg #[.int .i64 0, .slice none 0 0, .int .i64 0, .slice none 0 0, .slice none 0 0], .slice none 0 0, .slice none 0 0, .int .i64 13]) ?_ rfl ⟨rfl, ?_⟩
        · simp [results, Try.results12, go_sem, FZ] <;> rfl
        · (repeat (first | with_reducible exact hbz | with_reducible refine Below.drew ?_ | (with_reducible refine Below.set4 ?_ ?side _ _ _ _; case side => (first | omega | (simp; omega) | (simp; done))) | (with_reducible refine Below.setCell ?_ ?side _; case side => (first | omega | (simp; omega) | (simp; done))) | (with_reducible refine Below.alloc ?_ ?side _; case side => (first | omega | (simp; omega) | (simp; done)))))
      | false =>
        have HJ2 : Hid (∀ j, j < i + 1 → inR [(lo, hi)] (ks.getD j 0) = false) := fun j hj => by
          by_cases h : j < i
          · exact HJ.out j h
          · obtain rfl : j = i := by omega
            exact HX.out
        generalize ks.getD i 0 = x at *
        clear hcell hkl hS FS
        go_wp2_with fail
        refine (spWithin_any x (w.heap.size + 1) (some ⟨b, off, none⟩) 1 dL [(lo, hi)] rfl hd1 hd2 false HX.out _ (HL.out.carry hbr) (RdX.below HR4.out hbr)).mono ?_
        rintro e2 w5 ⟨rfl, hb5⟩
        go_wp2_with fail
        go_roundw
        case rel => exact ⟨i + 1, by omega, by go_num, HJ2, hbr.trans (hb5.mono hbr.size)⟩
        case measure => simp [intOf]; omega
    · exact (HMR.out i (by omega) HJ.out).elim
end Go.Proofs.Ytoonohhjcfceeaa
