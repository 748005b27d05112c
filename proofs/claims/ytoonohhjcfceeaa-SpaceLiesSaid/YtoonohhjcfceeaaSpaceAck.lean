/- The contract of space.Acked, told of one range. -/
import Derived.Test.YtoonohhjcfceeaaSpaceSend
import Derived.Laws.EntriesVeiled
namespace Go.Proofs.Ytoonohhjcfceeaa
open Go.ChangeShapes Go.WideShapes Go.ChangeAt Go.RowKit
set_option linter.unusedVariables false

def heardOf (lo hi : Int) (ps : List Pcl) : List Pcl := ps.filter fun p => inR [(lo, hi)] p.1
def restOf (lo hi : Int) (ps : List Pcl) : List Pcl := ps.filter fun p => !inR [(lo, hi)] p.1
def lostOf (top : Int) (ps : List Pcl) : List Pcl := ps.filter fun p => decide (p.1 ≤ top - 3)
def leftOf (top : Int) (ps : List Pcl) : List Pcl := ps.filter fun p => !decide (p.1 ≤ top - 3)
/-- What Acked leaves. -/
def AckOut (nx top lo hi : Int) (m k : Nat) (ps : List Pcl) (hs : List Rng) (ks : List Int) (w : World) (e' : Ending) (w' : World) : Prop :=
  ∃ (A' : Option Addr) (n' c' : Nat) (B' : Option Addr) (d' : Nat) (C' : Option Addr) (k' : Nat) (H : Option Addr) (nh ch : Nat) (T : Option Addr) (nt ct : Nat),
    e' = .returned (.tuple #[.agg #[.int .i64 nx, .slice A' n' c', .int .i64 (if top < hi then hi else top), .slice B' m d', .slice C' k k'], .slice H nh ch, .slice T nt ct, .int .i64 0]) ∧
    SpKeep w w' (fun W => SpV W nx A' n' c' (if top < hi then hi else top) B' m d' C' k k' (leftOf (if top < hi then hi else top) (restOf lo hi ps)) hs ks ∧ RdX pcells 4 W H (heardOf lo hi ps) ∧ RdX pcells 4 W T (lostOf (if top < hi then hi else top) (restOf lo hi ps))) ∧ (heardOf lo hi ps).length = nh ∧ nh ≤ ch ∧ ch ≤ 9223372036854775807 ∧
    (lostOf (if top < hi then hi else top) (restOf lo hi ps)).length = nt ∧ nt ≤ ct ∧ ct ≤ 9223372036854775807 ∧ Below w.heap.size w w'

theorem SpOk.ack {nx : Int} {ps : List Pcl} {top : Int} {hs : List Rng} {ks : List Int} (h : SpOk nx ps top hs ks) (lo hi : Int) (h0 : 0 ≤ lo) (h1 : lo ≤ hi) (h2 : hi < nx) (hsk : ∀ x ∈ ks, inR [(lo, hi)] x = false) (t : Int) (ht : t = top ∨ t = hi) (f : Pcl → Bool) (g : Pcl → Bool) : SpOk nx ((ps.filter f).filter g) t hs ks := by
  refine ⟨h.n0, h.n1, by have := h.t0; rcases ht with rfl | rfl <;> omega, by have := h.t1; rcases ht with rfl | rfl <;> omega, ?_, h.hl, h.kl, h.hg, ⟨(h.pk.1.filter f).filter g, fun p hp => h.pk.2 p (List.mem_filter.1 (List.mem_filter.1 hp).1).1⟩, h.kk, ?_⟩
  · exact Nat.le_trans (List.length_filter_le _ _) (Nat.le_trans (List.length_filter_le _ _) h.pl)
  · rcases ht with rfl | rfl
    · exact h.tk
    · cases hc : ks.contains t with
      | false => rfl
      | true =>
        have := hsk t (by simpa using hc)
        simp [inR, h1] at this

theorem blkN {w : World} {t : TypeId} {cs : Array Value} {H : Nat} (hH : w.heap.size = H) : Blk (w.alloc (.cells cs t)) H t cs := by
  subst hH; exact Blk.new w t cs

set_option maxRecDepth 100000 in
set_option maxHeartbeats 8000000 in
theorem spAcked_one (nx : Int) (A : Option Addr) (n c : Nat) (top : Int) (B : Option Addr) (m d : Nat) (C : Option Addr) (k e : Nat) (ps : List Pcl) (hs : List Rng) (ks : List Int) (lo hi : Int) (h0 : 0 ≤ lo) (h1 : lo ≤ hi) (h2 : hi < nx) (hsk : ∀ x ∈ ks, inR [(lo, hi)] x = false) (b off dL : Nat) (hd1 : 1 ≤ dL) (hd2 : dL ≤ 9223372036854775807) (w : World) (h : SpV w nx A n c top B m d C k e ps hs ks) (hr : RdX rcells 2 w (some ⟨b, off, none⟩) [(lo, hi)]) :
    Calls Try.prog 12 #[.agg #[.int .i64 nx, .slice A n c, .int .i64 top, .slice B m d, .slice C k e], .slice (some ⟨b, off, none⟩) 1 dL] w (AckOut nx top lo hi m k ps hs ks w) := by
  have h1_ := h1
  have h2_ := h2
  have hn0 := h.ok.n0
  have hn1 := h.ok.n1
  have ht0 := h.ok.t0
  have ht1 := h.ok.t1
  have HV := Lib.hid h
  have HR := Lib.hid hr
  have HSK := Lib.hid hsk
  clear h hr hsk
  obtain ⟨tp, htp⟩ : ∃ tp : Int, (if top < hi then hi else top) = tp := ⟨_, rfl⟩
  have htp2 : (if hi < top then top else hi) = tp := by rw [← htp]; split <;> split <;> omega
  have HTP : Hid (tp = top ∨ tp = hi) := by show _ ∨ _; rw [← htp]; split <;> simp
  have htpb : -1 ≤ tp ∧ tp < nx := by rcases HTP.out with h | h <;> omega
  have HTE := Lib.hid htp
  obtain ⟨htp0, htp1⟩ := htpb
  have b1 : decide (lo < 0) = false := decide_eq_false (by omega)
  have b2 : decide (hi < lo) = false := decide_eq_false (by omega)
  have b3 : decide (nx ≤ hi) = false := decide_eq_false (by omega)
  go_enter Try.func12, Try.ntmps12
  go_upto_region 1 with (fail)
  refine wp_world (fun w' => Blk w' w.heap.size 26 #[.int .i64 nx, .slice A n c, .int .i64 top, .slice B m d, .slice C k e] ∧ Blk w' (w.heap.size + 1) 23 #[.slice (some ⟨b, off, none⟩) 1 dL] ∧ Blk w' (w.heap.size + 2) 26 #[.int .i64 0, .slice none 0 0, .int .i64 0, .slice none 0 0, .slice none 0 0] ∧ Below w.heap.size w w') ⟨((Blk.new _ _ _).alloc _).alloc _, (Blk.new1 _ _ _ _).alloc _, blkN (by simp), (((Below.refl _ _).alloc (Nat.le_refl _) _).alloc (by simp) _).alloc (by simp; omega) _⟩ ?_
  rintro w1 ⟨hS, hL, hZ, hb⟩
  have FS := hS.facts5
  have HV1 := Lib.hid (HV.out.below hb)
  go_wp2_with fail
  refine (HV1.out.check).mono ?_
  rintro e1 w2 ⟨rfl, hb2⟩
  have hS := hS.carry hb2
  have hL := hL.carry hb2
  have hZ := hZ.carry hb2
  have hb := hb.trans (hb2.mono hb.size)
  have HV2 := Lib.hid (HV1.out.below hb2)
  have hgz := hZ.lt
  clear FS HV1 hb2
  have FS := hS.facts5
  go_upto_region 6 with (fail)
  refine wp_world (fun w' => Blk w' w.heap.size 26 #[.int .i64 nx, .slice A n c, .int .i64 top, .slice B m d, .slice C k e] ∧ Blk w' (w.heap.size + 1) 23 #[.slice (some ⟨b, off, none⟩) 1 dL] ∧ Blk w' (w.heap.size + 2) 26 #[.int .i64 0, .slice none 0 0, .int .i64 0, .slice none 0 0, .slice none 0 0] ∧ Blk w' w2.heap.size 78 #[.func (.func 31) #[] #[.pointer (some ⟨w.heap.size + 1, 0, none⟩)]] ∧ Blk w' (w2.heap.size + 1) 3 #[.int .i64 top] ∧ SpV w' nx A n c top B m d C k e ps hs ks ∧ RdX rcells 2 w' (some ⟨b, off, none⟩) [(lo, hi)] ∧ Below w.heap.size w w')
    ⟨(hS.alloc _).alloc _, (hL.alloc _).alloc _, (hZ.alloc _).alloc _, (Blk.new _ _ _).alloc _, Blk.new1 _ _ _ _, HV2.out.below (((Below.refl _ _).alloc (Nat.le_refl _) _).alloc (by simp) _), RdX.alloc (RdX.alloc (RdX.below HR.out hb) _) _, (hb.alloc hb.size _).alloc (by have := hb.size; simp; omega) _⟩ ?_
  clear FS hS hL hZ hb HV2
  rintro w3 ⟨hS, hL, hZ, hF, hT, hV, hR, hb⟩
  have hgz3 := hZ.lt
  have hgt3 := hT.lt
  have FS := hS.facts5
  have FL : w3.cell? ⟨w.heap.size + 1, 0, none⟩ = some (.slice (some ⟨b, off, none⟩) 1 dL) := by rw [hL.cell]; rfl
  have FT : w3.cell? ⟨w2.heap.size + 1, 0, none⟩ = some (.int .i64 top) ∧ w3.frozen? ⟨w2.heap.size + 1, 0, none⟩ = false := ⟨by rw [hT.cell]; rfl, hT.frozen 0⟩
  obtain ⟨_, _, e1, hcell⟩ := hR.rcell (by simp)
  injection e1 with e1
  injection e1 with e1 e2
  subst e1 e2
  obtain ⟨c0, c1⟩ := hcell 0 (by simp)
  simp only [Nat.zero_mul, Nat.add_zero, List.getD_cons_zero] at c0 c1
  have HS := Lib.hid hS
  have HL := Lib.hid hL
  have HZ := Lib.hid hZ
  have HF := Lib.hid hF
  have HT := Lib.hid hT
  have HV3 := Lib.hid hV
  have HR3 := Lib.hid hR
  have HB := Lib.hid hb
  clear hcell hS hL hZ hF hT hV hR hb
  have k1 : w3.heap.size ≠ w2.heap.size + 1 := by omega
  go_wp2_with fail
  refine wp_loop_rounds 2 ?_
  rw [rounds_succ]
  go_wp2_with fail
  rw [rounds_succ]
  go_upto_region 15 with (fail)
  refine wp_world (fun w' => Blk w' w.heap.size 26 #[.int .i64 nx, .slice A n c, .int .i64 top, .slice B m d, .slice C k e] ∧ Blk w' (w.heap.size + 1) 23 #[.slice (some ⟨b, off, none⟩) 1 dL] ∧ Blk w' (w.heap.size + 2) 26 #[.int .i64 0, .slice none 0 0, .int .i64 0, .slice none 0 0, .slice none 0 0] ∧ Blk w' w2.heap.size 78 #[.func (.func 31) #[] #[.pointer (some ⟨w.heap.size + 1, 0, none⟩)]] ∧ Blk w' (w2.heap.size + 1) 3 #[.int .i64 tp] ∧ Below w.heap.size w w')
    ⟨by (have hS := HS.out; (apply Blk.as; (case h => (repeat (first | with_reducible exact hS | with_reducible apply Blk.drew | with_reducible apply Blk.set4 | with_reducible apply Blk.set_ | (with_reducible apply Blk.far4 (hne := ?side); case side => (first | omega | (simp; omega) | (simp; done))) | (with_reducible apply Blk.far (hp := ?side); case side => (first | omega | (simp; omega) | (simp; done))) | with_reducible apply Blk.alloc))); (case e => (first | with_reducible rfl | (simp; done) | rfl)))), by (have hL := HL.out; (apply Blk.as; (case h => (repeat (first | with_reducible exact hL | with_reducible apply Blk.drew | with_reducible apply Blk.set4 | with_reducible apply Blk.set_ | (with_reducible apply Blk.far4 (hne := ?side); case side => (first | omega | (simp; omega) | (simp; done))) | (with_reducible apply Blk.far (hp := ?side); case side => (first | omega | (simp; omega) | (simp; done))) | with_reducible apply Blk.alloc))); (case e => (first | with_reducible rfl | (simp; done) | rfl)))), by (have hZ := HZ.out; (apply Blk.as; (case h => (repeat (first | with_reducible exact hZ | with_reducible apply Blk.drew | with_reducible apply Blk.set4 | with_reducible apply Blk.set_ | (with_reducible apply Blk.far4 (hne := ?side); case side => (first | omega | (simp; omega) | (simp; done))) | (with_reducible apply Blk.far (hp := ?side); case side => (first | omega | (simp; omega) | (simp; done))) | with_reducible apply Blk.alloc))); (case e => (first | with_reducible rfl | (simp; done) | rfl)))), by (have hF := HF.out; (apply Blk.as; (case h => (repeat (first | with_reducible exact hF | with_reducible apply Blk.drew | with_reducible apply Blk.set4 | with_reducible apply Blk.set_ | (with_reducible apply Blk.far4 (hne := ?side); case side => (first | omega | (simp; omega) | (simp; done))) | (with_reducible apply Blk.far (hp := ?side); case side => (first | omega | (simp; omega) | (simp; done))) | with_reducible apply Blk.alloc))); (case e => (first | with_reducible rfl | (simp; done) | rfl)))), ((HT.out.set_ 0 _).as (by rfl)).alloc _, by (have hb := HB.out; (repeat (first | with_reducible exact hb | with_reducible refine Below.drew ?_ | (with_reducible refine Below.set4 ?_ ?side _ _ _ _; case side => (first | omega | (simp; omega) | (simp; done))) | (with_reducible refine Below.setCell ?_ ?side _; case side => (first | omega | (simp; omega) | (simp; done))) | (with_reducible refine Below.alloc ?_ ?side _; case side => (first | omega | (simp; omega) | (simp; done))))))⟩ ?_
  have hw2s : w.heap.size + 2 < w2.heap.size := hgz
  clear FS FL FT c0 c1 HS HL HZ HF HT HB HV3 HR3
  rintro w4 ⟨hS, hL, hZ, hF, hT, hb⟩
  have hV : SpV w4 nx A n c top B m d C k e ps hs ks := HV.out.below hb
  have hR : RdX rcells 2 w4 (some ⟨b, off, none⟩) [(lo, hi)] := RdX.below HR.out hb
  have hgt4 := hT.lt
  have FS := hS.facts5
  have FF : w4.cell? ⟨w2.heap.size, 0, none⟩ = some (.func (.func 31) #[] #[.pointer (some ⟨w.heap.size + 1, 0, none⟩)]) := by rw [hF.cell]; rfl
  have HS := Lib.hid hS
  have HL := Lib.hid hL
  have HZ := Lib.hid hZ
  have HF := Lib.hid hF
  have HT := Lib.hid hT
  have HV4 := Lib.hid hV
  have HR4 := Lib.hid hR
  have HB := Lib.hid hb
  have hkc := hV.hke
  have hkm := hV.hem
  clear hS hL hZ hF hT hV hR hb
  go_wp2_with fail
  go_loopw [59] (fun iv wr => ∃ i : Nat, i ≤ k ∧ iv = .int .i64 (i : Int) ∧ Below w4.heap.size w4 wr) (fun iv _ => k - (intOf iv).toNat)
  case atStart => exact ⟨0, Nat.zero_le _, rfl, Below.refl _ _⟩
  case round =>
    obtain ⟨i, hi_, rfl, hbr⟩ := hrel
    clear FS FF
    have hF := HF.out.carry hbr
    have hS := HS.out.carry hbr
    have FS := hS.facts5
    have FF : wr.cell? ⟨w2.heap.size, 0, none⟩ = some (.func (.func 31) #[] #[.pointer (some ⟨w.heap.size + 1, 0, none⟩)]) := by rw [hF.cell]; rfl
    have hgs : w.heap.size < wr.heap.size := hS.lt
    clear hF
    by_cases hlt : i < k
    · have hkl := HV4.out.hk
      obtain ⟨bc, oc, rfl, hcell⟩ := (RdX.below HV4.out.rc hbr).int (by omega)
      have c0 := hcell i (by omega)
      have HX := Lib.hid (HSK.out (ks.getD i 0) (by
        have : ks.getD i 0 = ks[i]'(by omega) := by simp [List.getD, show i < ks.length by omega]
        rw [this]; exact List.getElem_mem _))
      generalize ks.getD i 0 = x at *
      clear hcell hkl hS FS
      go_wp2_with fail
      refine (spWithin_any x (w.heap.size + 1) (some ⟨b, off, none⟩) 1 dL [(lo, hi)] rfl hd1 hd2 false HX.out _ (HL.out.carry hbr) (RdX.below HR4.out hbr)).mono ?_
      rintro e2 w5 ⟨rfl, hb5⟩
      go_wp2_with fail
      go_roundw
      case rel => exact ⟨i + 1, by omega, by go_num, hbr.trans (hb5.mono hbr.size)⟩
      case measure => simp [intOf]; omega
    · obtain rfl : k = i := by omega
      have hL := HL.out.carry hbr
      have hZ := HZ.out.carry hbr
      have hF := HF.out.carry hbr
      have hT := HT.out.carry hbr
      have hb := HB.out.trans (hbr.mono HB.out.size)
      have HV5 := Lib.hid (HV4.out.below hbr)
      have HR5 := Lib.hid (RdX.below HR4.out hbr)
      have hgtr := hT.lt
      clear HS HL HZ HF HT HV4 HR4 HB FF hbr
      go_wp2_with fail
      refine (HV5.out.fresh).mono ?_
      rintro e2 w5 ⟨A3, c3, B3, d3, C3, k3, M, rfl, ⟨hc3, hc3m⟩, ⟨hd3, hd3m⟩, ⟨hk3, hk3m⟩, hM0, hM1, hAM, hO, hOB, hOC, hb5⟩
      have hS := hS.carry hb5
      have hL := hL.carry hb5
      have hZ := hZ.carry hb5
      have hF := hF.carry hb5
      have hT := hT.carry hb5
      have hb := hb.trans (hb5.mono hb.size)
      have HR6 := Lib.hid (RdX.below HR5.out hb5)
      have HO := Lib.hid hO
      have HOB := Lib.hid hOB
      have HOC := Lib.hid hOC
      have hz5 := hb5.size
      clear FS hO hOB hOC hAM hb5
      have FS := hS.facts5
      go_upto_region 22 with (fail)
      refine wp_world (fun w' => Blk w' w.heap.size 26 #[.int .i64 nx, .slice A3 n c3, .int .i64 top, .slice B3 m d3, .slice C3 k k3] ∧ Blk w' (w.heap.size + 1) 23 #[.slice (some ⟨b, off, none⟩) 1 dL] ∧ Blk w' (w.heap.size + 2) 26 #[.int .i64 0, .slice none 0 0, .int .i64 0, .slice none 0 0, .slice none 0 0] ∧ Blk w' w2.heap.size 78 #[.func (.func 31) #[] #[.pointer (some ⟨w.heap.size + 1, 0, none⟩)]] ∧ Blk w' (w2.heap.size + 1) 3 #[.int .i64 tp] ∧ OwnX pcells 4 w' wr.heap.size 39 A3 c3 ps ∧ OwnX rcells 2 w' M 35 B3 d3 hs ∧ OwnX icells 1 w' M 3 C3 k3 ks ∧ M ≤ w'.heap.size ∧ Below w.heap.size w w')
        ⟨(((((hS.set_ 0 _).set_ 1 _).set_ 2 _).set_ 3 _).set_ 4 _).as (by rfl), by (apply Blk.as; (case h => (repeat (first | with_reducible exact hL | with_reducible apply Blk.drew | with_reducible apply Blk.set4 | with_reducible apply Blk.set_ | (with_reducible apply Blk.far4 (hne := ?side); case side => (first | omega | (simp; omega) | (simp; done))) | (with_reducible apply Blk.far (hp := ?side); case side => (first | omega | (simp; omega) | (simp; done))) | with_reducible apply Blk.alloc))); (case e => (first | with_reducible rfl | (simp; done) | rfl))), by (apply Blk.as; (case h => (repeat (first | with_reducible exact hZ | with_reducible apply Blk.drew | with_reducible apply Blk.set4 | with_reducible apply Blk.set_ | (with_reducible apply Blk.far4 (hne := ?side); case side => (first | omega | (simp; omega) | (simp; done))) | (with_reducible apply Blk.far (hp := ?side); case side => (first | omega | (simp; omega) | (simp; done))) | with_reducible apply Blk.alloc))); (case e => (first | with_reducible rfl | (simp; done) | rfl))), by (apply Blk.as; (case h => (repeat (first | with_reducible exact hF | with_reducible apply Blk.drew | with_reducible apply Blk.set4 | with_reducible apply Blk.set_ | (with_reducible apply Blk.far4 (hne := ?side); case side => (first | omega | (simp; omega) | (simp; done))) | (with_reducible apply Blk.far (hp := ?side); case side => (first | omega | (simp; omega) | (simp; done))) | with_reducible apply Blk.alloc))); (case e => (first | with_reducible rfl | (simp; done) | rfl))), by (apply Blk.as; (case h => (repeat (first | with_reducible exact hT | with_reducible apply Blk.drew | with_reducible apply Blk.set4 | with_reducible apply Blk.set_ | (with_reducible apply Blk.far4 (hne := ?side); case side => (first | omega | (simp; omega) | (simp; done))) | (with_reducible apply Blk.far (hp := ?side); case side => (first | omega | (simp; omega) | (simp; done))) | with_reducible apply Blk.alloc))); (case e => (first | with_reducible rfl | (simp; done) | rfl))), ?_, ?_, ?_, by first | exact hM1 | (simp; omega), by (repeat (first | with_reducible exact hb | with_reducible refine Below.drew ?_ | (with_reducible refine Below.set4 ?_ ?side _ _ _ _; case side => (first | omega | (simp; omega) | (simp; done))) | (with_reducible refine Below.setCell ?_ ?side _; case side => (first | omega | (simp; omega) | (simp; done))) | (with_reducible refine Below.alloc ?_ ?side _; case side => (first | omega | (simp; omega) | (simp; done)))))⟩ ?_
      · (repeat (first | with_reducible exact HO.out | (with_reducible refine OwnX.set_below ?_ ?side _; case side => (first | omega | (simp; omega)))))
      · (repeat (first | with_reducible exact HOB.out | (with_reducible refine OwnX.set_below ?_ ?side _; case side => (first | omega | (simp; omega)))))
      · (repeat (first | with_reducible exact HOC.out | (with_reducible refine OwnX.set_below ?_ ?side _; case side => (first | omega | (simp; omega)))))
      clear FS hS hL hZ hF hT hb HO HOB HOC hM1
      rintro w6 ⟨hS, hL, hZ, hF, hT, hO, hOB, hOC, hM1, hb⟩
      have FS := hS.facts5
      have FT : w6.cell? ⟨w2.heap.size + 1, 0, none⟩ = some (.int .i64 tp) := by rw [hT.cell]; rfl
      have HO := Lib.hid hO
      have HOB := Lib.hid hOB
      have HOC := Lib.hid hOC
      clear hO hOB hOC
      go_upto_region 23 with (fail)
      refine wp_world (fun w' => Blk w' w.heap.size 26 #[.int .i64 nx, .slice A3 n c3, .int .i64 tp, .slice B3 m d3, .slice C3 k k3] ∧ Blk w' (w.heap.size + 1) 23 #[.slice (some ⟨b, off, none⟩) 1 dL] ∧ Blk w' (w.heap.size + 2) 26 #[.int .i64 0, .slice none 0 0, .int .i64 0, .slice none 0 0, .slice none 0 0] ∧ Blk w' w2.heap.size 78 #[.func (.func 31) #[] #[.pointer (some ⟨w.heap.size + 1, 0, none⟩)]] ∧ Blk w' (w2.heap.size + 1) 3 #[.int .i64 tp] ∧ OwnX pcells 4 w' wr.heap.size 39 A3 c3 ps ∧ OwnX rcells 2 w' M 35 B3 d3 hs ∧ OwnX icells 1 w' M 3 C3 k3 ks ∧ M ≤ w'.heap.size ∧ Below w.heap.size w w')
        ⟨(hS.set_ 2 _).as (by rfl), by (apply Blk.as; (case h => (repeat (first | with_reducible exact hL | with_reducible apply Blk.drew | with_reducible apply Blk.set4 | with_reducible apply Blk.set_ | (with_reducible apply Blk.far4 (hne := ?side); case side => (first | omega | (simp; omega) | (simp; done))) | (with_reducible apply Blk.far (hp := ?side); case side => (first | omega | (simp; omega) | (simp; done))) | with_reducible apply Blk.alloc))); (case e => (first | with_reducible rfl | (simp; done) | rfl))), by (apply Blk.as; (case h => (repeat (first | with_reducible exact hZ | with_reducible apply Blk.drew | with_reducible apply Blk.set4 | with_reducible apply Blk.set_ | (with_reducible apply Blk.far4 (hne := ?side); case side => (first | omega | (simp; omega) | (simp; done))) | (with_reducible apply Blk.far (hp := ?side); case side => (first | omega | (simp; omega) | (simp; done))) | with_reducible apply Blk.alloc))); (case e => (first | with_reducible rfl | (simp; done) | rfl))), by (apply Blk.as; (case h => (repeat (first | with_reducible exact hF | with_reducible apply Blk.drew | with_reducible apply Blk.set4 | with_reducible apply Blk.set_ | (with_reducible apply Blk.far4 (hne := ?side); case side => (first | omega | (simp; omega) | (simp; done))) | (with_reducible apply Blk.far (hp := ?side); case side => (first | omega | (simp; omega) | (simp; done))) | with_reducible apply Blk.alloc))); (case e => (first | with_reducible rfl | (simp; done) | rfl))), by (apply Blk.as; (case h => (repeat (first | with_reducible exact hT | with_reducible apply Blk.drew | with_reducible apply Blk.set4 | with_reducible apply Blk.set_ | (with_reducible apply Blk.far4 (hne := ?side); case side => (first | omega | (simp; omega) | (simp; done))) | (with_reducible apply Blk.far (hp := ?side); case side => (first | omega | (simp; omega) | (simp; done))) | with_reducible apply Blk.alloc))); (case e => (first | with_reducible rfl | (simp; done) | rfl))), ?_, ?_, ?_, by first | exact hM1 | (simp; omega), by (repeat (first | with_reducible exact hb | with_reducible refine Below.drew ?_ | (with_reducible refine Below.set4 ?_ ?side _ _ _ _; case side => (first | omega | (simp; omega) | (simp; done))) | (with_reducible refine Below.setCell ?_ ?side _; case side => (first | omega | (simp; omega) | (simp; done))) | (with_reducible refine Below.alloc ?_ ?side _; case side => (first | omega | (simp; omega) | (simp; done)))))⟩ ?_
      · (repeat (first | with_reducible exact HO.out | (with_reducible refine OwnX.set_below ?_ ?side _; case side => (first | omega | (simp; omega)))))
      · (repeat (first | with_reducible exact HOB.out | (with_reducible refine OwnX.set_below ?_ ?side _; case side => (first | omega | (simp; omega)))))
      · (repeat (first | with_reducible exact HOC.out | (with_reducible refine OwnX.set_below ?_ ?side _; case side => (first | omega | (simp; omega)))))
      clear FS FT hS hL hZ hF hT hb HO HOB HOC hM1
      rintro w7 ⟨hS, hL, hZ, hF, hT, hO, hOB, hOC, hM1, hb⟩
      have FS := hS.facts5
      have hb7 : Below w4.heap.size w4 w4 := Below.refl _ _
      have HRR := Lib.hid (show RdX rcells 2 w7 (some ⟨b, off, none⟩) [(lo, hi)] from RdX.below HR.out hb)
      clear hb7
      have hgt7 := hT.lt
      go_wp2_with fail
      refine (spSplitA w2.heap.size (fun p => inR [(lo, hi)] p.1) A3 n c3 ps HV5.out.hn HV5.out.n24 hc3 hc3m _ hO.rd (fun p w' hb' => spAsk_any p w2.heap.size (w.heap.size + 1) (some ⟨b, off, none⟩) 1 dL [(lo, hi)] rfl hd1 hd2 w' (hF.carry hb') (hL.carry hb') (RdX.below HRR.out hb'))).mono ?_
      rintro e3 w8 ⟨H, nh, ch, N, nr, cr, rfl, hhl, hhc, hhm, hnl, hnc', hnm, hOH, hON, hb8⟩
      have hS := hS.carry hb8
      have hZ := hZ.carry hb8
      have hT := hT.carry hb8
      have hb := hb.trans (hb8.mono hb.size)
      have HOB := Lib.hid (show OwnX rcells 2 w8 M 35 B3 d3 hs from own_carry hOB hb8)
      have HOC := Lib.hid (show OwnX icells 1 w8 M 3 C3 k3 ks from own_carry hOC hb8)
      have HOH := Lib.hid (show OwnX pcells 4 w8 w7.heap.size 39 H ch (heardOf lo hi ps) from hOH)
      have HON := Lib.hid (show OwnX pcells 4 w8 w7.heap.size 39 N cr (restOf lo hi ps) from hON)
      have HHL := Lib.hid (show (heardOf lo hi ps).length = nh from hhl)
      have HNL := Lib.hid (show (restOf lo hi ps).length = nr from hnl)
      have hnr24 : nr ≤ 24 := by
        have h1 := HV5.out.ok.pl
        have h2 : (restOf lo hi ps).length ≤ ps.length := List.length_filter_le _ _
        have h3 := HNL.out
        omega
      have hz8 := hb8.size
      have hgt8 := hT.lt
      clear FS hL hF hO hOB hOC hOH hON hhl hnl hb8
      have FS := hS.facts5
      go_wp2_with fail
      refine (spSplitB (w2.heap.size + 1) (fun p => decide (p.1 ≤ tp - 3)) N nr cr (restOf lo hi ps) HNL.out hnr24 hnc' hnm _ HON.out.rd (fun p w' hb' => spBack_any p (w2.heap.size + 1) tp (by omega) (by omega) w' (hT.carry hb'))).mono ?_
      rintro e4 w9 ⟨T, nt, ct, L2, nl, cl, rfl, htl, htc, htm, hll, hlc, hlm, hOT, hOL, hb9⟩
      have hS := hS.carry hb9
      have hZ := hZ.carry hb9
      have hb := hb.trans (hb9.mono hb.size)
      have HOB := Lib.hid (show OwnX rcells 2 w9 M 35 B3 d3 hs from own_carry HOB.out hb9)
      have HOC := Lib.hid (show OwnX icells 1 w9 M 3 C3 k3 ks from own_carry HOC.out hb9)
      have HOH := Lib.hid (show OwnX pcells 4 w9 w7.heap.size 39 H ch (heardOf lo hi ps) from own_carry HOH.out hb9)
      have HOT := Lib.hid (show OwnX pcells 4 w9 w8.heap.size 39 T ct (lostOf tp (restOf lo hi ps)) from hOT)
      have HOL := Lib.hid (show OwnX pcells 4 w9 w8.heap.size 39 L2 cl (leftOf tp (restOf lo hi ps)) from hOL)
      have HTL := Lib.hid (show (lostOf tp (restOf lo hi ps)).length = nt from htl)
      have HLL := Lib.hid (show (leftOf tp (restOf lo hi ps)).length = nl from hll)
      have hz9 := hb9.size
      clear FS hT hOT hOL htl hll hb9
      have FS := hS.facts5
      go_upto_region 26 with (fail)
      refine wp_world (fun w' => Blk w' w.heap.size 26 #[.int .i64 nx, .slice L2 nl cl, .int .i64 tp, .slice B3 m d3, .slice C3 k k3] ∧ Blk w' (w.heap.size + 2) 26 #[.int .i64 0, .slice none 0 0, .int .i64 0, .slice none 0 0, .slice none 0 0] ∧ OwnX rcells 2 w' M 35 B3 d3 hs ∧ OwnX icells 1 w' M 3 C3 k3 ks ∧ OwnX pcells 4 w' w7.heap.size 39 H ch (heardOf lo hi ps) ∧ OwnX pcells 4 w' w8.heap.size 39 T ct (lostOf tp (restOf lo hi ps)) ∧ OwnX pcells 4 w' w8.heap.size 39 L2 cl (leftOf tp (restOf lo hi ps)) ∧ Below w.heap.size w w')
        ⟨(hS.set_ 1 _).as (by rfl), by (apply Blk.as; (case h => (repeat (first | with_reducible exact hZ | with_reducible apply Blk.drew | with_reducible apply Blk.set4 | with_reducible apply Blk.set_ | (with_reducible apply Blk.far4 (hne := ?side); case side => (first | omega | (simp; omega) | (simp; done))) | (with_reducible apply Blk.far (hp := ?side); case side => (first | omega | (simp; omega) | (simp; done))) | with_reducible apply Blk.alloc))); (case e => (first | with_reducible rfl | (simp; done) | rfl))), ?_, ?_, ?_, ?_, ?_, by (repeat (first | with_reducible exact hb | with_reducible refine Below.drew ?_ | (with_reducible refine Below.set4 ?_ ?side _ _ _ _; case side => (first | omega | (simp; omega) | (simp; done))) | (with_reducible refine Below.setCell ?_ ?side _; case side => (first | omega | (simp; omega) | (simp; done))) | (with_reducible refine Below.alloc ?_ ?side _; case side => (first | omega | (simp; omega) | (simp; done)))))⟩ ?_
      · (repeat (first | with_reducible exact HOB.out | (with_reducible refine OwnX.set_below ?_ ?side _; case side => (first | omega | (simp; omega)))))
      · (repeat (first | with_reducible exact HOC.out | (with_reducible refine OwnX.set_below ?_ ?side _; case side => (first | omega | (simp; omega)))))
      · (repeat (first | with_reducible exact HOH.out | (with_reducible refine OwnX.set_below ?_ ?side _; case side => (first | omega | (simp; omega)))))
      · (repeat (first | with_reducible exact HOT.out | (with_reducible refine OwnX.set_below ?_ ?side _; case side => (first | omega | (simp; omega)))))
      · (repeat (first | with_reducible exact HOL.out | (with_reducible refine OwnX.set_below ?_ ?side _; case side => (first | omega | (simp; omega)))))
      clear FS hS hZ hb HOB HOC HOH HOT HOL
      rintro w10 ⟨hS, hZ, hOB, hOC, hOH, hOT, hOL, hb⟩
      have FS := hS.facts5
      have FZ := hZ.facts5
      have HOB := Lib.hid hOB
      have HOC := Lib.hid hOC
      have HOH := Lib.hid hOH
      have HOT := Lib.hid hOT
      have HOL := Lib.hid hOL
      clear hOB hOC hOH hOT hOL
      have FIN : ∀ wf, OwnX rcells 2 wf M 35 B3 d3 hs → OwnX icells 1 wf M 3 C3 k3 ks → OwnX pcells 4 wf w7.heap.size 39 H ch (heardOf lo hi ps) → OwnX pcells 4 wf w8.heap.size 39 T ct (lostOf tp (restOf lo hi ps)) → OwnX pcells 4 wf w8.heap.size 39 L2 cl (leftOf tp (restOf lo hi ps)) → Below w.heap.size w wf → AckOut nx top lo hi m k ps hs ks w (.returned (.tuple #[.agg #[.int .i64 nx, .slice L2 nl cl, .int .i64 tp, .slice B3 m d3, .slice C3 k k3], .slice H nh ch, .slice T nt ct, .int .i64 0])) wf := fun wf h1 h2 h3 h4 h5 h6 => by
        unfold AckOut
        rw [HTE.out]
        refine ⟨L2, nl, cl, B3, d3, C3, k3, H, nh, ch, T, nt, ct, rfl, fun W hW => ?_, HHL.out, hhc, hhm, HTL.out, htc, htm, h6⟩
        have g1 := ownx_agree (W := W) h1 fun q q1 q2 => hW q (by omega) q2
        have g2 := ownx_agree (W := W) h2 fun q q1 q2 => hW q (by omega) q2
        have g3 := ownx_agree (W := W) h3 fun q q1 q2 => hW q (by omega) q2
        have g4 := ownx_agree (W := W) h4 fun q q1 q2 => hW q (by omega) q2
        have g5 := ownx_agree (W := W) h5 fun q q1 q2 => hW q (by omega) q2
        exact ⟨⟨HLL.out, HV5.out.hm, HV5.out.hk, hlc, hlm, hd3, hd3m, hk3, hk3m, HV5.out.ok.ack lo hi h0 h1_ h2_ HSK.out tp HTP.out _ _, g5.rd, g1.rd, g2.rd⟩, g3.rd, g4.rd⟩
      have HFN := Lib.hid FIN
      clear FIN
      go_wp2_with fail
      refine bodyPost_ret (v := .tuple #[.agg #[.int .i64 nx, .slice L2 nl cl, .int .i64 tp, .slice B3 m d3, .slice C3 k k3], .slice H nh ch, .slice T nt ct, .int .i64 0]) ?_ rfl (HFN.out _ ?_ ?_ ?_ ?_ ?_ ?_)
      · simp [results, Try.results12, go_sem, FZ] <;> first | rfl | omega
      · (repeat (first | with_reducible exact HOB.out | (with_reducible refine OwnX.set_below ?_ ?side _; case side => (first | omega | (simp; omega)))))
      · (repeat (first | with_reducible exact HOC.out | (with_reducible refine OwnX.set_below ?_ ?side _; case side => (first | omega | (simp; omega)))))
      · (repeat (first | with_reducible exact HOH.out | (with_reducible refine OwnX.set_below ?_ ?side _; case side => (first | omega | (simp; omega)))))
      · (repeat (first | with_reducible exact HOT.out | (with_reducible refine OwnX.set_below ?_ ?side _; case side => (first | omega | (simp; omega)))))
      · (repeat (first | with_reducible exact HOL.out | (with_reducible refine OwnX.set_below ?_ ?side _; case side => (first | omega | (simp; omega)))))
      · (repeat (first | with_reducible exact hb | with_reducible refine Below.drew ?_ | (with_reducible refine Below.set4 ?_ ?side _ _ _ _; case side => (first | omega | (simp; omega) | (simp; done))) | (with_reducible refine Below.setCell ?_ ?side _; case side => (first | omega | (simp; omega) | (simp; done))) | (with_reducible refine Below.alloc ?_ ?side _; case side => (first | omega | (simp; omega) | (simp; done)))))
end Go.Proofs.Ytoonohhjcfceeaa
