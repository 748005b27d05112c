/- The contract of space.Hear. -/
import Derived.Test.YtoonohhjcfceeaaSpaceSend
namespace Go.Proofs.Ytoonohhjcfceeaa
open Go.ChangeShapes Go.WideShapes Go.ChangeAt Go.RowKit
set_option linter.unusedVariables false

/-- What Hear does to the ranges, and whether the number is new. -/
def hearR (hs : List Rng) (v : Int) : List Rng × Bool := if hs.length = 6 ∧ v < (hs.getD 0 (0, 0)).1 then (hs, false) else (noteR hs v, !hasB hs v)
structure HInv (hs : List Rng) (top : Int) : Prop where
  good : goodFrom 0 hs
  len : hs.length ≤ 6
  le : ∀ i, memR hs i → i ≤ top
  st : (top = -1 ∧ hs = []) ∨ (0 ≤ top ∧ memR hs top)

theorem note_has {hs : List Rng} (hg : goodFrom 0 hs) (hl : hs.length ≤ 6) (v : Int) (v0 : 0 ≤ v) (vM : v ≤ 4611686018427387903) (hc : ¬ (hs.length = 6 ∧ v < (hs.getD 0 (0, 0)).1)) : memR (noteR hs v) v := by
  have hm : memR (addR hs (v, v) false) v := (addR_mem hg (v, v) (Int.le_refl _) v).2 (.inr ⟨Int.le_refl _, Int.le_refl _⟩)
  unfold noteR
  by_cases h6 : (addR hs (v, v) false).length ≤ 6
  · rw [show (addR hs (v, v) false).length - 6 = 0 by omega, List.drop_zero]; exact hm
  · cases hs with
    | nil => simp [addR] at h6
    | cons x l =>
      have h1 := (addR_len (x :: l) (v, v) false).1
      simp only [List.length_cons] at h1 hl hc
      have hl5 : l.length = 5 := by omega
      have hxv : x.1 ≤ v := by
        rcases Int.lt_or_le v x.1 with h | h
        · exact absurd ⟨by omega, by simpa using h⟩ hc
        · exact h
      rw [show (addR (x :: l) (v, v) false).length - 6 = 1 by omega]
      unfold addR at hm h6 ⊢
      simp only at hm h6 ⊢
      by_cases c1 : x.2 + 1 < v
      · rw [if_pos c1] at hm ⊢
        rcases (memR_cons x _ v).1 hm with h | h
        · omega
        · simpa using h
      · rw [if_neg c1] at h6
        rw [if_neg (show ¬ v + 1 < x.1 by omega)] at h6
        have := (addR_len l (min v x.1, max v x.2) false).1
        omega

theorem hear_inv {hs : List Rng} {top : Int} (h : HInv hs top) (v : Int) (v0 : 0 ≤ v) (vM : v ≤ 4611686018427387903) (R : List Rng × Bool) (hR : hearR hs v = R) :
    HInv R.1 (if top < v then v else top) ∧ (top < v → R.2 = true) ∧ (hearR R.1 v).2 = false := by
  subst hR
  unfold hearR
  by_cases hc : hs.length = 6 ∧ v < (hs.getD 0 (0, 0)).1
  · rw [if_pos hc]
    have hpos : 0 < hs.length := by omega
    have hx : memR hs (hs.getD 0 (0, 0)).1 := by
      have := goodFrom_at h.good (Int.le_refl _) 0 hpos
      refine ⟨hs.getD 0 (0, 0), ?_, Int.le_refl _, this.2.1⟩
      cases hs with
      | nil => simp at hpos
      | cons x l => simp
    have := h.le _ hx
    rw [if_neg (show ¬ top < v by omega)]
    exact ⟨h, fun h => by omega, by simp only; rw [if_pos hc]⟩
  · rw [if_neg hc]
    have hg := addR_good h.good (v, v) v0 (Int.le_refl _) vM
    have hmem := fun i => addR_mem h.good (v, v) (Int.le_refl _) i
    have hh := note_has h.good h.len v v0 vM hc
    have hle : ∀ i, memR (noteR hs v) i → i ≤ (if top < v then v else top) := fun i hi => by
      rcases (hmem i).1 (memR_drop hi) with h1 | h1
      · have := h.le i h1; split <;> omega
      · have : i ≤ v := h1.2; split <;> omega
    refine ⟨⟨goodFrom_drop hg _, noteR_len _ _, hle, .inr ⟨by split <;> omega, ?_⟩⟩, fun ht => ?_, ?_⟩
    · split
      · exact hh
      · rename_i hn
        rcases h.st with ⟨h1, _⟩ | ⟨_, h1⟩
        · omega
        · have ht : memR (addR hs (v, v) false) top := (hmem top).2 (.inl h1)
          have hlen : 0 < (addR hs (v, v) false).length := by
            rcases ht with ⟨x, hx, _⟩
            exact List.length_pos_of_mem hx
          refine memR_drop_top hg _ (by omega) top ht fun i hi => ?_
          rcases (hmem i).1 hi with h2 | h2
          · exact h.le i h2
          · have : i ≤ v := h2.2; omega
    · have : hasB hs v = false := by
        cases hb : hasB hs v with
        | false => rfl
        | true => have := h.le v ((hasB_iff hs v).1 hb); omega
      simp [this]
    · simp only
      split
      · rfl
      · have : hasB (noteR hs v) v = true := (hasB_iff _ _).2 hh
        simp [this]

theorem SpOk.hear {nx : Int} {ps : List Pcl} {top : Int} {hs : List Rng} {ks : List Int} (h : SpOk nx ps top hs ks) (v : Int) (v0 : 0 ≤ v) (vM : v ≤ 4611686018427387903) : SpOk nx ps top (noteR hs v) ks :=
  ⟨h.n0, h.n1, h.t0, h.t1, h.pl, noteR_len _ _, h.kl, goodFrom_drop (addR_good h.hg (v, v) v0 (Int.le_refl _) vM) _, h.pk, h.kk, h.tk⟩
theorem good_set {hs : List Rng} (h : goodFrom 0 hs) : SetOk hs 4611686018427387903 := ⟨h, fun n hn => by
  obtain ⟨x, hx, h1, h2⟩ := hn
  obtain ⟨k, hk, rfl⟩ := List.mem_iff_getElem.1 hx
  have := goodFrom_at h (Int.le_refl _) k hk
  have e : hs.getD k (0, 0) = hs[k] := by simp [List.getD, hk]
  rw [e] at this; omega⟩

/-- What Hear leaves. -/
def HearOut (nx top v : Int) (n k : Nat) (ps : List Pcl) (hs : List Rng) (ks : List Int) (w : World) (e' : Ending) (w' : World) : Prop :=
  ∃ (A' : Option Addr) (c' : Nat) (B' : Option Addr) (m' d' : Nat) (C' : Option Addr) (k' : Nat), e' = .returned (.tuple #[.agg #[.int .i64 nx, .slice A' n c', .int .i64 top, .slice B' m' d', .slice C' k k'], .bool (hearR hs v).2, .int .i64 0]) ∧
    SpKeep w w' (fun W => SpV W nx A' n c' top B' m' d' C' k k' ps (hearR hs v).1 ks) ∧ Below w.heap.size w w'

set_option maxRecDepth 100000 in
set_option maxHeartbeats 8000000 in
theorem spHear_any (nx : Int) (A : Option Addr) (n c : Nat) (top : Int) (B : Option Addr) (m d : Nat) (C : Option Addr) (k e : Nat) (ps : List Pcl) (hs : List Rng) (ks : List Int) (v : Int) (v0 : 0 ≤ v) (vM : v ≤ 4611686018427387903) (w : World) (h : SpV w nx A n c top B m d C k e ps hs ks) :
    Calls Try.prog 16 #[.agg #[.int .i64 nx, .slice A n c, .int .i64 top, .slice B m d, .slice C k e], .int .i64 v] w (HearOut nx top v n k ps hs ks w) := by
  have hm6 := h.m6
  have hmd := h.hmd
  have hdm := h.hdm
  have HV := Lib.hid h
  clear h
  go_enter Try.func16, Try.ntmps16
  go_upto_region 1 with (fail)
  refine wp_world (fun w' => Blk w' w.heap.size 26 #[.int .i64 nx, .slice A n c, .int .i64 top, .slice B m d, .slice C k e] ∧ Blk w' (w.heap.size + 1) 26 #[.int .i64 0, .slice none 0 0, .int .i64 0, .slice none 0 0, .slice none 0 0] ∧ Below w.heap.size w w') ⟨(Blk.new _ _ _).alloc _, Blk.new1 _ _ _ _, ((Below.refl _ _).alloc (Nat.le_refl _) _).alloc (by simp) _⟩ ?_
  rintro w1 ⟨hS, hZ, hb⟩
  have FS := hS.facts5
  have HV1 := Lib.hid (HV.out.below hb)
  go_wp2_with fail
  refine (HV1.out.check).mono ?_
  rintro e1 w2 ⟨rfl, hb2⟩
  have hS := hS.carry hb2
  have hZ := hZ.carry hb2
  have hb := hb.trans (hb2.mono hb.size)
  have HV2 := Lib.hid (HV1.out.below hb2)
  have hgz := hZ.lt
  clear FS HV1 hb2
  have FS := hS.facts5
  have hgs2 : w.heap.size < w2.heap.size := by omega
  by_cases hc : hs.length = 6 ∧ v < (hs.getD 0 (0, 0)).1
  · obtain ⟨h6, hlo⟩ := hc
    have hr : hearR hs v = (hs, false) := if_pos ⟨h6, hlo⟩
    have HR := Lib.hid hr
    obtain rfl : m = 6 := by rw [← HV2.out.hm]; exact h6
    obtain ⟨b, off, rfl, hcell⟩ := HV2.out.rb.rcell (by omega)
    have c0 := (hcell 0 (by omega)).1
    simp only [Nat.zero_mul, Nat.add_zero] at c0
    generalize (hs.getD 0 (0, 0)).1 = lo at *
    have t1 : decide (v < lo) = true := decide_eq_true hlo
    clear hcell hr
    go_wp2_with fail
    refine (HV2.out.fresh).mono ?_
    rintro e2 w3 ⟨A3, c3, B3, d3, C3, k3, M, rfl, ⟨hc3, hc3m⟩, ⟨hd3, hd3m⟩, ⟨hk3, hk3m⟩, hM0, hM1, hAM, hO, hOB, hOC, hb3⟩
    have hS := hS.carry hb3
    have hZ := hZ.carry hb3
    have hb := hb.trans (hb3.mono hb.size)
    clear FS hb3 c0
    have FZ := hZ.facts5
    have HO := Lib.hid hO
    have HOB := Lib.hid hOB
    have HOC := Lib.hid hOC
    have FIN : ∀ wf, OwnX pcells 4 wf w2.heap.size 39 A3 c3 ps → OwnX rcells 2 wf M 35 B3 d3 hs → OwnX icells 1 wf M 3 C3 k3 ks → Below w.heap.size w wf → HearOut nx top v n k ps hs ks w (.returned (.tuple #[.agg #[.int .i64 nx, .slice A3 n c3, .int .i64 top, .slice B3 6 d3, .slice C3 k k3], .bool false, .int .i64 0])) wf := fun wf h1 h2 h3 h4 => by
      unfold HearOut
      rw [HR.out]
      refine ⟨A3, c3, B3, 6, d3, C3, k3, rfl, fun W hW => ?_, h4⟩
      have g1 := ownx_agree (W := W) h1 fun q q1 q2 => hW q (by omega) q2
      have g2 := ownx_agree (W := W) h2 fun q q1 q2 => hW q (by omega) q2
      have g3 := ownx_agree (W := W) h3 fun q q1 q2 => hW q (by omega) q2
      exact ⟨HV2.out.hn, HV2.out.hm, HV2.out.hk, hc3, hc3m, hd3, hd3m, hk3, hk3m, HV2.out.ok, g1.rd, g2.rd, g3.rd⟩
    have HFN := Lib.hid FIN
    clear hO hOB hOC hAM FIN hS
    go_wp2_with fail
    refine bodyPost_ret (v := .tuple #[.agg #[.int .i64 nx, .slice A3 n c3, .int .i64 top, .slice B3 6 d3, .slice C3 k k3], .bool false, .int .i64 0]) ?_ rfl (HFN.out _ ?_ ?_ ?_ ?_)
    · simp [results, Try.results16, go_sem, FZ] <;> first | rfl | omega
    · (repeat (first | with_reducible exact HO.out | (with_reducible refine OwnX.set_below ?_ ?side _; case side => (first | omega | (simp; omega)))))
    · (repeat (first | with_reducible exact HOB.out | (with_reducible refine OwnX.set_below ?_ ?side _; case side => (first | omega | (simp; omega)))))
    · (repeat (first | with_reducible exact HOC.out | (with_reducible refine OwnX.set_below ?_ ?side _; case side => (first | omega | (simp; omega)))))
    · (repeat (first | with_reducible exact hb | with_reducible refine Below.drew ?_ | (with_reducible refine Below.set4 ?_ ?side _ _ _ _; case side => (first | omega | (simp; omega) | (simp; done))) | (with_reducible refine Below.setCell ?_ ?side _; case side => (first | omega | (simp; omega) | (simp; done))) | (with_reducible refine Below.alloc ?_ ?side _; case side => (first | omega | (simp; omega) | (simp; done)))))
  · have hr : hearR hs v = (noteR hs v, !hasB hs v) := if_neg hc
    have HR := Lib.hid hr
    obtain ⟨q, hq⟩ : ∃ q, (noteR hs v).length = q := ⟨_, rfl⟩
    have HQ := Lib.hid hq
    have hq6 : q ≤ 6 := by rw [← hq]; exact noteR_len _ _
    obtain ⟨hb0, hhb⟩ : ∃ hb0, hasB hs v = hb0 := ⟨_, rfl⟩
    have HHB := Lib.hid hhb
    clear hr hq hhb
    have hcase : (((m : Int) == 6) = false) ∨ (m = 6 ∧ ∃ (b off : Nat) (lo : Int), B = some ⟨b, off, none⟩ ∧ w2.cell? ⟨b, off, none⟩ = some (.int .i64 lo) ∧ decide (v < lo) = false) := by
      by_cases h6 : m = 6
      · right
        have hl6 : hs.length = 6 := by rw [HV2.out.hm]; exact h6
        obtain ⟨b, off, hB, hcell⟩ := HV2.out.rb.rcell (by omega)
        have c0 := (hcell 0 (by omega)).1
        simp only [Nat.zero_mul, Nat.add_zero] at c0
        refine ⟨h6, b, off, _, hB, c0, decide_eq_false ?_⟩
        exact fun h => hc ⟨hl6, h⟩
      · left; rw [beq_eq_false_iff_ne]; omega
    clear hc
    rcases hcase with h6b | ⟨rfl, b, off, lo, rfl, c0, t1⟩
    all_goals
      go_upto_region 9 with (fail)
      refine wp_world (fun w' => Blk w' w.heap.size 26 #[.int .i64 nx, .slice A n c, .int .i64 top, .slice _ _ d, .slice C k e] ∧ Blk w' (w.heap.size + 1) 26 #[.int .i64 0, .slice none 0 0, .int .i64 0, .slice none 0 0, .slice none 0 0] ∧ SpV w' nx A n c top _ _ d C k e ps hs ks ∧ Below w.heap.size w w') ⟨hS, hZ, HV2.out, hb⟩ ?_
      clear FS hS hZ hb
      rintro w2' ⟨hS, hZ, hV2', hb⟩
      have HV3 := Lib.hid hV2'
      have hgz2 := hZ.lt
      clear hV2'
      have FS := hS.facts5
      go_wp2_with fail
      refine (HV3.out.fresh).mono ?_
      rintro e2 w3 ⟨A3, c3, B3, d3, C3, k3, M, rfl, ⟨hc3, hc3m⟩, ⟨hd3, hd3m⟩, ⟨hk3, hk3m⟩, hM0, hM1, hAM, hO, hOB, hOC, hb3⟩
      have hS := hS.carry hb3
      have hZ := hZ.carry hb3
      have hb := hb.trans (hb3.mono hb.size)
      have hz3 := hb3.size
      clear FS hb3
      have FS := hS.facts5
      have HO := Lib.hid hO
      have HOB := Lib.hid hOB
      have HOC := Lib.hid hOC
      clear hO hOB hOC hAM
      go_upto_region 10 with (fail)
      refine wp_world (fun w' => Blk w' w.heap.size 26 #[.int .i64 nx, .slice A3 n c3, .int .i64 top, .slice B3 _ d3, .slice C3 k k3] ∧ Blk w' (w.heap.size + 1) 26 #[.int .i64 0, .slice none 0 0, .int .i64 0, .slice none 0 0, .slice none 0 0] ∧ OwnX pcells 4 w' w2'.heap.size 39 A3 c3 ps ∧ OwnX rcells 2 w' M 35 B3 d3 hs ∧ OwnX icells 1 w' M 3 C3 k3 ks ∧ w2'.heap.size ≤ w'.heap.size ∧ Below w.heap.size w w')
        ⟨(((((hS.set_ 0 _).set_ 1 _).set_ 2 _).set_ 3 _).set_ 4 _).as (by rfl), by (apply Blk.as; (case h => (repeat (first | with_reducible exact hZ | with_reducible apply Blk.drew | with_reducible apply Blk.set4 | with_reducible apply Blk.set_ | (with_reducible apply Blk.far4 (hne := ?side); case side => (first | omega | (simp; omega) | (simp; done))) | (with_reducible apply Blk.far (hp := ?side); case side => (first | omega | (simp; omega) | (simp; done))) | with_reducible apply Blk.alloc))); (case e => (first | with_reducible rfl | (simp; done) | rfl))), ?_, ?_, ?_, by first | exact hz3 | (simp; omega), by (repeat (first | with_reducible exact hb | with_reducible refine Below.drew ?_ | (with_reducible refine Below.set4 ?_ ?side _ _ _ _; case side => (first | omega | (simp; omega) | (simp; done))) | (with_reducible refine Below.setCell ?_ ?side _; case side => (first | omega | (simp; omega) | (simp; done))) | (with_reducible refine Below.alloc ?_ ?side _; case side => (first | omega | (simp; omega) | (simp; done)))))⟩ ?_
      · (repeat (first | with_reducible exact HO.out | (with_reducible refine OwnX.set_below ?_ ?side _; case side => (first | omega | (simp; omega)))))
      · (repeat (first | with_reducible exact HOB.out | (with_reducible refine OwnX.set_below ?_ ?side _; case side => (first | omega | (simp; omega)))))
      · (repeat (first | with_reducible exact HOC.out | (with_reducible refine OwnX.set_below ?_ ?side _; case side => (first | omega | (simp; omega)))))
      clear FS hS hZ hb HO HOB HOC hz3
      rintro w4 ⟨hS, hZ, hO, hOB, hOC, hz4, hb⟩
      have FS := hS.facts5
      have HO := Lib.hid hO
      have HOB := Lib.hid hOB
      have HOC := Lib.hid hOC
      clear hO hOB hOC
      have HN := Lib.hid (rNote_own B3 _ d3 hs HV3.out.hm 4611686018427387903 (good_set HV3.out.ok.hg) (by decide) (by decide) hd3 hd3m (by omega) v v0 vM hb0 HHB.out (noteR hs v) q rfl HQ.out w4 HOB.out.rd)
      go_wp2_with fail
      refine HN.out.mono ?_
      rintro e3 w5 ⟨B6, d6, rfl, hq1, hq2, hO6, hb5⟩
      have hS := hS.carry hb5
      have hZ := hZ.carry hb5
      have hb := hb.trans (hb5.mono hb.size)
      have HO := Lib.hid (show OwnX pcells 4 w5 w2'.heap.size 39 A3 c3 ps from own_carry HO.out hb5)
      have HOC := Lib.hid (show OwnX icells 1 w5 M 3 C3 k3 ks from own_carry HOC.out hb5)
      have HO6 := Lib.hid hO6
      clear FS hO6 hb5 HN HOB
      have FS := hS.facts5
      go_upto_region 12 with (fail)
      refine wp_world (fun w' => Blk w' w.heap.size 26 #[.int .i64 nx, .slice A3 n c3, .int .i64 top, .slice B6 q d6, .slice C3 k k3] ∧ Blk w' (w.heap.size + 1) 26 #[.int .i64 0, .slice none 0 0, .int .i64 0, .slice none 0 0, .slice none 0 0] ∧ OwnX pcells 4 w' w2'.heap.size 39 A3 c3 ps ∧ OwnX rcells 2 w' w4.heap.size 35 B6 d6 (noteR hs v) ∧ OwnX icells 1 w' M 3 C3 k3 ks ∧ Below w.heap.size w w')
        ⟨(hS.set_ 3 _).as (by rfl), by (apply Blk.as; (case h => (repeat (first | with_reducible exact hZ | with_reducible apply Blk.drew | with_reducible apply Blk.set4 | with_reducible apply Blk.set_ | (with_reducible apply Blk.far4 (hne := ?side); case side => (first | omega | (simp; omega) | (simp; done))) | (with_reducible apply Blk.far (hp := ?side); case side => (first | omega | (simp; omega) | (simp; done))) | with_reducible apply Blk.alloc))); (case e => (first | with_reducible rfl | (simp; done) | rfl))), ?_, ?_, ?_, by (repeat (first | with_reducible exact hb | with_reducible refine Below.drew ?_ | (with_reducible refine Below.set4 ?_ ?side _ _ _ _; case side => (first | omega | (simp; omega) | (simp; done))) | (with_reducible refine Below.setCell ?_ ?side _; case side => (first | omega | (simp; omega) | (simp; done))) | (with_reducible refine Below.alloc ?_ ?side _; case side => (first | omega | (simp; omega) | (simp; done)))))⟩ ?_
      · (repeat (first | with_reducible exact HO.out | (with_reducible refine OwnX.set_below ?_ ?side _; case side => (first | omega | (simp; omega)))))
      · (repeat (first | with_reducible exact HO6.out | (with_reducible refine OwnX.set_below ?_ ?side _; case side => (first | omega | (simp; omega)))))
      · (repeat (first | with_reducible exact HOC.out | (with_reducible refine OwnX.set_below ?_ ?side _; case side => (first | omega | (simp; omega)))))
      clear FS hS hZ hb HO HO6 HOC
      rintro w7 ⟨hS, hZ, hO, hOB, hOC, hb⟩
      have FS := hS.facts5
      have FZ := hZ.facts5
      have HO := Lib.hid hO
      have HOB := Lib.hid hOB
      have HOC := Lib.hid hOC
      clear hO hOB hOC
      have FIN : ∀ wf, OwnX pcells 4 wf w2'.heap.size 39 A3 c3 ps → OwnX rcells 2 wf w4.heap.size 35 B6 d6 (noteR hs v) → OwnX icells 1 wf M 3 C3 k3 ks → Below w.heap.size w wf → HearOut nx top v n k ps hs ks w (.returned (.tuple #[.agg #[.int .i64 nx, .slice A3 n c3, .int .i64 top, .slice B6 q d6, .slice C3 k k3], .bool (!hb0), .int .i64 0])) wf := fun wf h1 h2 h3 h4 => by
        unfold HearOut
        rw [HR.out, HHB.out]
        refine ⟨A3, c3, B6, q, d6, C3, k3, rfl, fun W hW => ?_, h4⟩
        have g1 := ownx_agree (W := W) h1 fun q q1 q2 => hW q (by omega) q2
        have g2 := ownx_agree (W := W) h2 fun q q1 q2 => hW q (by omega) q2
        have g3 := ownx_agree (W := W) h3 fun q q1 q2 => hW q (by omega) q2
        exact ⟨HV3.out.hn, HQ.out, HV3.out.hk, hc3, hc3m, hq1, hq2, hk3, hk3m, HV3.out.ok.hear v v0 vM, g1.rd, g2.rd, g3.rd⟩
      have HFN := Lib.hid FIN
      clear FIN
      go_wp2_with fail
      refine bodyPost_ret (v := .tuple #[.agg #[.int .i64 nx, .slice A3 n c3, .int .i64 top, .slice B6 q d6, .slice C3 k k3], .bool (!hb0), .int .i64 0]) ?_ rfl (HFN.out _ ?_ ?_ ?_ ?_)
      · simp [results, Try.results16, go_sem, FZ] <;> first | rfl | omega
      · (repeat (first | with_reducible exact HO.out | (with_reducible refine OwnX.set_below ?_ ?side _; case side => (first | omega | (simp; omega)))))
      · (repeat (first | with_reducible exact HOB.out | (with_reducible refine OwnX.set_below ?_ ?side _; case side => (first | omega | (simp; omega)))))
      · (repeat (first | with_reducible exact HOC.out | (with_reducible refine OwnX.set_below ?_ ?side _; case side => (first | omega | (simp; omega)))))
      · (repeat (first | with_reducible exact hb | with_reducible refine Below.drew ?_ | (with_reducible refine Below.set4 ?_ ?side _ _ _ _; case side => (first | omega | (simp; omega) | (simp; done))) | (with_reducible refine Below.setCell ?_ ?side _; case side => (first | omega | (simp; omega) | (simp; done))) | (with_reducible refine Below.alloc ?_ ?side _; case side => (first | omega | (simp; omega) | (simp; done)))))
end Go.Proofs.Ytoonohhjcfceeaa
