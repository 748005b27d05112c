/- The contract of gather.Widen. -/
import Derived.Test.YtolhlgalhhdkmabPutWalk
import Derived.Test.YtolhlgalhhdkmabGathPlain
namespace Go.Proofs.Ytolhlgalhhdkmab
open Go.ChangeShapes Go.WideShapes Go.ChangeAt Go.RowKit
set_option linter.unusedVariables false

theorem Gap.srt {d : Int} {l : List Pc} (h : Gap d l) : Srt d l := by
  induction h with
  | nil => exact Srt.nil
  | snoc h1 h2 h3 h4 ih => exact ih.snoc h2 h4
theorem Gap.pos {d : Int} {l : List Pc} (h : Gap d l) (h0 : 0 ≤ d) : ∀ q ∈ l, 0 ≤ q.1 ∧ 0 < q.2.length ∧ q.1 ≤ lastE d l := by
  induction h with
  | nil => exact fun q hq => absurd hq List.not_mem_nil
  | @snoc l p h1 h2 h3 h4 ih =>
    intro q hq
    rw [lastE_snoc]
    have := h1.last
    rcases List.mem_append.1 hq with hq | hq
    · have := ih q hq; omega
    · obtain rfl := List.mem_singleton.1 hq; omega
/-- What is held, in memory, and may be. -/
structure GV (w : World) (win : Int) (A : Option Addr) (n c : Nat) (ps : List PD) : Prop where
  len : ps.length = n
  cap : n ≤ c
  max : c ≤ 9223372036854775807
  four : n ≤ 4
  gap : Gap 0 (ps.map PD.pl)
  last : lastE 0 (ps.map PD.pl) ≤ win
  rd : RdP w A ps
section
variable {w w' : World} {win : Int} {A : Option Addr} {n c : Nat} {ps : List PD}
theorem GV.below (h : GV w win A n c ps) (hb : Below w.heap.size w w') : GV w' win A n c ps := ⟨h.len, h.cap, h.max, h.four, h.gap, h.last, h.rd.below hb⟩
theorem GV.nil (w : World) (win : Int) (h : 0 ≤ win) : GV w win none 0 0 [] := ⟨rfl, Nat.le_refl _, by decide, by decide, Gap.nil, h, RdP.nil _ _⟩
theorem GV.wide (h : GV w win A n c ps) {win' : Int} (hw : win ≤ win') : GV w win' A n c ps := ⟨h.len, h.cap, h.max, h.four, h.gap, Int.le_trans h.last hw, h.rd⟩
theorem GV.held (h : GV w win A n c ps) (hw : win ≤ 4611686018427387903) : GHeld 0 (ps.map PD.pl) ∧ endP 0 (ps.map PD.pl) n = lastE 0 (ps.map PD.pl) := by
  have := h.gap.held (Int.le_trans h.last hw)
  rwa [List.length_map, h.len] at this
/-- Check passes it. -/
theorem GV.check (h : GV w win A n c ps) (h0 : 0 ≤ win) (hw : win ≤ 4611686018427387903) : Calls Try.prog 26 #[.agg #[.int .i64 0, .slice A n c, .int .i64 (-1), .int .i64 win]] w fun e w' => e = .returned (.int .i64 0) ∧ Below w.heap.size w w' := by
  obtain ⟨h1, h2⟩ := h.held hw
  exact gCheck_any 0 (-1) win A n c ps h.len h.cap h.max h.four (Int.le_refl _) (by decide) h0 hw h1 (by rw [h2]; exact h.last) (fun h => absurd h (by decide)) w h.rd
end

set_option maxRecDepth 100000 in
set_option maxHeartbeats 2000000 in
theorem gWiden_ok (win x : Int) (A : Option Addr) (n c : Nat) (ps : List PD) (h0 : 0 ≤ win) (hwx : win < x) (hw2 : win ≤ 10000) (hx : x ≤ 4611686018427387903) (w : World) (h : GV w win A n c ps) :
    Calls Try.prog 29 #[.agg #[.int .i64 0, .slice A n c, .int .i64 (-1), .int .i64 win], .int .i64 x] w fun e w' => ∃ (A' : Option Addr) (m c' : Nat) (o : List PD), e = .returned (.tuple #[.agg #[.int .i64 0, .slice A' m c', .int .i64 (-1), .int .i64 x], .int .i64 0]) ∧ GV w' x A' m c' o ∧ OwnX pdc 2 w' w.heap.size 68 A' c' o ∧ PDs w' w.heap.size (A'.map (fun y : Addr => y.block)) o ∧ Below w.heap.size w w' := by
  have HV := Lib.hid h
  clear h
  go_enter Try.func29, Try.ntmps29
  go_upto_region 1 with (fail)
  refine wp_world (fun w' => Blk w' w.heap.size 47 #[.int .i64 0, .slice A n c, .int .i64 (-1), .int .i64 win] ∧ Blk w' (w.heap.size + 1) 47 #[.int .i64 0, .slice none 0 0, .int .i64 0, .int .i64 0] ∧ Below w.heap.size w w')
    ⟨(Blk.new _ _ _).alloc _, Blk.new1 _ _ _ _, ((Below.refl _ _).alloc (Nat.le_refl _) _).alloc (by simp) _⟩ ?_
  rintro w1 ⟨hG, hZ, hb⟩
  have FG := hG.facts4
  have HV1 := Lib.hid (HV.out.below hb)
  clear HV
  go_wp2_with fail
  refine (HV1.out.check h0 (by omega)).mono ?_
  rintro e w2 ⟨rfl, hb2⟩
  have hG := hG.carry hb2
  have hZ := hZ.carry hb2
  have hzz := hZ.lt
  have hb := hb.trans (hb2.mono hb.size)
  have hw2s : w.heap.size ≤ w2.heap.size := hb.size
  have HV2 := Lib.hid (HV1.out.below hb2)
  clear FG HV1 hb2
  have FG := hG.facts4
  have hbig : psz (ps.map PD.pl) ≤ 1000000 := by
    have h1 := HV2.out.gap.len_le 10000 (Int.le_refl _) (Int.le_trans HV2.out.last (by omega))
    have h2 : ∀ (l : List Pc), (∀ q ∈ l, q.2.length ≤ 10000) → psz l ≤ 10000 * l.length := fun l => by
      induction l with
      | nil => intro _; simp [psz]
      | cons q l ih =>
        intro h
        have h3 := ih fun y hy => h y (List.mem_cons_of_mem _ hy)
        have h4 := h q List.mem_cons_self
        have e : psz (q :: l) = q.2.length + psz l := by simp [psz]
        rw [e, List.length_cons]; omega
    have h5 := h2 _ h1
    rw [List.length_map, HV2.out.len] at h5
    have := HV2.out.four
    omega
  have hpo := HV2.out.gap.pos (Int.le_refl _)
  have hM := gMerged_any A n c ps HV2.out.len HV2.out.cap HV2.out.max (by have := HV2.out.four; omega) (fun y hy => by
    have := hpo y.pl (List.mem_map_of_mem hy)
    have h3 := HV2.out.last
    exact ⟨this.1, by have h4 := this.2.2; show y.off ≤ _; have h5 : y.pl.1 = y.off := rfl; omega⟩) hbig (fun y hy => (hpo y.pl (List.mem_map_of_mem hy)).2.1) w2 HV2.out.rd
  have HM := Lib.hid hM
  clear hM hbig hpo
  go_wp2_with fail
  refine HM.out.mono ?_
  rintro e w3 ⟨A3, m3, c3, o3, rfl, ho3, hm3, hmc3, hcm3, hO3, hP3, hmap3, hb3⟩
  have hG := hG.carry hb3
  have hZ := hZ.carry hb3
  have hb := hb.trans (hb3.mono hb.size)
  have hlt2 := hZ.lt
  clear FG HM
  have FG := hG.facts4
  have HO3 := Lib.hid hO3
  have HP3 := Lib.hid hP3
  have hmx : (if win < x then x else win) = x := if_pos hwx
  have hmx2 : (if x < win then win else x) = x := if_neg (by omega)
  clear hO3 hP3 hb3
  go_upto_region 8 with (fail)
  refine wp_world (fun w' => Blk w' w.heap.size 47 #[.int .i64 0, .slice A3 m3 c3, .int .i64 (-1), .int .i64 x] ∧ Blk w' (w.heap.size + 1) 47 #[.int .i64 0, .slice none 0 0, .int .i64 0, .int .i64 0] ∧ OwnX pdc 2 w' w2.heap.size 68 A3 c3 o3 ∧ PDs w' w2.heap.size (A3.map (fun y : Addr => y.block)) o3 ∧ Below w.heap.size w w')
    ⟨by (apply Blk.as; (case h => (repeat (first | with_reducible exact hG | with_reducible apply Blk.drew | with_reducible apply Blk.set4 | with_reducible apply Blk.set_ | (with_reducible apply Blk.far4 (hne := ?side); case side => (first | omega | (simp; omega) | (simp; done))) | (with_reducible apply Blk.far (hp := ?side); case side => (first | omega | (simp; omega) | (simp; done))) | with_reducible apply Blk.alloc))); (case e => (first | with_reducible rfl | (simp; done) | rfl))), by (apply Blk.as; (case h => (repeat (first | with_reducible exact hZ | with_reducible apply Blk.drew | with_reducible apply Blk.set4 | with_reducible apply Blk.set_ | (with_reducible apply Blk.far4 (hne := ?side); case side => (first | omega | (simp; omega) | (simp; done))) | (with_reducible apply Blk.far (hp := ?side); case side => (first | omega | (simp; omega) | (simp; done))) | with_reducible apply Blk.alloc))); (case e => (first | with_reducible rfl | (simp; done) | rfl))), (HO3.out.set_below (by simp; omega) _).set_below (by simp; omega) _, (HP3.out.setBelow (by simp; omega) _).setBelow (by simp; omega) _, by (repeat (first | with_reducible exact hb | with_reducible refine Below.drew ?_ | (with_reducible refine Below.set4 ?_ ?side _ _ _ _; case side => (first | omega | (simp; omega) | (simp; done))) | (with_reducible refine Below.setCell ?_ ?side _; case side => (first | omega | (simp; omega) | (simp; done))) | (with_reducible refine Below.alloc ?_ ?side _; case side => (first | omega | (simp; omega) | (simp; done)))))⟩ ?_
  clear FG hG hZ hb HO3 HP3
  rintro w4 ⟨hG, hZ, hO4, hP4, hb⟩
  have FG := hG.facts4
  have FZ := hZ.facts4
  have HO4 := Lib.hid hO4
  have HP4 := Lib.hid hP4
  clear hO4 hP4
  have HGP := Lib.hid (HV2.out.gap.srt.merge)
  have FIN : ∀ wf, OwnX pdc 2 wf w2.heap.size 68 A3 c3 o3 → PDs wf w2.heap.size (A3.map (fun y : Addr => y.block)) o3 → GV wf x A3 m3 c3 o3 ∧ OwnX pdc 2 wf w.heap.size 68 A3 c3 o3 ∧ PDs wf w.heap.size (A3.map (fun y : Addr => y.block)) o3 := fun wf hO hP =>
    ⟨⟨ho3, hmc3, hcm3, by have := HV2.out.four; omega, by rw [hmap3]; exact HGP.out.1, by rw [hmap3, HGP.out.2]; exact Int.le_trans HV2.out.last (by omega), RdP.of_own hO hP⟩, hO.mono hw2s, hP.lower hw2s⟩
  have HF := Lib.hid FIN
  clear FIN
  go_wp2_with fail
  refine bodyPost_ret (v := .tuple #[.agg #[.int .i64 0, .slice A3 m3 c3, .int .i64 (-1), .int .i64 x], .int .i64 0]) ?_ rfl ⟨A3, m3, c3, o3, rfl, (fun hO hP hB => ⟨(HF.out _ hO hP).1, (HF.out _ hO hP).2.1, (HF.out _ hO hP).2.2, hB⟩) ?_ ?_ ?_⟩
  · simp [results, Try.results29, go_sem, FZ] <;> rfl
  · have hO := HO4.out
    (repeat (first | with_reducible exact hO | (with_reducible refine OwnX.set_below ?_ ?side _; case side => (simp; omega))))
  · have hP := HP4.out
    (repeat (first | with_reducible exact hP | (with_reducible refine PDs.setBelow ?_ ?side _; case side => (simp; omega))))
  · (repeat (first | with_reducible exact hb | with_reducible refine Below.drew ?_ | (with_reducible refine Below.set4 ?_ ?side _ _ _ _; case side => (first | omega | (simp; omega) | (simp; done))) | (with_reducible refine Below.setCell ?_ ?side _; case side => (first | omega | (simp; omega) | (simp; done))) | (with_reducible refine Below.alloc ?_ ?side _; case side => (first | omega | (simp; omega) | (simp; done)))))
end Go.Proofs.Ytolhlgalhhdkmab
