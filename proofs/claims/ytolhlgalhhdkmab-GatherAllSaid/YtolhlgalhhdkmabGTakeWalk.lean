/- The contract of gather.Take. -/
import Derived.Test.YtolhlgalhhdkmabGathW
namespace Go.Proofs.Ytolhlgalhhdkmab
open Go.ChangeShapes Go.WideShapes Go.ChangeAt Go.RowKit
set_option linter.unusedVariables false

theorem RdP.tail {w : World} {b off c : Nat} {x : PD} {l : List PD} (h : RdP w (some ⟨b, off, none⟩) (x :: l)) (hc : (x :: l).length ≤ c) : RdP w (if c = 1 then some ⟨b, off, none⟩ else some ⟨b, off + 2, none⟩) l := by
  have h1 := RdX.cut (k := 1) (cap := c) pdc_len h.1 (by simp) hc
  refine ⟨?_, fun y hy => h.2 y (List.mem_cons_of_mem _ hy)⟩
  have e : (some (⟨b, off, none⟩ : Addr)).map (fun a : Addr => a.add (1 * 2)) = some ⟨b, off + 2, none⟩ := by simp [add_none]
  rw [e] at h1
  exact h1

theorem OwnX.drewN {α : Type} {f : α → List Value} {m : Nat} {w : World} {base : Nat} {E : TypeId} {A : Option Addr} {c : Nat} {xs : List α} (h : OwnX f m w base E A c xs) (k : Nat) : OwnX f m (w.drewN k) base E A c xs := h
theorem PDs.drewN {w : World} {base : Nat} {bo : Option Nat} {l : List PD} (h : PDs w base bo l) (k : Nat) : PDs (w.drewN k) base bo l := h
theorem Below.drewN {B : Nat} {a w : World} (h : Below B a w) (k : Nat) : Below B a (w.drewN k) := ⟨h.os, h.tape, h.output, h.size, h.block⟩
theorem OwnX.drew1 {α : Type} {f : α → List Value} {m : Nat} {w : World} {base : Nat} {E : TypeId} {A : Option Addr} {c : Nat} {xs : List α} (h : OwnX f m w base E A c xs) : OwnX f m w.drew base E A c xs := h
theorem PDs.drew1 {w : World} {base : Nat} {bo : Option Nat} {l : List PD} (h : PDs w base bo l) : PDs w.drew base bo l := h
theorem own_agree {w0 W : World} {base : Nat} {e : TypeId} {size n : Nat} {v : Value} {xs : List Value} (h : w0.ownsRow base e size v n xs) (hb : ∀ k, base ≤ k → k < w0.heap.size → W.heap[k]? = w0.heap[k]?) : W.ownsRow base e size v n xs := by
  refine ⟨h.1, ?_⟩
  rcases h.2 with h2 | ⟨g, cap, cur, hv, hg, hh, r⟩
  · exact .inl h2
  · exact .inr ⟨g, cap, cur, hv, hg, (hb g hg (Array.getElem?_eq_some_iff.1 hh).1).trans hh, r⟩
theorem PDs.agree {w0 W : World} {base : Nat} {bo : Option Nat} {l : List PD} (h : PDs w0 base bo l) (hb : ∀ k, base ≤ k → k < w0.heap.size → W.heap[k]? = w0.heap[k]?) : PDs W base bo l :=
  ⟨fun x hx => ⟨own_agree (h.1 x hx).1 hb, (h.1 x hx).2⟩, h.2⟩
theorem rdp_agree {w0 W : World} {base : Nat} {A : Option Addr} {c : Nat} {bo : Option Nat} {l : List PD} (h1 : OwnX pdc 2 w0 base 68 A c l) (h2 : PDs w0 base bo l) (hb : ∀ k, base ≤ k → k < w0.heap.size → W.heap[k]? = w0.heap[k]?) : RdP W A l :=
  RdP.of_own (own_agree h1 hb : OwnX pdc 2 W base 68 A c l) (h2.agree hb)
theorem GW.lensQ {w : World} {d f win : Int} {A : Option Addr} {n c : Nat} {ps : List PD} (h : GW w d f win A n c ps) : ∀ q ∈ ps.map PD.pl, q.2.length ≤ 10000 := h.gap.len_le 10000 h.d0 (Int.le_trans h.last h.wb)

/-- What Take leaves. -/
def TakeOut (d f win : Int) (qs : List Pc) (n : Nat) (w : World) (e : Ending) (w' : World) : Prop :=
  ∃ (d' : Int) (A' : Option Addr) (m c' : Nat) (D : Option Addr) (dn dc : Nat) (o : List PD) (bs : List UInt8), e = .returned (.tuple #[.agg #[.int .i64 d', .slice A' m c', .int .i64 f, .int .i64 win], .slice D dn dc, .bool (d' == f), .int .i64 0]) ∧ d' = d + (dn : Int) ∧ bs.length = dn ∧ dn ≤ dc ∧ dc ≤ 9223372036854775807 ∧ RdB w' D bs ∧ GW w' d' f win A' m c' o ∧ (∀ W : World, (∀ k, w.heap.size ≤ k → k < w'.heap.size → W.heap[k]? = w'.heap[k]?) → RdP W A' o) ∧
      ((bs = [] ∧ o.map PD.pl = qs ∧ ∀ x l, qs = x :: l → x.1 ≠ d) ∨ qs = (d, bs) :: o.map PD.pl) ∧ Below w.heap.size w w'

set_option maxRecDepth 100000 in
set_option maxHeartbeats 4000000 in
theorem gTake_gen {w : World} {d f win : Int} {A : Option Addr} {n c : Nat} {ps : List PD} (h : GW w d f win A n c ps) :
    Calls Try.prog 27 #[.agg #[.int .i64 d, .slice A n c, .int .i64 f, .int .i64 win]] w fun e w' => TakeOut d f win (ps.map PD.pl) n w e w' := by
  have HV := Lib.hid h
  clear h
  go_enter Try.func27, Try.ntmps27
  go_upto_region 1 with (fail)
  refine wp_world (fun w' => Blk w' w.heap.size 47 #[.int .i64 d, .slice A n c, .int .i64 f, .int .i64 win] ∧ Blk w' (w.heap.size + 1) 47 #[.int .i64 0, .slice none 0 0, .int .i64 0, .int .i64 0] ∧ Below w.heap.size w w')
    ⟨(Blk.new _ _ _).alloc _, Blk.new1 _ _ _ _, ((Below.refl _ _).alloc (Nat.le_refl _) _).alloc (by simp) _⟩ ?_
  rintro w1 ⟨hG, hZ, hb⟩
  have FG := hG.facts4
  have HV1 := Lib.hid (HV.out.below hb)
  clear HV
  go_wp2_with fail
  refine (HV1.out.check).mono ?_
  rintro e w2 ⟨rfl, hb2⟩
  have hG := hG.carry hb2
  have hZ := hZ.carry hb2
  have hzz := hZ.lt
  have hb := hb.trans (hb2.mono hb.size)
  have HV2 := Lib.hid (HV1.out.below hb2)
  clear FG HV1 hb2
  have FG := hG.facts4
  have hbig : psz (ps.map PD.pl) ≤ 1000000 := by
    have h1 := HV2.out.lens
    have h2 : ∀ (l : List PD), (∀ q ∈ l, q.data.length ≤ 10000) → psz (l.map PD.pl) ≤ 10000 * l.length := fun l => by
      induction l with
      | nil => intro _; simp [psz]
      | cons q l ih =>
        intro h
        have h3 := ih fun y hy => h y (List.mem_cons_of_mem _ hy)
        have h4 := h q List.mem_cons_self
        have e : psz ((q :: l).map PD.pl) = q.data.length + psz (l.map PD.pl) := by simp [psz, PD.pl]
        rw [e, List.length_cons]; omega
    have h5 := h2 _ h1
    rw [HV2.out.len] at h5
    have := HV2.out.four
    omega
  have hpo := HV2.out.gap.pos HV2.out.d0
  have hM := gMerged_any A n c ps HV2.out.len HV2.out.cap HV2.out.max (by have := HV2.out.four; omega) (fun y hy => by
    have := hpo y.pl (List.mem_map_of_mem hy)
    have h3 := HV2.out.last
    have h6 := HV2.out.wb
    exact ⟨this.1, by have h4 := this.2.2; show y.off ≤ _; have h5 : y.pl.1 = y.off := rfl; omega⟩) hbig (fun y hy => (hpo y.pl (List.mem_map_of_mem hy)).2.1) w2 HV2.out.rd
  have HM := Lib.hid hM
  clear hM hbig hpo
  go_wp2_with fail
  refine HM.out.mono ?_
  rintro e w3 ⟨A3, m3, c3, o3, rfl, ho3, hm3, hmc3, hcm3, hO3, hP3, hmap3, hb3⟩
  rw [HV2.out.gap.merge] at hmap3
  have hG := hG.carry hb3
  have hZ := hZ.carry hb3
  have hb := hb.trans (hb3.mono hb.size)
  have hlt2 := hZ.lt
  have hw2s : w.heap.size + 1 < w2.heap.size := hzz
  clear FG HM
  have FG := hG.facts4
  have HO3 := Lib.hid hO3
  have HP3 := Lib.hid hP3
  clear hO3 hP3 hb3
  go_upto_region 6 with (fail)
  refine wp_world (fun w' => Blk w' w.heap.size 47 #[.int .i64 d, .slice A3 m3 c3, .int .i64 f, .int .i64 win] ∧ Blk w' (w.heap.size + 1) 47 #[.int .i64 0, .slice none 0 0, .int .i64 0, .int .i64 0] ∧ OwnX pdc 2 w' w2.heap.size 68 A3 c3 o3 ∧ PDs w' w2.heap.size (A3.map (fun y : Addr => y.block)) o3 ∧ Below w.heap.size w w')
    ⟨by (apply Blk.as; (case h => (repeat (first | with_reducible exact hG | with_reducible apply Blk.drew | with_reducible apply Blk.set4 | with_reducible apply Blk.set_ | (with_reducible apply Blk.far4 (hne := ?side); case side => (first | omega | (simp; omega) | (simp; done))) | (with_reducible apply Blk.far (hp := ?side); case side => (first | omega | (simp; omega) | (simp; done))) | with_reducible apply Blk.alloc))); (case e => (first | with_reducible rfl | (simp; done) | rfl))), by (apply Blk.as; (case h => (repeat (first | with_reducible exact hZ | with_reducible apply Blk.drew | with_reducible apply Blk.set4 | with_reducible apply Blk.set_ | (with_reducible apply Blk.far4 (hne := ?side); case side => (first | omega | (simp; omega) | (simp; done))) | (with_reducible apply Blk.far (hp := ?side); case side => (first | omega | (simp; omega) | (simp; done))) | with_reducible apply Blk.alloc))); (case e => (first | with_reducible rfl | (simp; done) | rfl))), HO3.out.set_below (by simp; omega) _, HP3.out.setBelow (by simp; omega) _, by (repeat (first | with_reducible exact hb | with_reducible refine Below.drew ?_ | (with_reducible refine Below.set4 ?_ ?side _ _ _ _; case side => (first | omega | (simp; omega) | (simp; done))) | (with_reducible refine Below.setCell ?_ ?side _; case side => (first | omega | (simp; omega) | (simp; done))) | (with_reducible refine Below.alloc ?_ ?side _; case side => (first | omega | (simp; omega) | (simp; done)))))⟩ ?_
  clear FG hG hZ hb HO3 HP3
  rintro w4 ⟨hG, hZ, hO4, hP4, hb⟩
  have FG := hG.facts4
  have hd0 := HV2.out.d0
  have hdw := HV2.out.dw
  have hwb := HV2.out.wb
  have FIN : ∀ wf (d' : Int) (A' : Option Addr) (m c' : Nat) (o : List PD), o.length = m → m ≤ c' → c' ≤ 9223372036854775807 → m ≤ n → 0 ≤ d' → Gap d' (o.map PD.pl) → lastE d' (o.map PD.pl) = lastE d (ps.map PD.pl) → RdP wf A' o → GW wf d' f win A' m c' o := fun wf d' A' m c' o k1 k2 k3 k4 k5 k6 k7 k8 =>
    ⟨k1, k2, k3, Nat.le_trans k4 HV2.out.four, k6, by rw [k7]; exact HV2.out.last, by rw [k7]; exact HV2.out.fin, k5, HV2.out.f0, HV2.out.wb, k8⟩
  have HF := Lib.hid FIN
  have HQ := Lib.hid hmap3
  have HGAP := Lib.hid HV2.out.gap
  have HLEN := Lib.hid HV2.out.lensQ
  have HZ := Lib.hid hZ
  have HG := Lib.hid hG
  have HB := Lib.hid hb
  have HO4 := Lib.hid hO4
  have HP4 := Lib.hid hP4
  clear FIN hmap3 HV2 hG hZ hb hO4 hP4
  by_cases hx : ∃ x l, o3 = x :: l ∧ x.off = d
  · obtain ⟨⟨xo, xD, xc, xd⟩, l, rfl, hxd⟩ := hx
    simp only at hxd
    subst xo
    obtain ⟨b, off, hA3, hcell⟩ := (RdP.of_own HO4.out HP4.out).at_ (by simp)
    subst hA3
    obtain ⟨c0, c1⟩ := hcell 0 (by simp)
    simp only [Nat.zero_mul, Nat.add_zero, List.getD_cons_zero] at c0 c1
    have hbb : w2.heap.size ≤ b := (own_block_lt HO4.out b rfl).1
    clear hcell
    have HRX := Lib.hid (show ∀ wf, RdP wf (some ⟨b, off, none⟩) (⟨d, xD, xc, xd⟩ :: l) → RdB wf xD xd from fun wf h => (h.2 _ List.mem_cons_self).1)
    obtain ⟨hxc, hxm⟩ : xd.length ≤ xc ∧ xc ≤ 9223372036854775807 := ((RdP.of_own HO4.out HP4.out).2 _ List.mem_cons_self).2
    have hxl : xd.length ≤ 10000 := HLEN.out (d, xd) (by rw [← HQ.out]; exact List.mem_cons_self)
    have HGT := Lib.hid (Gap.tail (d := d) (x := (d, xd)) (l := l.map PD.pl) (by have := HGAP.out; rw [← HQ.out] at this; exact this))
    obtain ⟨dn, hdn⟩ : ∃ dn, xd.length = dn := ⟨_, rfl⟩
    have HDN := Lib.hid hdn
    rw [hdn] at c1 hxl hxc
    have HLL : Hid (l.length = m3 - 1) := by show _ = _; rw [← ho3]; simp
    have hm3p : 0 < m3 := by rw [← ho3]; simp
    have hm3b : decide ((0 : Int) < (m3 : Int)) = true := decide_eq_true (by omega)
    have hm3i : (0 : Int) < (m3 : Int) := by omega
    have HO33 := Lib.hid ho3
    clear hdn ho3
    have hbne : b ≠ w.heap.size := by omega
    have h000 : (d == d) = true := by simp
    have hdw1 : d + (dn : Int) ≤ 9223372036854775807 := by omega
    have hdw2 : IntKind.i64.wrap (d + (dn : Int)) = d + (dn : Int) := by rw [IntKind.wrap_i64]; omega
    have hc3p : 1 ≤ c3 := by omega
    go_quiet (fail)
    go_upto_region 7 with (fail)
    refine wp_world (fun w' => Blk w' w.heap.size 47 #[.int .i64 d, .slice (some ⟨b, off, none⟩) m3 c3, .int .i64 f, .int .i64 win] ∧ Blk w' (w.heap.size + 1) 47 #[.int .i64 0, .slice none 0 0, .int .i64 0, .int .i64 0] ∧ w'.cell? ⟨b, off, none⟩ = some (.int .i64 d) ∧ w'.cell? ⟨b, off + 1, none⟩ = some (.slice xD dn xc) ∧ OwnX pdc 2 w' w2.heap.size 68 (some ⟨b, off, none⟩) c3 (⟨d, xD, xc, xd⟩ :: l) ∧ PDs w' w2.heap.size ((some (⟨b, off, none⟩ : Addr)).map (fun y : Addr => y.block)) (⟨d, xD, xc, xd⟩ :: l) ∧ Below w.heap.size w w')
      ⟨HG.out.drewN _, HZ.out.drewN _, c0, c1, HO4.out, HP4.out, ⟨HB.out.os, HB.out.tape, HB.out.output, HB.out.size, HB.out.block⟩⟩ ?_
    clear FG HO4 HP4 HG HZ HB c0 c1
    rintro w7 ⟨hG, hZ, c0, c1, hO4, hP4, hb⟩
    have FG := hG.facts4
    have HO4 := Lib.hid hO4
    have HP4 := Lib.hid hP4
    have HZ := Lib.hid hZ
    have HG := Lib.hid hG
    have HB := Lib.hid hb
    clear hO4 hP4 hZ hG hb
    rcases (show c3 = 1 ∨ ¬ c3 = 1 by omega) with hc31 | hc31
    all_goals
      go_upto_region 10 with (fail)
      refine wp_world (fun w' => ∃ (A6 : Option Addr) (m6 c6 : Nat), Blk w' w.heap.size 47 #[.int .i64 (d + (dn : Int)), .slice A6 m6 c6, .int .i64 f, .int .i64 win] ∧ Blk w' (w.heap.size + 1) 47 #[.int .i64 0, .slice none 0 0, .int .i64 0, .int .i64 0] ∧ A6 = (if c3 = 1 then some ⟨b, off, none⟩ else some ⟨b, off + 2, none⟩) ∧ m6 = m3 - 1 ∧ c6 = c3 - 1 ∧ OwnX pdc 2 w' w2.heap.size 68 (some ⟨b, off, none⟩) c3 (⟨d, xD, xc, xd⟩ :: l) ∧ PDs w' w2.heap.size ((some (⟨b, off, none⟩ : Addr)).map (fun y : Addr => y.block)) (⟨d, xD, xc, xd⟩ :: l) ∧ Below w.heap.size w w') ?_ ?_
      · have hG := HG.out
        have hZ := HZ.out
        have hb := HB.out
        apply Exists.intro
        apply Exists.intro
        apply Exists.intro
        refine ⟨?_, ?_, ?_, ?_, ?_, ?_, ?_, ?_⟩
        · (apply Blk.as; (case h => (repeat (first | with_reducible exact hG | with_reducible apply Blk.drew | with_reducible apply Blk.set4 | with_reducible apply Blk.set_ | (with_reducible apply Blk.far4 (hne := ?side); case side => (first | omega | (simp; omega) | (simp; done))) | (with_reducible apply Blk.far (hp := ?side); case side => (first | omega | (simp; omega) | (simp; done))) | with_reducible apply Blk.alloc))); (case e => (first | with_reducible rfl | (simp; done) | rfl)))
        · (apply Blk.as; (case h => (repeat (first | with_reducible exact hZ | with_reducible apply Blk.drew | with_reducible apply Blk.set4 | with_reducible apply Blk.set_ | (with_reducible apply Blk.far4 (hne := ?side); case side => (first | omega | (simp; omega) | (simp; done))) | (with_reducible apply Blk.far (hp := ?side); case side => (first | omega | (simp; omega) | (simp; done))) | with_reducible apply Blk.alloc))); (case e => (first | with_reducible rfl | (simp; done) | rfl)))
        · first | (rw [if_pos hc31]; done) | (rw [if_neg hc31]; done) | (rw [if_neg hc31]; simp [add_none]; done)
        · first | rfl | omega
        · first | rfl | omega
        · (repeat (first | with_reducible exact HO4.out | (with_reducible refine OwnX.set_below ?_ ?side _; case side => (simp; omega)) | with_reducible refine OwnX.drewN ?_ _ | with_reducible refine OwnX.drew1 ?_))
        · (repeat (first | with_reducible exact HP4.out | (with_reducible refine PDs.setBelow ?_ ?side _; case side => (simp; omega)) | with_reducible refine PDs.drewN ?_ _ | with_reducible refine PDs.drew1 ?_))
        · (repeat (first | with_reducible exact hb | with_reducible refine Below.drew ?_ | (with_reducible refine Below.set4 ?_ ?side _ _ _ _; case side => (first | omega | (simp; omega) | (simp; done))) | (with_reducible refine Below.setCell ?_ ?side _; case side => (first | omega | (simp; omega) | (simp; done))) | (with_reducible refine Below.alloc ?_ ?side _; case side => (first | omega | (simp; omega) | (simp; done)))))
      · rintro w5 ⟨A6, m6, c6, hG, hZ, hA6, rfl, rfl, hO5, hP5, hb⟩
        have FG := hG.facts4
        have FZ := hZ.facts4
        have HO5 := Lib.hid hO5
        have HP5 := Lib.hid hP5
        have HA6 := Lib.hid hA6
        clear hO5 hP5 hA6 HO4 HP4 HZ HG HB
        go_region
        all_goals
          go_wp2_with fail
          have hR : ∀ wf, OwnX pdc 2 wf w2.heap.size 68 (some ⟨b, off, none⟩) c3 (⟨d, xD, xc, xd⟩ :: l) → PDs wf w2.heap.size ((some (⟨b, off, none⟩ : Addr)).map (fun y : Addr => y.block)) (⟨d, xD, xc, xd⟩ :: l) → RdB wf xD xd ∧ GW wf (d + (dn : Int)) f win A6 (m3 - 1) (c3 - 1) l ∧ (∀ W : World, (∀ k, w.heap.size ≤ k → k < wf.heap.size → W.heap[k]? = wf.heap[k]?) → RdP W A6 l) := fun wf hO hP => by
            have hr := RdP.of_own hO hP
            refine ⟨HRX.out wf hr, ?_, fun W hW => by rw [HA6.out]; exact (rdp_agree hO hP fun k k1 k2 => hW k (by omega) k2).tail (by rw [HO33.out]; exact hmc3)⟩
            obtain ⟨t1, t2, _, _⟩ := HGT.out
            simp only [HDN.out] at t1 t2
            refine HF.out wf _ _ _ _ _ HLL.out (by omega) (by omega) (by omega) (by omega) t1 (by rw [t2]; rw [← HQ.out]; rfl) ?_
            rw [HA6.out]
            exact hr.tail (by rw [HO33.out]; exact hmc3)
          refine bodyPost_ret (v := .tuple #[.agg #[.int .i64 (d + (dn : Int)), .slice A6 (m3 - 1) (c3 - 1), .int .i64 f, .int .i64 win], .slice xD dn xc, .bool (d + (dn : Int) == f), .int .i64 0]) ?_ rfl ((fun hO hP hB => ⟨d + (dn : Int), A6, m3 - 1, c3 - 1, xD, dn, xc, l, xd, rfl, rfl, HDN.out, hxc, hxm, (hR _ hO hP).1, (hR _ hO hP).2.1, (hR _ hO hP).2.2, .inr HQ.out.symm, hB⟩) ?_ ?_ ?_)
          · simp [results, Try.results27, go_sem, FZ] <;> first | rfl | omega
          · (repeat (first | with_reducible exact HO5.out | (with_reducible refine OwnX.set_below ?_ ?side _; case side => (simp; omega)) | with_reducible refine OwnX.drewN ?_ _ | with_reducible refine OwnX.drew1 ?_))
          · (repeat (first | with_reducible exact HP5.out | (with_reducible refine PDs.setBelow ?_ ?side _; case side => (simp; omega)) | with_reducible refine PDs.drewN ?_ _ | with_reducible refine PDs.drew1 ?_))
          · (repeat (first | with_reducible exact hb | with_reducible refine Below.drew ?_ | (with_reducible refine Below.set4 ?_ ?side _ _ _ _; case side => (first | omega | (simp; omega) | (simp; done))) | (with_reducible refine Below.setCell ?_ ?side _; case side => (first | omega | (simp; omega) | (simp; done))) | (with_reducible refine Below.alloc ?_ ?side _; case side => (first | omega | (simp; omega) | (simp; done)))))
  · have hq : ∀ x l, ps.map PD.pl = x :: l → x.1 ≠ d := fun x l e hxd => by
      rw [← HQ.out] at e
      cases o3 with
      | nil => simp at e
      | cons y r =>
        rw [List.map_cons] at e
        injection e with e1 e2
        exact hx ⟨y, r, rfl, by rw [← hxd, ← e1]; rfl⟩
    have HQN := Lib.hid hq
    clear hq
    have hR : ∀ wf, OwnX pdc 2 wf w2.heap.size 68 A3 c3 o3 → PDs wf w2.heap.size (A3.map (fun y : Addr => y.block)) o3 → GW wf d f win A3 m3 c3 o3 := fun wf hO hP =>
      HF.out wf _ _ _ _ _ ho3 hmc3 hcm3 hm3 hd0 (by rw [HQ.out]; exact HGAP.out) (by rw [HQ.out]) (RdP.of_own hO hP)
    have HR := Lib.hid hR
    clear hR
    cases o3 with
    | nil =>
      simp only [List.length_nil] at ho3
      subst ho3
      clear hx
      go_quiet (fail)
      have FZ := HZ.out.facts4
      go_upto_region 10 with (fail)
      go_region
      all_goals
        go_wp2_with fail
        refine bodyPost_ret (v := .tuple #[.agg #[.int .i64 d, .slice A3 0 c3, .int .i64 f, .int .i64 win], .slice none 0 0, .bool (d == f), .int .i64 0]) ?_ rfl ((fun hO hP hB => ⟨d, A3, 0, c3, none, 0, 0, [], [], rfl, by simp, rfl, Nat.le_refl _, by decide, Rd.nil, HR.out _ hO hP, (fun W hW => rdp_agree hO hP fun k k1 k2 => hW k (by omega) k2), .inl ⟨rfl, HQ.out, HQN.out⟩, hB⟩) ?_ ?_ ?_)
        · simp [results, Try.results27, go_sem, FZ] <;> first | rfl | omega
        · (repeat (first | with_reducible exact HO4.out | (with_reducible refine OwnX.set_below ?_ ?side _; case side => (simp; omega)) | with_reducible refine OwnX.drewN ?_ _ | with_reducible refine OwnX.drew1 ?_))
        · (repeat (first | with_reducible exact HP4.out | (with_reducible refine PDs.setBelow ?_ ?side _; case side => (simp; omega)) | with_reducible refine PDs.drewN ?_ _ | with_reducible refine PDs.drew1 ?_))
        · have hb := HB.out
          repeat (first | with_reducible exact hb | with_reducible exact Below.drewN hb _ | with_reducible refine Below.drew ?_ | (with_reducible refine Below.set4 ?_ ?side _ _ _ _; case side => (first | omega | (simp; omega))) | (with_reducible refine Below.setCell ?_ ?side _; case side => (first | omega | (simp; omega))))
    | cons y r =>
      obtain ⟨b, off, hA3, hcell⟩ := (RdP.of_own HO4.out HP4.out).at_ (by simp)
      subst hA3
      obtain ⟨c0, _⟩ := hcell 0 (by simp)
      simp only [Nat.zero_mul, Nat.add_zero, List.getD_cons_zero] at c0
      have hyd : y.off ≠ d := fun e => hx ⟨y, r, rfl, e⟩
      have h000 : (y.off == d) = false := by simpa using hyd
      have hm3p : 0 < m3 := by rw [← ho3]; simp
      have hm3b : decide ((0 : Int) < (m3 : Int)) = true := decide_eq_true (by omega)
      have hm3i : (0 : Int) < (m3 : Int) := by omega
      generalize y.off = yo at c0 h000
      clear hcell hx ho3 hyd
      go_quiet (fail)
      have FZ := HZ.out.facts4
      go_upto_region 10 with (fail)
      go_region
      all_goals
        go_wp2_with fail
        refine bodyPost_ret (v := .tuple #[.agg #[.int .i64 d, .slice (some ⟨b, off, none⟩) m3 c3, .int .i64 f, .int .i64 win], .slice none 0 0, .bool (d == f), .int .i64 0]) ?_ rfl ((fun hO hP hB => ⟨d, some ⟨b, off, none⟩, m3, c3, none, 0, 0, y :: r, [], rfl, by simp, rfl, Nat.le_refl _, by decide, Rd.nil, HR.out _ hO hP, (fun W hW => rdp_agree hO hP fun k k1 k2 => hW k (by omega) k2), .inl ⟨rfl, HQ.out, HQN.out⟩, hB⟩) ?_ ?_ ?_)
        · simp [results, Try.results27, go_sem, FZ] <;> first | rfl | omega
        · (repeat (first | with_reducible exact HO4.out | (with_reducible refine OwnX.set_below ?_ ?side _; case side => (simp; omega)) | with_reducible refine OwnX.drewN ?_ _ | with_reducible refine OwnX.drew1 ?_))
        · (repeat (first | with_reducible exact HP4.out | (with_reducible refine PDs.setBelow ?_ ?side _; case side => (simp; omega)) | with_reducible refine PDs.drewN ?_ _ | with_reducible refine PDs.drew1 ?_))
        · have hb := HB.out
          repeat (first | with_reducible exact hb | with_reducible exact Below.drewN hb _ | with_reducible refine Below.drew ?_ | (with_reducible refine Below.set4 ?_ ?side _ _ _ _; case side => (first | omega | (simp; omega))) | (with_reducible refine Below.setCell ?_ ?side _; case side => (first | omega | (simp; omega))))
end Go.Proofs.Ytolhlgalhhdkmab
