/- The contract of gather.merged. -/
import Derived.Test.YtolhlgalhhdkmabPieces
import Derived.Deep.DeepFit
namespace Go.Proofs.Ytolhlgalhhdkmab
open Go.ChangeShapes Go.WideShapes Go.ChangeAt Go.RowKit
set_option linter.unusedVariables false

/-- What a round of merged leaves: the pieces so far. -/
def MRel (w : World) (ps : List PD) (n : Nat) (s3 s9 : Value) (wr : World) : Prop :=
  ∃ (k : Nat) (A : Option Addr) (m c : Nat) (o : List PD), k ≤ n ∧ s9 = .int .i64 k ∧ s3 = .slice A m c ∧ o.length = m ∧ m ≤ k ∧ OwnX pdc 2 wr w.heap.size 68 A c o ∧ PDs wr w.heap.size (A.map (·.block)) o ∧ o.map PD.pl = mergeP ((ps.take k).map PD.pl) ∧ (∀ x ∈ o, 0 ≤ x.off ∧ x.off ≤ 4611686018427387903) ∧ Below w.heap.size w wr

theorem getD_mem {l : List PD} {k : Nat} (h : k < l.length) : l.getD k pdn ∈ l := by
  simp only [List.getD, List.getElem?_eq_getElem h, Option.getD_some]; exact List.getElem_mem _
theorem take_snoc {l : List PD} {k : Nat} (h : k < l.length) : (l.take (k + 1)).map PD.pl = (l.take k).map PD.pl ++ [(l.getD k pdn).pl] := by
  rw [List.take_succ_eq_append_getElem h, List.map_append]
  simp only [List.getD, List.getElem?_eq_getElem h, Option.getD_some, List.map_cons, List.map_nil]

/-- The load of the last piece's bytes, behind a name (so that the walk of the region does not try to take it first). -/
def nearLoad : Oper := { dst := some 44, op := Op.load 43 (Operand.tmp 43), type := 43, pos := "gather.go:44", after := #[{ on := 7, ground := Ground.data }], guard := none }
theorem nearLoad_eq : nearLoad = { dst := some 44, op := Op.load 43 (Operand.tmp 43), type := 43, pos := "gather.go:44", after := #[{ on := 7, ground := Ground.data }], guard := none } := rfl
attribute [local go_sem] nearLoad

theorem rd_pdl (w : World) (x : PD) (l : Nat) (h : x.data.length = l) : Rd (w.alloc (.cells #[.int .i64 x.off, .slice x.D l x.c] 68)) 2 (some ⟨w.heap.size, 0, none⟩) 1 (pdc x) := by
  subst h; exact rd_pd w _ x

set_option maxRecDepth 100000 in
set_option maxHeartbeats 4000000 in
theorem gMerged_any (A : Option Addr) (n c : Nat) (ps : List PD) (hn : ps.length = n) (hnc : n ≤ c) (hcm : c ≤ 9223372036854775807) (hn1 : n ≤ 1000) (hoff : ∀ x ∈ ps, 0 ≤ x.off ∧ x.off ≤ 4611686018427387903) (hsz : psz (ps.map PD.pl) ≤ 1000000) (hne : ∀ x ∈ ps, 0 < x.data.length) (w : World) (h : RdP w A ps) :
    Calls Try.prog 36 #[.slice A n c] w fun e w' => ∃ (A' : Option Addr) (m c' : Nat) (o : List PD), e = .returned (.slice A' m c') ∧ o.length = m ∧ m ≤ n ∧ m ≤ c' ∧ c' ≤ 9223372036854775807 ∧ OwnX pdc 2 w' w.heap.size 68 A' c' o ∧ PDs w' w.heap.size (A'.map (·.block)) o ∧ o.map PD.pl = mergeP (ps.map PD.pl) ∧ Below w.heap.size w w' := by
  have HN := Lib.hid hn
  have HP := Lib.hid h
  have HOFF := Lib.hid hoff
  have HSZ := Lib.hid hsz
  have HNE := Lib.hid hne
  clear hn h hoff hsz hne
  go_enter Try.func36, Try.ntmps36
  go_wp2_with fail
  go_loopw [3, 9] (fun s3 s9 wr => MRel w ps n s3 s9 wr) (fun _ i _ => n - (intOf i).toNat)
  case atStart => exact ⟨0, none, 0, 0, [], Nat.zero_le _, rfl, rfl, rfl, Nat.le_refl _, OwnX.nil _ _ _, PDs.nil _ _ _, rfl, fun x hx => absurd hx List.not_mem_nil, Below.refl _ _⟩
  case round =>
    obtain ⟨k, A1, m, c1, o, hk, rfl, rfl, ho, hmk, hO, hPD, hpl, hofo, hb⟩ := hrel
    have HOFO := Lib.hid hofo
    have HO := Lib.hid hO
    have HPD := Lib.hid hPD
    have HPL := Lib.hid hpl
    have HLEN := Lib.hid ho
    have HB := Lib.hid hb
    clear hO hPD hpl ho hb hofo
    by_cases hlt : k < n
    · obtain ⟨b, off, hA, hcell⟩ := (HP.out.below HB.out).at_ (by rw [HN.out]; omega)
      subst hA
      obtain ⟨c0, c1'⟩ := hcell k (by rw [HN.out]; exact hlt)
      have hmem := getD_mem (l := ps) (k := k) (by rw [HN.out]; exact hlt)
      have HMO := Lib.hid (HOFF.out _ hmem)
      have HSN := Lib.hid (take_snoc (l := ps) (k := k) (by rw [HN.out]; exact hlt))
      have hxr := (HP.out.below HB.out).2 _ hmem
      have hl0 := HNE.out _ hmem
      have hxs : (ps.getD k pdn).data.length ≤ 1000000 := Nat.le_trans (psz_mem _ (ps.getD k pdn).pl (List.mem_map_of_mem hmem)) HSZ.out
      have hk0 : (0 : Int) ≤ (k : Int) := by omega
      have hk1 : (k : Int) < (n : Int) := by omega
      clear hcell hmem
      generalize ps.getD k pdn = p at *
      obtain ⟨po, pD, pc, pd⟩ := p
      obtain ⟨l, hl⟩ : ∃ l, pd.length = l := ⟨_, rfl⟩
      have HL := Lib.hid hl
      have HXR := Lib.hid hxr
      simp only at c0 c1' hxs hl0
      rw [hl] at c1' hxs hl0
      clear hl hxr
      have hmA : ∀ k', A1.map (·.block) = some k' → w.heap.size ≤ k' ∧ k' < wr.heap.size := fun k' hk' => own_block_lt HO.out k' (by rw [own_blk]; exact hk')
      have hTA : some wr.heap.size ≠ A1.map (·.block) := fun e => by have := (hmA _ e.symm).2; omega
      have hmB : ∀ y ∈ o, ∀ k', y.blk = some k' → k' < wr.heap.size := fun y hy k' hk' => ((HPD.out.1 y hy).1.blk_lt k' hk').2
      have HMB := Lib.hid hmB
      clear hmB
      have HMA := Lib.hid hmA
      have HTA := Lib.hid hTA
      clear hmA hTA
      go_upto_region 5 with (fail)
      refine wp_world (fun w' => Blk w' wr.heap.size 68 #[.int .i64 po, .slice pD l pc] ∧ OwnX pdc 2 w' w.heap.size 68 A1 c1 o ∧ PDs w' w.heap.size (A1.map (fun y : Addr => y.block)) o ∧ RdB w' pD pd ∧ Below w.heap.size w w' ∧ Below wr.heap.size wr w')
        ⟨Blk.new _ _ _, HO.out.alloc _, HPD.out.keep ((Below.refl _ _).alloc (Nat.le_refl _) _), Rd.alloc HXR.out.1 _, HB.out.alloc HB.out.size _, (Below.refl _ _).alloc (Nat.le_refl _) _⟩ ?_
      clear c0 c1' HO HPD HB
      rintro w1 ⟨hT, hO, hPD, hD, hb, hb1⟩
      have FT := hT.two
      have hgl := hT.lt
      have HP2 : Hid (∃ B : Bool, B = B) := ⟨true, rfl⟩
      have HO := Lib.hid hO
      have HPD := Lib.hid hPD
      have HD := Lib.hid hD
      have HB := Lib.hid hb
      have HT := Lib.hid hT
      have hwz : w.heap.size ≤ w1.heap.size := hb.size
      clear hO hPD hD hb hb1 hT HP2 HXR
      rcases List.eq_nil_or_concat o with ho0 | ⟨o0, x, ho0⟩
      · have hm0 : m = 0 := by rw [← HLEN.out, ho0]; rfl
        have HMS : Hid (mstep (o.map PD.pl) (po, pd) = o.map PD.pl ++ [(po, pd)]) := by show _ = _; rw [ho0]; rfl
        clear ho0
        subst hm0
        go_upto_region 6 with (fail)
        go_quiet (fail)
        go_upto_region 8 with (fail)
        refine wp_world (fun w' => Blk w' wr.heap.size 68 #[.int .i64 po, .slice pD l pc] ∧ OwnX pdc 2 w' w.heap.size 68 A1 c1 o ∧ PDs w' w.heap.size (A1.map (fun y : Addr => y.block)) o ∧ RdB w' pD pd ∧ Below w.heap.size w w' ∧ w'.heap.size = w1.heap.size)
          ⟨HT.out.drewN _, HO.out, HPD.out, HD.out, ⟨HB.out.os, HB.out.tape, HB.out.output, HB.out.size, HB.out.block⟩, rfl⟩ ?_
        clear FT HO HPD HD HB HT
        rintro w2 ⟨hT, hO, hPD, hD, hb, hsz2⟩
        have FT := hT.two
        have hgl2 := hT.lt
        have HO := Lib.hid hO
        have HPD := Lib.hid hPD
        have HD := Lib.hid hD
        have HB := Lib.hid hb
        clear hO hPD hD hb hT
        rw [← hsz2] at hwz
        clear hsz2
        go_region_held3 (fun w' => w'.cell? ⟨wr.heap.size, 0, none⟩ = some (.int .i64 po) ∧ w'.cell? ⟨wr.heap.size, 1, none⟩ = some (.slice pD l pc)) (go_keep)
          (first
            | (refine step_addP (by rfl) _ _ (by rfl) w.heap.size A1 0 c1 o HLEN.out (by rfl) (HO5.out.alloc _) ⟨po, some ⟨g5, 0, none⟩, c5, pd⟩ _ _ (by rfl) (HR5.out) 1 rfl (by decide) (by first | omega | (simp; done) | (simp; omega)) ?_; intro g6 c6 w6 hO6 hcap6 hcm6 hb6 hgr6 hat6; have k60 := hgr6.cell_far ⟨wr.heap.size, 0, none⟩ (by simp; omega) HTA.out; have k61 := hgr6.cell_far ⟨wr.heap.size, 1, none⟩ (by simp; omega) HTA.out)
            | (refine step_addB (by rfl) _ _ (by rfl) w2.heap.size (some ⟨w2.heap.size, 0, none⟩) 0 0 [] rfl (by rfl) (OwnB.made _ _ _ (by first | exact Nat.le_refl _ | omega | (simp; done) | (simp; omega))) pD l pc pd HL.out (by rfl) (Rd.alloc HD.out _) hl0 l (by omega) (by omega) (by first | omega | (simp; done) | (simp; omega)) ?_; intro g5 c5 w5 hO5 hcap5 hcm5 hb5 hgr5 hat5 hlt5; have hbb : Below w2.heap.size w2 w5 := (by refine Below.trans ?_ hb5; (repeat (first | with_reducible exact (Below.refl _ _) | with_reducible refine Below.drew ?_ | (with_reducible refine Below.set4 ?_ ?side _ _ _ _; case side => (first | omega | (simp; omega) | (simp; done))) | (with_reducible refine Below.setCell ?_ ?side _; case side => (first | omega | (simp; omega) | (simp; done))) | (with_reducible refine Below.alloc ?_ ?side _; case side => (first | omega | (simp; omega) | (simp; done)))))); have HO5 := Lib.hid (HO.out.carry hbb); have HR5 := Lib.hid (rd_pdl w5 ⟨po, some ⟨g5, 0, none⟩, c5, pd⟩ l HL.out); have hz25 := hbb.size; have kT0 := hbb.cell (p := ⟨wr.heap.size, 0, none⟩) hgl2; have kT1 := hbb.cell (p := ⟨wr.heap.size, 1, none⟩) hgl2))
        all_goals
          have hO5' : OwnB w5 w2.heap.size 5 (some ⟨g5, 0, none⟩) c5 pd := hO5
          have hPD6 := HPD.out.far (po := po) hbb hO5' hwz hgr6 hat6 (fun k' hk' => by have := (HMA.out k' hk').2; omega) hlt5
          have hB6 : Below w.heap.size w w6 := (HB.out.trans (hbb.mono hwz)).trans ((((Below.refl w5.heap.size w5).alloc (Nat.le_refl _) _).mono (by omega)).trans hb6)
          have HPD6 := Lib.hid hPD6
          have HB6 := Lib.hid hB6
          have HO6 := Lib.hid hO6
          clear hO5 hO5' hPD6 hB6 hO6 hgr6 hat6 hgr5 hat5 hbb hb5 hb6 k60 k61 kT0 kT1 HO5 HR5 HD HB HO HPD FT
          go_wp2_with fail
          go_roundw
          case rel =>
            refine ⟨k + 1, some ⟨g6, 0, none⟩, 1, c6, o ++ [(⟨po, some ⟨g5, 0, none⟩, c5, pd⟩ : PD)], by omega, by go_num, rfl, by rw [List.length_append, HLEN.out]; rfl, by omega, HO6.out, (show PDs w6 w.heap.size (some g6) _ from HPD6.out), ?_, ?_, HB6.out⟩
            · rw [HSN.out, mergeP_snoc, ← HPL.out]
              show _ = mstep (o.map PD.pl) (po, pd)
              rw [HMS.out, List.map_append]; rfl
            · intro y hy
              rcases List.mem_append.1 hy with hy | hy
              · exact HOFO.out y hy
              · obtain rfl := List.mem_singleton.1 hy; exact HMO.out
          case measure => simp [intOf]; omega
      · rw [List.concat_eq_append] at ho0
        obtain ⟨xo, xD, xc, xd⟩ := x
        obtain ⟨m0, hm0⟩ : ∃ m0, o0.length = m0 := ⟨_, rfl⟩
        obtain ⟨xl, hxl⟩ : ∃ xl, xd.length = xl := ⟨_, rfl⟩
        have hmm : m = m0 + 1 := by rw [← HLEN.out, ho0, List.length_append, hm0]; rfl
        have hxo := HOFO.out ⟨xo, xD, xc, xd⟩ (by rw [ho0]; simp)
        simp only at hxo
        have hxls : xl ≤ 1000000 := by
          have h1 := psz_mem (o.map PD.pl) (PD.pl ⟨xo, xD, xc, xd⟩) (by rw [ho0]; simp)
          have h2 : psz (o.map PD.pl) ≤ 1000000 := by
            rw [HPL.out, psz_merge, List.map_take]
            exact Nat.le_trans (psz_take _ _) HSZ.out
          have h3 : xd.length ≤ psz (o.map PD.pl) := h1
          omega
        obtain ⟨b2, hA2, hb2, hb2l, cx0, cx1, hfz⟩ := ownx_last (m0 := m0) hm0 (by rw [← ho0]; exact HO.out)
        simp only [hxl] at cx0 cx1
        subst hA2
        have hi0 : (0 : Int) ≤ (m0 : Int) := by omega
        have hi1 : (m0 : Int) < (m : Int) := by omega
        have hi2 : (m : Int) - 1 = (m0 : Int) := by omega
        have hmp : (0 : Int) < (m : Int) := by omega
        have hw1 : IntKind.i64.wrap ((m : Int) - 1) = (m0 : Int) := by rw [hi2, IntKind.wrap_i64]; omega
        have hw2 : IntKind.i64.wrap (m0 : Int) = (m0 : Int) := by rw [IntKind.wrap_i64]; omega
        have hmd : decide (0 < m) = true := decide_eq_true (by omega)
        have hsum : xo + (xl : Int) ≤ 9223372036854775807 := by omega
        have hsum0 : -9223372036854775808 ≤ xo + (xl : Int) := by omega
        have HO0 := Lib.hid ho0
        have HM0 := Lib.hid hm0
        have HXL := Lib.hid hxl
        have HMM := Lib.hid hmm
        clear ho0 hm0 hxl hmm
        by_cases hnear : xo + (xl : Int) = po
        · have hq : (xo + (xl : Int) == po) = true := by simp [hnear]
          have HNR := Lib.hid hnear
          clear hnear
          go_upto_region 6 with (fail)
          go_quiet (fail)
          go_upto_region 7 with (fail)
          refine wp_world (fun w' => Blk w' wr.heap.size 68 #[.int .i64 po, .slice pD l pc] ∧ OwnX pdc 2 w' w.heap.size 68 (some ⟨b2, 0, none⟩) c1 o ∧ PDs w' w.heap.size (some b2) o ∧ RdB w' pD pd ∧ Below w.heap.size w w' ∧ w'.heap.size = w1.heap.size ∧ w'.cell? ⟨b2, m0 * 2 + 1, none⟩ = some (.slice xD xl xc) ∧ w'.frozen? ⟨b2, m0 * 2 + 1, none⟩ = false)
            ⟨HT.out.drewN _, HO.out, HPD.out, HD.out, ⟨HB.out.os, HB.out.tape, HB.out.output, HB.out.size, HB.out.block⟩, rfl, cx1, hfz _⟩ ?_
          clear FT HO HPD HD HB HT cx0 cx1 hfz
          rintro w2 ⟨hT, hO, hPD, hD, hb, hsz2, cx1, hfz1⟩
          have FT := hT.two
          have hgl2 := hT.lt
          have HO := Lib.hid hO
          have HPD := Lib.hid hPD
          have HD := Lib.hid hD
          have HB := Lib.hid hb
          have hbl2 : b2 < w2.heap.size := by omega
          clear hO hPD hD hb hT
          rw [← hsz2] at hwz
          clear hsz2
          have hlast := (HO0.out ▸ HPD.out : PDs w2 w.heap.size (some b2) (o0 ++ [⟨xo, xD, xc, xd⟩])).last
          have HLA := Lib.hid hlast.1
          have HLB : Hid (some b2 ≠ xD.map (·.block)) := fun e => by
            rcases hlast.2.1 with h1 | h1
            · have h2 : xD.map (·.block) = none := h1
              rw [h2] at e; cases e
            · exact h1 e.symm
          have HLT : Hid (some wr.heap.size ≠ xD.map (·.block)) := fun e => by
            have := HMB.out ⟨xo, xD, xc, xd⟩ (by rw [HO0.out]; simp) _ e.symm
            omega
          have HLD := Lib.hid hlast.2.2
          clear hlast
          have hbw := (HMA.out b2 rfl).2
          have hn1 : b2 ≠ wr.heap.size := by omega
          have hn2 : ¬ b2 = wr.heap.size := hn1
          have hn3 : ¬ wr.heap.size = b2 := by omega
          rw [← nearLoad_eq]
          go_region_held3 (fun w' => w'.cell? ⟨wr.heap.size, 1, none⟩ = some (.slice pD l pc)) (go_keep)
            (first
              | (refine step_addB (by rfl) _ _ (by rfl) w.heap.size xD xl xc xd HXL.out (by rfl) HLA.out pD l pc pd HL.out (by rfl) HD.out hl0 (xl + l) rfl (by omega) hwz ?_; intro g5 c5 w5 hO5 hcap5 hcm5 hb5 hgr5 hat5 hlt5; have k1 := hgr5.cell_far ⟨wr.heap.size, 1, none⟩ hgl2 HLT.out; have k2 := hgr5.cell_far ⟨b2, m0 * 2 + 1, none⟩ hbl2 HLB.out; have k3 := hgr5.frozen_far ⟨b2, m0 * 2 + 1, none⟩ hbl2 HLB.out))
          all_goals
            have hgr : w2.grownBy w5 (xD.map (·.block)) := ⟨hgr5.os, hgr5.tape, hgr5.output, hgr5.size, hgr5.block⟩
            have hPD6 := PDs.near (i := m0 * 2 + 1) (v := .slice (some ⟨g5, 0, none⟩) (xl + l) c5) (HO0.out ▸ HPD.out : PDs w2 w.heap.size (some b2) (o0 ++ [⟨xo, xD, xc, xd⟩])) hO5 hgr hat5 hbl2 HLB.out
            have hO2 : OwnX pdc 2 w5 w.heap.size 68 (some ⟨b2, 0, none⟩) c1 (o0 ++ [⟨xo, xD, xc, xd⟩]) := own_grown (HO0.out ▸ HO.out : OwnX pdc 2 w2 w.heap.size 68 (some ⟨b2, 0, none⟩) c1 (o0 ++ [⟨xo, xD, xc, xd⟩])) hgr (fun k' hk' e => by
              rw [own_blk] at hk'
              exact HLB.out (by rw [← e, ← hk']; rfl))
            have hO6 := ownx_set (y := ⟨xo, some ⟨g5, 0, none⟩, c5, xd ++ pd⟩) HM0.out hO2 rfl (xl + l) (by rw [List.length_append, HXL.out, HL.out])
            have hB6 : Below w.heap.size w (w5.setCell ⟨b2, m0 * 2 + 1, none⟩ (.slice (some ⟨g5, 0, none⟩) (xl + l) c5)) := (HB.out.trans (show Below w.heap.size w2 w5 from ⟨hb5.os, hb5.tape, hb5.output, hb5.size, hb5.block⟩)).setCell (HMA.out b2 rfl).1 _
            have HPD6 := Lib.hid hPD6
            have HB6 := Lib.hid hB6
            have HO6 := Lib.hid hO6
            clear hO5 hPD6 hB6 hO6 hO2 hgr hgr5 hat5 hb5 k1 k2 k3 HLA HLB HLD HLT HD HB HO HPD FT cx1 hfz1 hw1 hw2 hmd hi0 hi1 hi2
            go_wp2_with fail
            go_roundw
            case rel =>
              refine ⟨k + 1, some ⟨b2, 0, none⟩, m, c1, o0 ++ [(⟨xo, some ⟨g5, 0, none⟩, c5, xd ++ pd⟩ : PD)], by omega, by go_num, rfl, by rw [List.length_append, HM0.out]; exact HMM.out.symm, by omega, HO6.out, (show PDs _ w.heap.size (some b2) _ from HPD6.out), ?_, ?_, HB6.out⟩
              · rw [HSN.out, mergeP_snoc, ← HPL.out, HO0.out, List.map_append, List.map_append]
                exact (mstep_near (o0.map PD.pl) (xo, xd) (po, pd) (by show xo + (xd.length : Int) = po; rw [HXL.out]; exact HNR.out)).symm
              · intro y hy
                rcases List.mem_append.1 hy with hy | hy
                · exact HOFO.out y (by rw [HO0.out]; exact List.mem_append_left _ hy)
                · obtain rfl := List.mem_singleton.1 hy; exact hxo
            case measure => simp [intOf]; omega
        · have hq : (xo + (xl : Int) == po) = false := by simp [hnear]
          have HMS : Hid (mstep (o.map PD.pl) (po, pd) = o.map PD.pl ++ [(po, pd)]) := by
            show _ = _
            rw [HO0.out, List.map_append]
            exact mstep_far _ _ _ (by show xo + (xd.length : Int) ≠ po; rw [HXL.out]; exact hnear)
          clear hnear
          go_upto_region 6 with (fail)
          go_quiet (fail)
          go_upto_region 8 with (fail)
          clear hq hi0 hi1 hi2 hmp hw1 hw2 hmd cx0 cx1 hfz
          refine wp_world (fun w' => Blk w' wr.heap.size 68 #[.int .i64 po, .slice pD l pc] ∧ OwnX pdc 2 w' w.heap.size 68 (some (⟨b2, 0, none⟩ : Addr)) c1 o ∧ PDs w' w.heap.size ((some (⟨b2, 0, none⟩ : Addr)).map (fun y : Addr => y.block)) o ∧ RdB w' pD pd ∧ Below w.heap.size w w' ∧ w'.heap.size = w1.heap.size)
            ⟨HT.out.drewN _, HO.out, HPD.out, HD.out, ⟨HB.out.os, HB.out.tape, HB.out.output, HB.out.size, HB.out.block⟩, rfl⟩ ?_
          clear FT HO HPD HD HB HT
          rintro w2 ⟨hT, hO, hPD, hD, hb, hsz2⟩
          have FT := hT.two
          have hgl2 := hT.lt
          have HO := Lib.hid hO
          have HPD := Lib.hid hPD
          have HD := Lib.hid hD
          have HB := Lib.hid hb
          clear hO hPD hD hb hT
          rw [← hsz2] at hwz
          clear hsz2
          go_region_held3 (fun w' => w'.cell? ⟨wr.heap.size, 0, none⟩ = some (.int .i64 po) ∧ w'.cell? ⟨wr.heap.size, 1, none⟩ = some (.slice pD l pc)) (go_keep)
            (first
              | (refine step_addP (by rfl) _ _ (by rfl) w.heap.size (some (⟨b2, 0, none⟩ : Addr)) m c1 o HLEN.out (by rfl) (HO5.out.alloc _) ⟨po, some ⟨g5, 0, none⟩, c5, pd⟩ _ _ (by rfl) (HR5.out) (m + 1) rfl (by omega) (by first | omega | (simp; done) | (simp; omega)) ?_; intro g6 c6 w6 hO6 hcap6 hcm6 hb6 hgr6 hat6; have k60 := hgr6.cell_far ⟨wr.heap.size, 0, none⟩ (by simp; omega) HTA.out; have k61 := hgr6.cell_far ⟨wr.heap.size, 1, none⟩ (by simp; omega) HTA.out)
              | (refine step_addB (by rfl) _ _ (by rfl) w2.heap.size (some ⟨w2.heap.size, 0, none⟩) 0 0 [] rfl (by rfl) (OwnB.made _ _ _ (by first | exact Nat.le_refl _ | omega | (simp; done) | (simp; omega))) pD l pc pd HL.out (by rfl) (Rd.alloc HD.out _) hl0 l (by omega) (by omega) (by first | omega | (simp; done) | (simp; omega)) ?_; intro g5 c5 w5 hO5 hcap5 hcm5 hb5 hgr5 hat5 hlt5; have hbb : Below w2.heap.size w2 w5 := (by refine Below.trans ?_ hb5; (repeat (first | with_reducible exact (Below.refl _ _) | with_reducible refine Below.drew ?_ | (with_reducible refine Below.set4 ?_ ?side _ _ _ _; case side => (first | omega | (simp; omega) | (simp; done))) | (with_reducible refine Below.setCell ?_ ?side _; case side => (first | omega | (simp; omega) | (simp; done))) | (with_reducible refine Below.alloc ?_ ?side _; case side => (first | omega | (simp; omega) | (simp; done)))))); have HO5 := Lib.hid (HO.out.carry hbb); have HR5 := Lib.hid (rd_pdl w5 ⟨po, some ⟨g5, 0, none⟩, c5, pd⟩ l HL.out); have hz25 := hbb.size; have kT0 := hbb.cell (p := ⟨wr.heap.size, 0, none⟩) hgl2; have kT1 := hbb.cell (p := ⟨wr.heap.size, 1, none⟩) hgl2))
          all_goals
            have hO5' : OwnB w5 w2.heap.size 5 (some ⟨g5, 0, none⟩) c5 pd := hO5
            have hPD6 := HPD.out.far (po := po) hbb hO5' hwz hgr6 hat6 (fun k' hk' => by have := (HMA.out k' hk').2; omega) hlt5
            have hB6 : Below w.heap.size w w6 := (HB.out.trans (hbb.mono hwz)).trans ((((Below.refl w5.heap.size w5).alloc (Nat.le_refl _) _).mono (by omega)).trans hb6)
            have HPD6 := Lib.hid hPD6
            have HB6 := Lib.hid hB6
            have HO6 := Lib.hid hO6
            clear hO5 hO5' hPD6 hB6 hO6 hgr6 hat6 hgr5 hat5 hbb hb5 hb6 k60 k61 kT0 kT1 HO5 HR5 HD HB HO HPD FT
            go_wp2_with fail
            go_roundw
            case rel =>
              refine ⟨k + 1, some ⟨g6, 0, none⟩, m + 1, c6, o ++ [(⟨po, some ⟨g5, 0, none⟩, c5, pd⟩ : PD)], by omega, by go_num, rfl, by rw [List.length_append, HLEN.out]; rfl, by omega, HO6.out, (show PDs w6 w.heap.size (some g6) _ from HPD6.out), ?_, ?_, HB6.out⟩
              · rw [HSN.out, mergeP_snoc, ← HPL.out]
                show _ = mstep (o.map PD.pl) (po, pd)
                rw [HMS.out, List.map_append]; rfl
              · intro y hy
                rcases List.mem_append.1 hy with hy | hy
                · exact HOFO.out y hy
                · obtain rfl := List.mem_singleton.1 hy; exact HMO.out
            case measure => simp [intOf]; omega
    · obtain rfl : k = n := by omega
      go_wp2_with fail
      go_ret
      refine ⟨A1, m, c1, o, rfl, HLEN.out, hmk, ?_, ?_, HO.out, HPD.out, ?_, HB.out⟩
      · have := HO.out.cap.1; rw [HLEN.out] at this; exact this
      · exact HO.out.cap.2
      · rw [HPL.out, List.take_of_length_le (by rw [HN.out]; exact Nat.le_refl _)]
end Go.Proofs.Ytolhlgalhhdkmab
