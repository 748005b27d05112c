/- The walk of the law SenderGood: whatever is written, granted, sent, lost and heard of, a sender stays one that may be. -/
import Derived.Test.YtpmgoediglmofaaGoodIn
import Derived.Test.YtpmgoediglmofaaSomeWalk
import Derived.Test.YtpmgoediglmofaaCutStrWalk
import Derived.Test.YtpmgoediglmofaaStrApp
import Derived.Test.YtpmgoediglmofaaRawOpen
import Derived.Laws.IdiomStrings
namespace Go.Proofs.Ytpmgoediglmofaa
open Go.ChangeShapes Go.WideShapes Go.ChangeAt Go.RowKit
set_option linter.unusedVariables false

theorem bytes_rdG (w : World) (e : TypeId) (s : ByteArray) (cap : Nat) (fr : Nat × Nat) {H : Nat} (hH : w.heap.size = H) : RdB (w.alloc (.cells (bytesRow s cap) e fr)) (some ⟨H, 0, none⟩) (bts s) := by
  subst hH
  refine ⟨by simp [u8s], fun hn => ⟨w.heap.size, 0, rfl, fun j u hu => ?_⟩⟩
  have hj : j < s.data.size := by
    have := (List.getElem?_eq_some_iff.1 hu).1
    rw [u8s_length] at this; simpa [bts] using this
  have hb : (w.alloc (.cells (bytesRow s cap) e fr)).heap[w.heap.size]? = some (.cells (bytesRow s cap) e fr) := heap_alloc_new w _
  rw [cell_of_row _ w.heap.size _ _ e fr hb, Nat.zero_add, bytesRow_at s cap j hj]
  rw [u8s_get _ _ (by rw [bts_len]; exact hj)] at hu
  rw [← hu]
  simp only [bts, List.getD, Array.getElem?_toList, Array.getElem?_eq_getElem hj, Option.getD_some]
theorem frInfoG : (Try.prog.info? 59).map (fun i => (i.zero, i.size, i.bytes)) = some (some (.agg #[.int .i64 0, .int .i64 0, .int .i64 0, .bool false, .int .i64 0, .slice none 0 0, .slice none 0 0]), 7, 88) := by kernel_rfl
def goodConv : Oper := { dst := some 41, op := Op.convert 9 48 (Operand.tmp 40), type := 48, pos := "mid.go:185", after := #[{ on := 3, ground := Ground.data }], guard := none }
theorem goodConv_eq : goodConv = { dst := some 41, op := Op.convert 9 48 (Operand.tmp 40), type := 48, pos := "mid.go:185", after := #[{ on := 3, ground := Ground.data }], guard := none } := rfl
attribute [local go_sem] goodConv
set_option maxRecDepth 100000 in
set_option maxHeartbeats 16000000 in
theorem senderGood_walk (RA : Option Addr) (len cap : Nat) (rs : List RawD) (w : World) (h : IsRaws w RA len cap rs) :
    Calls Try.prog 5 #[.slice RA len cap] w fun e w' => e = .returned (.bool true) ∧ Below w.heap.size w w' := by
  have hlc := h.2.2.1
  have hcm := h.2.2.2.1
  unfold maxLen at hcm
  obtain ⟨K, hk⟩ : ∃ k : Nat, min (len : Int) 25 = k := ⟨(min (len : Int) 25).toNat, by omega⟩
  have hk25 : K ≤ 25 := by omega
  have hkl : K ≤ len := by omega
  have HK := Lib.hid (some_any RA len cap K 25 hlc hcm (by decide) (by decide) hk)
  have HRS := Lib.hid (h.front K hkl)
  clear h hk
  go_enter Try.func5, Try.ntmps5
  go_wp2_with fail
  refine (HK.out _).mono ?_
  rintro e1 w' ⟨rfl, rfl⟩
  go_wp2_with fail
  go_loopw [4, 18] (fun s4 iv wr => ∃ (i : Nat), i ≤ K ∧ iv = .int .i64 (i : Int) ∧ GdSt w wr w.heap.size i s4) (fun _ iv _ => K - (intOf iv).toNat)
  case atStart =>
    exact ⟨0, Nat.zero_le _, rfl, none, 0, 0, [], false, 0, 0, none, 0, 0, [], none, 0, 0, [], false, false, none, 0, 0, [], rfl, rfl, Nat.le_refl _, Blk.new _ _ _, fun W _ => SnV.begin W 0 (by decide) (by decide), ⟨OwnX.nil _ _ _⟩, SntOk.nil _ _ _, (Below.refl _ _).alloc (Nat.le_refl _) _⟩
  case round =>
    obtain ⟨i, hi, rfl, A1, n, c1, bs, fin, nx, mx, B1, m1, d1, lost, C1, k1_, e1, acked, ended, over, T, ns, cs, fs, rfl, hfl, hni, hS, hV, hT, hF, hX⟩ := hrel
    have HRr := Lib.hid (HRS.out.keep hX)
    have HS := Lib.hid hS
    have HV := Lib.hid hV
    have HT := Lib.hid hT
    have HF := Lib.hid hF
    have HX := Lib.hid hX
    have hgS := hS.lt
    have HOK := Lib.hid hV.here.ok
    clear hS hV hT hF hX
    generalize hgw : w.heap.size = gS at *
    have HGW := Lib.hid hgw
    clear hgw
    by_cases hlt : i < K
    · obtain ⟨b, off, rfl, hcell⟩ := HRr.out.at_ (by omega)
      obtain ⟨c0, c1', c2, c3⟩ := hcell i hlt
      have hro := HRr.out.2.2.2.2 i hlt
      generalize rs.take K = rs' at *
      generalize rs'.getD i rawNone = r at *
      obtain ⟨o0, o1, o2, o3⟩ := hro
      unfold maxLen at o3
      have hi0 : (0 : Int) ≤ (i : Int) := by omega
      have hiK : (i : Int) < (K : Int) := by omega
      clear hcell
      obtain ⟨u, HU, u0, u1⟩ := mod_ex r.a 200 (by decide)
      obtain ⟨kd, HKD, kd0, kd1⟩ := mod_ex r.kind 6 (by decide)
      obtain ⟨X, hX⟩ : ∃ X, max mx u = X := ⟨_, rfl⟩
      have HXX := Lib.hid hX
      have hXm : mx ≤ X := by omega
      clear hX
      go_upto_region 6 with (fail)
      refine wp_world (fun w' => Blk w' wr.heap.size 53 #[.int .i64 r.kind, .int .i64 r.a, .int .i64 r.b, .string r.text] ∧ Below wr.heap.size wr w') ⟨Blk.new _ _ _, (Below.refl _ _).alloc (Nat.le_refl _) _⟩ ?_
      rintro w2 ⟨hR, hq⟩
      have HS2 := Lib.hid (HS.out.carry hq)
      have HV2 := Lib.hid (HV.out.below hq)
      have HT2 := Lib.hid (HT.out.carry hq)
      have HX2 := Lib.hid (HX.out.trans (hq.mono (by omega)))
      have hTl : ∀ k, T.map (·.block) = some k → k < wr.heap.size := fun k hk => (HT.out.lt k hk).2
      have HTL := Lib.hid hTl
      have hgSR : gS < wr.heap.size := hgS
      generalize wr.heap.size = gR at *
      have hgR2 := hR.lt
      clear c0 c1' c2 c3 HS HV HT HX HRr hq hTl hgS
      go_cut [7, 8] (fun s7 s8 wx => ∃ (gN : Nat) (A2 : Option Addr) (c2 : Nat) (B2 : Option Addr) (d2 : Nat) (C2 : Option Addr) (e2 : Nat), s7 = .pointer (some ⟨gN, 0, none⟩) ∧ s8 = .int .i64 0 ∧ w2.heap.size ≤ gN ∧ Blk wx gN 50 #[.slice A2 n c2, .bool fin, .int .i64 nx, .int .i64 X, .slice B2 m1 d2, .slice C2 k1_ e2, .bool ended, .bool over] ∧ KeptG gS gN gN (T.map (·.block)) wx (fun W => SnV W A2 n c2 bs fin nx X B2 m1 d2 lost C2 k1_ e2 acked ended over) ∧ Below w2.heap.size w2 wx)
      case first =>
        -- [[grant
        ·
          have FS := HS2.out.facts8
          have FR := hR.facts4
          go_region_held3 (fun w' => w'.cell? ⟨gS, 0, none⟩ = some (.slice A1 n c1) ∧ w'.cell? ⟨gS, 1, none⟩ = some (.bool fin) ∧ w'.cell? ⟨gS, 2, none⟩ = some (.int .i64 nx) ∧ w'.cell? ⟨gS, 3, none⟩ = some (.int .i64 mx) ∧ w'.cell? ⟨gS, 4, none⟩ = some (.slice B1 m1 d1) ∧ w'.cell? ⟨gS, 5, none⟩ = some (.slice C1 k1_ e1) ∧ w'.cell? ⟨gS, 6, none⟩ = some (.bool ended) ∧ w'.cell? ⟨gS, 7, none⟩ = some (.bool over) ∧ w'.cell? ⟨gR, 1, none⟩ = some (.int .i64 r.a)) (go_keep)
            (first
              | (go_at_call 7; refine (picked_at r.a 200 u o1.1 o1.2 (by decide) (by decide) HU _).mono ?_; rintro e3 w' ⟨rfl, rfl⟩)
              | (go_at_call 15; refine Calls.mono (snGrant_ok _ A1 n c1 bs fin nx mx B1 m1 d1 lost C1 k1_ e1 acked ended over (KeptG.below HV2.out (by (repeat (first | with_reducible exact (Below.refl _ _) | with_reducible refine Below.drew ?_ | (with_reducible refine Below.set4 ?_ ?side _ _ _ _; case side => (first | omega | (simp; omega) | (simp; done))) | (with_reducible refine Below.setCell ?_ ?side _; case side => (first | omega | (simp; omega) | (simp; done))) | (with_reducible refine Below.alloc ?_ ?side _; case side => (first | omega | (simp; omega) | (simp; done))))))).here u u0 (by omega)) ?_; rintro e3 w5 ⟨A2, c2, B2, d2, C2, e2, rfl, hK5, hb5⟩; rw [HXX.out] at hK5; rw [HXX.out]; have hbx : Below w2.heap.size w2 w5 := Below.trans (by (repeat (first | with_reducible exact (Below.refl _ _) | with_reducible refine Below.drew ?_ | (with_reducible refine Below.set4 ?_ ?side _ _ _ _; case side => (first | omega | (simp; omega) | (simp; done))) | (with_reducible refine Below.setCell ?_ ?side _; case side => (first | omega | (simp; omega) | (simp; done))) | (with_reducible refine Below.alloc ?_ ?side _; case side => (first | omega | (simp; omega) | (simp; done)))))) (hb5.mono (by first | (simp; done) | (simp; omega))); have FS := (HS2.out.carry hbx).facts8; have FR := (hR.carry hbx).facts4; have hcq := cell_under hb5; have hfq := frozen_under hb5; have hsq := hb5.size; (try simp at hsq); (try have hs1 : w2.heap.size < w5.heap.size := by omega); have hle : w2.heap.size ≤ w5.heap.size := (by omega); have HN1 : ¬ w2.heap.size = gS ∧ ¬ gS = w2.heap.size ∧ ¬ w5.heap.size = gS ∧ ¬ gS = w5.heap.size ∧ ¬ w2.heap.size = gR ∧ ¬ gR = w2.heap.size ∧ ¬ w5.heap.size = gR ∧ ¬ gR = w5.heap.size := (by refine ⟨?_, ?_, ?_, ?_, ?_, ?_, ?_, ?_⟩ <;> omega); have HK5 := Lib.hid hK5; clear hK5))
          all_goals
            go_wp2_with fail
            go_meet
          all_goals
            refine ⟨_, A2, c2, B2, d2, C2, e2, rfl, rfl, ?n1, ?b7, ?kept, ?bel⟩
            all_goals (clear hcq hfq FR FS HN1)
            case n1 => (first | exact Nat.le_refl _ | omega)
            case b7 => (repeat (first | (with_reducible refine Blk.newE ?side; case side => (first | with_reducible rfl | (simp; done))) | with_reducible apply Blk.setS | with_reducible apply Blk.alloc | with_reducible apply Blk.drew | (with_reducible apply Blk.below (hb := hb5) (hg := ?side); case side => (first | (simp; done) | omega | (simp; omega)))))
            case kept =>
              have hk := HK5.out
              refine SpKeep.keptG hk (Eq.refl _) (Eq.refl _) ?_ ?_ ?_ ?_ ?_
              · (first | omega | (simp; omega))
              · (first | omega | (simp; done) | (simp; omega))
              · (first | omega | (simp; done) | (simp; omega))
              · exact fun k hk' => by have := HTL.out k hk'; (first | omega | (simp; omega))
              (repeat (first | with_reducible exact Agr.refl _ _ _ | (with_reducible refine Agr.set8 ?_ ?side _ _ _ _ _ _ _ _; case side => (first | omega | (simp; done) | (simp; omega))) | (with_reducible refine Agr.set7 ?_ ?side _ _ _ _ _ _ _; case side => (first | omega | (simp; done) | (simp; omega))) | (with_reducible refine Agr.alloc ?_ ?side _; case side => (first | (simp; done) | (simp; omega))) | with_reducible refine Agr.drew ?_))
            case bel => (repeat (first | with_reducible exact hbx | with_reducible refine Below.drew ?_ | (with_reducible refine Below.setS ?_ ?side _ _ _ _ _ _ _ _; case side => (first | (simp; done) | omega | (simp; omega))) | (with_reducible refine Below.setF ?_ ?side _ _ _ _ _ _ _; case side => (first | (simp; done) | omega | (simp; omega))) | (with_reducible refine Below.alloc ?_ ?side _; case side => (first | (simp; done) | omega | (simp; omega)))))
        -- ]]grant
      case rest =>
      obtain ⟨gN, A2, c2, B2, d2, C2, e2, rfl, rfl, hgN, hN, hVN, hbx⟩ := hcut
      have HS3 := Lib.hid (HS2.out.carry hbx)
      have HV3 := Lib.hid ((HV2.out.re (gN' := gN) (gF' := gN) (.inr (.inr (.inr hgN))) (.inr (.inr (.inr hgN)))).below hbx)
      have HT3 := Lib.hid (HT2.out.carry hbx)
      have HX3 := Lib.hid (HX2.out.trans (hbx.mono (by omega)))
      have hR3 := hR.carry hbx
      have HN := Lib.hid hN
      have HVN := Lib.hid hVN
      have hgN3 := hN.lt
      clear HS2 HV2 HT2 HX2 hR hbx hN hVN
      have FR := hR3.facts4
      go_wp2_with fail
      refine (picked_at r.kind 6 kd o0.1 o0.2 (by decide) (by decide) HKD _).mono ?_
      rintro e3 w' ⟨rfl, rfl⟩
      go_upto_block 2 with (fail)
      go_cut [4, 8] (fun s4 s8 wx => GdMid w wx gS gN i n fin nx (fun W => SnV W A1 n c1 bs fin nx mx B1 m1 d1 lost C1 k1_ e1 acked ended over) #[.slice A1 n c1, .bool fin, .int .i64 nx, .int .i64 mx, .slice B1 m1 d1, .slice C1 k1_ e1, .bool ended, .bool over] s4 s8)
      case first =>
        rcases (show kd = 0 ∨ (kd = 1 ∨ kd = 2) ∨ (kd = 3 ∨ kd = 4) ∨ kd = 5 by omega) with rfl | hk | hk | rfl
        ·
          -- [[write
          ·
            have FS := HS3.out.facts8
            have FN := HN.out.facts8
            obtain ⟨st, hcs⟩ : ∃ st, cutS r.text 30 = st := ⟨_, rfl⟩
            have hcs30 : st.size ≤ 30 := by rw [← hcs]; exact cutS_size _ _
            have HCS : Hid (∀ W, Calls Try.prog 17 #[.string r.text, .int .i64 30] W fun e w' => e = .returned (.string st) ∧ W = w') := fun W => by
              have := cut_any r.text 30 (by omega) (by decide) W
              rw [hcs] at this; exact this
            have hcv : ∀ W, (convert 9 48 (.string st)).run Try.prog W = .ok (.slice (some ⟨W.heap.size, 0, none⟩) st.size (grownCap W st.size 0 5)) (W.drew.alloc (.cells (bytesRow st (grownCap W st.size 0 5)) 5 ((bytesRow st (grownCap W st.size 0 5)).size, (bytesRow st (grownCap W st.size 0 5)).size + 1))) := fun W => run_bytes_of_string W _ _ _ st Try.underlying9 Try.underlying48 Try.underlying5
            obtain ⟨q, HQ, q0, q1⟩ := mod_ex r.b 5 (by decide)
            obtain ⟨fb, hfb⟩ : ∃ fb : Bool, (q == 0) = fb := ⟨_, rfl⟩
            have HXS : Hid ((bts st).length = st.size) := bts_len st
            clear hcs
            go_upto_region 9 with (fail)
            rw [← goodConv_eq]
            go_region_held3 (fun w' => w'.cell? ⟨gS, 0, none⟩ = some (.slice A1 n c1) ∧ w'.cell? ⟨gS, 1, none⟩ = some (.bool fin) ∧ w'.cell? ⟨gS, 2, none⟩ = some (.int .i64 nx) ∧ w'.cell? ⟨gS, 3, none⟩ = some (.int .i64 mx) ∧ w'.cell? ⟨gS, 4, none⟩ = some (.slice B1 m1 d1) ∧ w'.cell? ⟨gS, 5, none⟩ = some (.slice C1 k1_ e1) ∧ w'.cell? ⟨gS, 6, none⟩ = some (.bool ended) ∧ w'.cell? ⟨gS, 7, none⟩ = some (.bool over) ∧ w'.cell? ⟨gR, 2, none⟩ = some (.int .i64 r.b) ∧ w'.cell? ⟨gR, 3, none⟩ = some (.string r.text)) (go_keep)
              (first
                | (go_at_call 7; refine (picked_at r.b 5 q o2.1 o2.2 (by decide) (by decide) HQ _).mono ?_; rintro e3 w' ⟨rfl, rfl⟩)
                | (go_at_call 17; refine (HCS.out _).mono ?_; rintro e w' ⟨rfl, rfl⟩)
                | (go_at_call 16; refine Calls.mono (snWrite_any _ A1 n c1 bs fin nx mx B1 m1 d1 lost C1 k1_ e1 acked ended over (KeptG.below HV3.out (by (repeat (first | with_reducible exact (Below.refl _ _) | with_reducible refine Below.drew ?_ | (with_reducible refine Below.set4 ?_ ?side _ _ _ _; case side => (first | omega | (simp; omega) | (simp; done))) | (with_reducible refine Below.setCell ?_ ?side _; case side => (first | omega | (simp; omega) | (simp; done))) | (with_reducible refine Below.alloc ?_ ?side _; case side => (first | omega | (simp; omega) | (simp; done))))))).here _ st.size _ (bts st) HXS.out (grownCap_ge _ _ _ _) (grownCap_le_maxLen _ _ _ _ (by unfold maxLen; omega)) (by omega) (by first | exact bytes_rdG _ _ _ _ _ (by simp) | exact Rd.drew (bytes_rdG _ _ _ _ _ (by simp))) fb) ?_; rintro e3 w5 ⟨A4, n4, c4, f4, nx4, mx4, B4, m4, d4, C4, k4, e4, en4, ov4, code, rfl, hb5, hor⟩; have hbx : Below wc.heap.size wc w5 := Below.trans (by (repeat (first | with_reducible exact (Below.refl _ _) | with_reducible refine Below.drew ?_ | (with_reducible refine Below.set4 ?_ ?side _ _ _ _; case side => (first | omega | (simp; omega) | (simp; done))) | (with_reducible refine Below.setCell ?_ ?side _; case side => (first | omega | (simp; omega) | (simp; done))) | (with_reducible refine Below.alloc ?_ ?side _; case side => (first | omega | (simp; omega) | (simp; done)))))) (hb5.mono (by first | (simp; done) | (simp; omega))); have FS := (HS3.out.carry hbx).facts8; have FR := (hR3.carry hbx).facts4; have FN := (HN.out.carry hbx).facts8; have HN1 : ¬ gN = gS ∧ ¬ gS = gN ∧ ¬ gN = gR ∧ ¬ gR = gN := (by refine ⟨?_, ?_, ?_, ?_⟩ <;> omega); have HOR := Lib.hid hor; clear hor))
            all_goals
              go_wp2_with fail
              go_meet
            all_goals
              refine ⟨T, ns, cs, fs, code, rfl, rfl, hfl, by omega, Blk.farS (HS3.out.carry hbx) (by omega) _ _ _ _ _ _ _ _, GdRow.set8 (HT3.out.carry hbx) (fun k hk => by have := HTL.out k hk; omega) _ _ _ _ _ _ _ _, fun k hk => by have := HTL.out k hk; omega, Below.setS (HX3.out.trans (hbx.mono (by omega))) (by omega) _ _ _ _ _ _ _ _, ?_⟩
              rcases HOR.out with ⟨rfl, rfl, rfl, rfl, rfl, rfl, rfl, rfl, hK5⟩ | hc
              · refine .inl ⟨A4, _, c4, bs ++ bts st, f4, nx4, mx4, B4, m4, d4, lost, C4, k4, e4, acked, en4, ov4, rfl, Blk.setS (HN.out.carry hbx) _ _ _ _ _ _ _ _, ?_, SntOk.write HF.out⟩
                refine SpKeep.keptG hK5 (Eq.refl _) (Eq.refl _) ?_ ?_ ?_ ?_ ?_
                · (first | omega | (simp; done) | (simp; omega))
                · (first | omega | (simp; done) | (simp; omega))
                · (first | omega | (simp; done) | (simp; omega))
                · exact fun k hk' => by have := HTL.out k hk'; (first | omega | (simp; done) | (simp; omega))
                (repeat (first | with_reducible exact Agr.refl _ _ _ | (with_reducible refine Agr.set8 ?_ ?side _ _ _ _ _ _ _ _; case side => (first | omega | (simp; done) | (simp; omega))) | (with_reducible refine Agr.set7 ?_ ?side _ _ _ _ _ _ _; case side => (first | omega | (simp; done) | (simp; omega))) | (with_reducible refine Agr.alloc ?_ ?side _; case side => (first | (simp; done) | (simp; omega))) | with_reducible refine Agr.drew ?_))
              · exact .inr ⟨hc, KeptG.set8 (HV3.out.below hbx) (.inr (.inl rfl)) _ _ _ _ _ _ _ _, HF.out⟩
          -- ]]write
        ·
          -- [[send
          ·
            have t1 : (kd == 0) = false := by simp; omega
            have t2 : decide (kd < 3) = true := decide_eq_true (by omega)
            obtain ⟨p1, HP1, p10, p11⟩ := mod_ex r.a 50 (by decide)
            obtain ⟨p2, HP2, p20, p21⟩ := mod_ex r.b 50 (by decide)
            obtain ⟨q0, q1, q2, q3, q4⟩ := HOK.out.pc p1 p2 p10 p20
            obtain ⟨lo, hlo⟩ : ∃ lo : Nat, pcLo nx lost p1 = (lo : Int) := ⟨(pcLo nx lost p1).toNat, by omega⟩
            obtain ⟨hi, hhi⟩ : ∃ hi : Nat, pcHi n nx mx lost p1 p2 = (hi : Int) := ⟨(pcHi n nx mx lost p1 p2).toNat, by omega⟩
            rw [hlo, hhi] at q1
            rw [hhi] at q2
            have hlohi : lo ≤ hi := by omega
            have hhin : hi ≤ n := by omega
            obtain ⟨F, hF⟩ : ∃ F, pcFin n fin ended over (hi : Int) = F := ⟨_, rfl⟩
            obtain ⟨got, hgot⟩ : ∃ got, (decide ((lo : Int) < (hi : Int)) || F) = got := ⟨_, rfl⟩
            obtain ⟨EF, hEF⟩ : ∃ EF, (ended || F) = EF := ⟨_, rfl⟩
            obtain ⟨nd, hnd⟩ : ∃ nd, hi - lo = nd := ⟨_, rfl⟩
            obtain ⟨kf, hkf⟩ : ∃ kf : Int, (if got = true then (8 : Int) else 0) = kf := ⟨_, rfl⟩
            obtain ⟨of, hof⟩ : ∃ of : Int, (if got = true then (lo : Int) else 0) = of := ⟨_, rfl⟩
            have hnx1 := HOK.out.x1
            have HFS : Hid (SntOk n fin (max nx hi) fs) := Lib.hid (HF.out.up (by omega) (by omega))
            have hnew : ∀ (D : Option Addr) (cd : Nat), SntOk n fin (max nx hi) (fs ++ [⟨(lo : Int), nd, F, D, cd⟩]) := fun D cd => HFS.out.snoc _ ⟨by simp only; omega, by simp only; omega, fun hf => by
              simp only at hf ⊢
              rw [hf] at hF; unfold pcFin at hF; simp at hF
              exact ⟨hF.1.1.1, by omega, by omega⟩⟩
            have HNEW := Lib.hid hnew
            have HLO := Lib.hid hlo
            have HHI := Lib.hid hhi
            have HFF := Lib.hid hF
            have HG := Lib.hid hgot
            have HEF := Lib.hid hEF
            have HND := Lib.hid hnd
            have HKF := Lib.hid hkf
            have HOF := Lib.hid hof
            clear hnew hlo hhi hF hgot hEF hnd hkf hof q0 q1 q2 q3 q4
            go_upto_region 13 with (fail)
            refine wp_world (fun w' => Blk w' wc.heap.size 59 #[.int .i64 0, .int .i64 0, .int .i64 0, .bool false, .int .i64 0, .slice none 0 0, .slice none 0 0] ∧ Below wc.heap.size wc w') ⟨Blk.new _ _ _, (Below.refl _ _).alloc (Nat.le_refl _) _⟩ ?_
            rintro w4 ⟨hP4, hb4⟩
            have HS4 := Lib.hid (HS3.out.carry hb4)
            have HV4 := Lib.hid (HV3.out.below hb4)
            have HT4 := Lib.hid (HT3.out.carry hb4)
            have HX4 := Lib.hid (HX3.out.trans (hb4.mono (by omega)))
            have HN4 := Lib.hid (HN.out.carry hb4)
            have hR4 := hR3.carry hb4
            have hgP := hP4.lt
            clear HS3 HV3 HT3 HX3 HN HVN hR3 hb4 FR
            generalize wc.heap.size = gF at *
            go_cut [8, 11] (fun s8 s11 wx => s8 = .int .i64 0 ∧ s11 = .bool got ∧ ∃ (A4 : Option Addr) (c4 : Nat) (B4 : Option Addr) (m4 d4 : Nat) (C4 : Option Addr) (e4 : Nat) (D : Option Addr) (cd : Nat), Blk wx gN 50 #[.slice A4 n c4, .bool fin, .int .i64 (max nx hi), .int .i64 mx, .slice B4 m4 d4, .slice C4 k1_ e4, .bool EF, .bool over] ∧ Blk wx gF 59 #[.int .i64 kf, .int .i64 0, .int .i64 of, .bool F, .int .i64 0, .slice none 0 0, .slice D nd cd] ∧ KeptG gS gN gF (T.map (·.block)) wx (fun W => SnV W A4 n c4 bs fin (max nx hi) mx B4 m4 d4 (pcLost lost lo hi) C4 k1_ e4 acked EF over) ∧ Blk wx gS 50 #[.slice A1 n c1, .bool fin, .int .i64 nx, .int .i64 mx, .slice B1 m1 d1, .slice C1 k1_ e1, .bool ended, .bool over] ∧ GdRow wx (gS + 1) T cs fs ∧ Below gS w wx)
            case first =>
              -- [[sfirst
              have FS := HS4.out.facts8
              have FN := HN4.out.facts8
              have FP := hP4.facts7
              have FR := hR4.facts4
              go_region_held3 (fun w' => w'.cell? ⟨gS, 0, none⟩ = some (.slice A1 n c1) ∧ w'.cell? ⟨gS, 1, none⟩ = some (.bool fin) ∧ w'.cell? ⟨gS, 2, none⟩ = some (.int .i64 nx) ∧ w'.cell? ⟨gS, 3, none⟩ = some (.int .i64 mx) ∧ w'.cell? ⟨gS, 4, none⟩ = some (.slice B1 m1 d1) ∧ w'.cell? ⟨gS, 5, none⟩ = some (.slice C1 k1_ e1) ∧ w'.cell? ⟨gS, 6, none⟩ = some (.bool ended) ∧ w'.cell? ⟨gS, 7, none⟩ = some (.bool over) ∧ w'.cell? ⟨gR, 1, none⟩ = some (.int .i64 r.a) ∧ w'.cell? ⟨gR, 2, none⟩ = some (.int .i64 r.b)) (go_keep)
                (first
                  | (go_at_call_of 7 (Value.int .i64 r.a); refine (picked_at r.a 50 p1 o1.1 o1.2 (by decide) (by decide) HP1 _).mono ?_; rintro e3 w' ⟨rfl, rfl⟩)
                  | (go_at_call_of 7 (Value.int .i64 r.b); refine (picked_at r.b 50 p2 o2.1 o2.2 (by decide) (by decide) HP2 _).mono ?_; rintro e3 w' ⟨rfl, rfl⟩)
                  | (go_at_call 18; refine Calls.mono (snPiece_ok _ A1 n c1 bs fin nx mx B1 m1 d1 lost C1 k1_ e1 acked ended over (KeptG.below HV4.out (by (repeat (first | with_reducible exact (Below.refl _ _) | with_reducible refine Below.drew ?_ | (with_reducible refine Below.set4 ?_ ?side _ _ _ _; case side => (first | omega | (simp; omega) | (simp; done))) | (with_reducible refine Below.setCell ?_ ?side _; case side => (first | omega | (simp; omega) | (simp; done))) | (with_reducible refine Below.alloc ?_ ?side _; case side => (first | omega | (simp; omega) | (simp; done))))))).here p1 p2 p10 (by omega) p20 (by omega) lo hi HLO.out HHI.out F got HFF.out HG.out) ?_; rintro e3 w5 h5; unfold PieceS at h5; rw [HKF.out, HOF.out, HEF.out] at h5; obtain ⟨A4, c4, B4, m4, d4, C4, e4, D, nd', cd, rfl, hK5, hnd, hcd1, hcd2, hb5⟩ := h5; have hnd2 : nd = nd' := (HND.out).symm.trans hnd.symm; subst hnd2; have hbx : Below w4.heap.size w4 w5 := Below.trans (by (repeat (first | with_reducible exact (Below.refl _ _) | with_reducible refine Below.drew ?_ | (with_reducible refine Below.set4 ?_ ?side _ _ _ _; case side => (first | omega | (simp; omega) | (simp; done))) | (with_reducible refine Below.setCell ?_ ?side _; case side => (first | omega | (simp; omega) | (simp; done))) | (with_reducible refine Below.alloc ?_ ?side _; case side => (first | omega | (simp; omega) | (simp; done)))))) (hb5.mono (by first | (simp; done) | (simp; omega))); have FS := (HS4.out.carry hbx).facts8; have FN := (HN4.out.carry hbx).facts8; have FP := (hP4.carry hbx).facts7; have FR := (hR4.carry hbx).facts4; have hz5 : w4.heap.size ≤ w5.heap.size := hbx.size; have HN1 : ¬ gN = gS ∧ ¬ gS = gN ∧ ¬ gN = gR ∧ ¬ gR = gN ∧ ¬ gF = gS ∧ ¬ gS = gF ∧ ¬ gF = gR ∧ ¬ gR = gF ∧ ¬ gF = gN ∧ ¬ gN = gF := (by refine ⟨?_, ?_, ?_, ?_, ?_, ?_, ?_, ?_, ?_, ?_⟩ <;> omega); have HK5 := Lib.hid hK5; clear hK5 hnd))
              all_goals
                go_wp2_with fail
                go_meet
              all_goals
                clear HN1 FS FN FP FR
                refine ⟨rfl, rfl, A4, c4, B4, m4, d4, C4, e4, D, cd, Blk.farF (Blk.setS (HN4.out.carry hbx) _ _ _ _ _ _ _ _) (by omega) _ _ _ _ _ _ _, Blk.setF (Blk.farS (hP4.carry hbx) (by omega) _ _ _ _ _ _ _ _) _ _ _ _ _ _ _, ?kept, Blk.farF (Blk.farS (HS4.out.carry hbx) (by omega) _ _ _ _ _ _ _ _) (by omega) _ _ _ _ _ _ _, GdRow.set7 (GdRow.set8 (HT4.out.carry hbx) (fun k hk => by have := HTL.out k hk; omega) _ _ _ _ _ _ _ _) (fun k hk => by have := HTL.out k hk; omega) _ _ _ _ _ _ _, Below.setF (Below.setS (HX4.out.trans (hbx.mono (by omega))) (by omega) _ _ _ _ _ _ _ _) (by omega) _ _ _ _ _ _ _⟩
                case kept =>
                  have hk := HK5.out
                  have hk2 := fun W hW => (hk W hW).1
                  refine SpKeep.keptG hk2 (Eq.refl _) (Eq.refl _) ?_ ?_ ?_ ?_ ?_
                  · (first | omega | (simp; done) | (simp; omega))
                  · (first | omega | (simp; done) | (simp; omega))
                  · (first | omega | (simp; done) | (simp; omega))
                  · exact fun k hk' => by have := HTL.out k hk'; (first | omega | (simp; done) | (simp; omega))
                  (repeat (first | with_reducible exact Agr.refl _ _ _ | (with_reducible refine Agr.set8 ?_ ?side _ _ _ _ _ _ _ _; case side => (first | omega | (simp; done) | (simp; omega))) | (with_reducible refine Agr.set7 ?_ ?side _ _ _ _ _ _ _; case side => (first | omega | (simp; done) | (simp; omega))) | (with_reducible refine Agr.alloc ?_ ?side _; case side => (first | (simp; done) | (simp; omega))) | with_reducible refine Agr.drew ?_))
              -- ]]sfirst
            case rest =>
              -- [[srest
              obtain ⟨rfl, rfl, A4, c4, B4, m4, d4, C4, e4, D, cd, hN5, hP5, hV5, hS5, hT5, hX5⟩ := hcut
              clear HS4 HV4 HT4 HX4 HN4 hR4 hP4
              have hgF5 := hP5.lt
              cases got with
              | false =>
                go_wp2_with fail
                go_meet
                exact ⟨T, ns, cs, fs, 0, rfl, rfl, hfl, by omega, hS5, hT5, fun k hk => by have := HTL.out k hk; omega, hX5, .inl ⟨A4, n, c4, bs, fin, max nx hi, mx, B4, m4, d4, pcLost lost lo hi, C4, k1_, e4, acked, EF, over, rfl, hN5, hV5.re (.inr (.inl rfl)) (.inr (.inl rfl)), HFS.out⟩⟩
              | true =>
                obtain rfl : kf = 8 := by have h := HKF.out; simpa using h.symm
                obtain rfl : of = (lo : Int) := by have h := HOF.out; simpa using h.symm
                have FP := hP5.facts7
                have HN5 := Lib.hid hN5
                have HV5 := Lib.hid hV5
                have HS5 := Lib.hid hS5
                have HT5 := Lib.hid hT5
                have HX5 := Lib.hid hX5
                clear hN5 hV5 hS5 hT5 hX5
                go_wp2_with (at_builtin; refine wpList_addN fgc 7 88 fgc_len fgc_one rfl (.tmp 66) (.tmp 68) _ rfl 59 _ Try.underlying37 frInfoG rfl (by decide) (by decide) (gS + 1) T ns cs fs hfl rfl (HT5.out.o.alloc _) ⟨(lo : Int), nd, F, D, cd⟩ wc.heap.size 1 rfl (Rd.new _ _ _ 7 rfl) (ns + 1) rfl (by omega) (by simp; omega) ?_; intro g7 cap7 w7 hO7 hc7 hm7 hb7 hgr7 hat7 hlt7)
                go_meet
                have hga : ∀ k, (some (⟨g7, 0, none⟩ : Addr)).map (·.block) = some k → T.map (·.block) = some k ∨ wc.heap.size ≤ k := fun k hk => by
                  have hk : g7 = k := Option.some.inj hk
                  subst hk
                  rcases hat7 with h1 | h1
                  · exact .inl h1
                  · right; simp at h1; omega
                have hgb : (some (⟨g7, 0, none⟩ : Addr)).map (·.block) = some g7 := rfl
                have hg7N : g7 ≠ gN := fun e => by
                  rcases hga g7 hgb with h1 | h1
                  · have := HTL.out _ h1; omega
                  · omega
                have hnoT : ∀ g, g < wc.heap.size → gR ≤ g → some g ≠ T.map (·.block) := fun g h1 h2 e => by have := HTL.out g e.symm; omega
                refine ⟨some ⟨g7, 0, none⟩, ns + 1, cap7, fs ++ [⟨(lo : Int), nd, F, D, cd⟩], 0, rfl, rfl, by rw [List.length_append, hfl]; rfl, by omega, ?_, ⟨hO7⟩, fun k hk => by have hk : g7 = k := Option.some.inj hk; omega, ?_, .inl ⟨A4, n, c4, bs, fin, max nx hi, mx, B4, m4, d4, pcLost lost lo hi, C4, k1_, e4, acked, EF, over, rfl, ?_, ?_, HNEW.out D cd⟩⟩
                · exact (HS5.out.alloc _).grown hgr7 (fun e => by have := (HT5.out.lt gS e.symm).1; omega)
                · exact (HX5.out.alloc (by omega) _).grown hgr7 (by simp; omega) (fun j hj => by have := (HT5.out.lt j hj).1; omega)
                · exact (HN5.out.alloc _).grown hgr7 (hnoT gN (by omega) (by omega))
                · exact ((HV5.out.below ((Below.refl _ _).alloc (Nat.le_refl _) _)).grown hgr7 (fun k hk => by rcases hat7 with h1 | h1; (left; rw [← hk]; exact h1); (right; have hk : g7 = k := Option.some.inj hk; omega))).re (.inr (.inl rfl)) (.inr (.inl rfl))
              -- ]]srest
          -- ]]send
        ·
          -- [[told
          ·
            have t1 : (kd == 0) = false := by simp; omega
            have t2 : decide (kd < 3) = false := decide_eq_false (by omega)
            have t3 : decide (kd < 5) = true := decide_eq_true (by omega)
            by_cases hz : 0 < ns
            · have t4 : decide ((0 : Int) < (ns : Int)) = true := decide_eq_true (by omega)
              have t5 : decide (0 < ns) = true := decide_eq_true hz
              obtain ⟨j_, HJ, j0, j1⟩ := mod_ex r.a (ns : Int) (by omega)
              obtain ⟨j, rfl⟩ := Int.eq_ofNat_of_zero_le j0
              have hjn : j < ns := by omega
              obtain ⟨gT, oT, rfl, hcell⟩ := HT3.out.at_ (by omega)
              have hx := HF.out.part ended over (x := fs.getD j fgn) (by rw [List.getD, List.getElem?_eq_getElem (by omega)]; exact List.getElem_mem _)
              obtain ⟨x, hxe⟩ : ∃ x, fs.getD j fgn = x := ⟨_, rfl⟩
              have c0 := hcell j (by omega) 0 (.int .i64 8) (by decide) rfl
              have c1' := hcell j (by omega) 1 (.int .i64 0) (by decide) rfl
              have c2' := hcell j (by omega) 2 _ (by decide) rfl
              have c3 := hcell j (by omega) 3 _ (by decide) rfl
              have c4 := hcell j (by omega) 4 (.int .i64 0) (by decide) rfl
              have c5 := hcell j (by omega) 5 (.slice none 0 0) (by decide) rfl
              have c6 := hcell j (by omega) 6 _ (by decide) rfl
              rw [hxe] at c2' c3 c6 hx
              rw [Nat.add_zero] at c0
              have HPT := Lib.hid hx
              obtain ⟨xo, xn, xF, xD, xc⟩ := x
              simp only at c2' c3 c6
              obtain ⟨EF, hEF⟩ : ∃ EF, (ended && !xF) = EF := ⟨_, rfl⟩
              have HEF := Lib.hid hEF
              clear hcell hx hxe hEF
              go_wp2_with fail
              refine (picked_at r.a (ns : Int) (j : Int) o1.1 o1.2 (by omega) (by omega) HJ _).mono ?_
              rintro e3 w' ⟨rfl, rfl⟩
              go_upto_region 18 with (fail)
              refine wp_world (fun w' => Blk w' wc.heap.size 59 #[.int .i64 8, .int .i64 0, .int .i64 xo, .bool xF, .int .i64 0, .slice none 0 0, .slice xD xn xc] ∧ Below wc.heap.size wc w') ⟨Blk.new _ _ _, (Below.refl _ _).alloc (Nat.le_refl _) _⟩ ?_
              rintro w4 ⟨hP4, hb4⟩
              have HS4 := Lib.hid (HS3.out.carry hb4)
              have HV4 := Lib.hid (HV3.out.below hb4)
              have HT4 := Lib.hid (HT3.out.carry hb4)
              have HX4 := Lib.hid (HX3.out.trans (hb4.mono (by omega)))
              have HN4 := Lib.hid (HN.out.carry hb4)
              have hgP := hP4.lt
              clear HS3 HV3 HT3 HX3 HN HVN hR3 hb4 FR c0 c1' c2' c3 c4 c5 c6
              generalize wc.heap.size = gF at *
              have FS := HS4.out.facts8
              have FP := hP4.facts7
              have FN := HN4.out.facts8
              go_wp2_with fail
              refine (snLose_ok _ A1 n c1 bs fin nx mx B1 m1 d1 lost C1 k1_ e1 acked ended over HV4.out.here xo (xn : Int) xF HPT.out).mono ?_
              rintro e8 w8 h8
              unfold LoseS at h8
              rw [HEF.out] at h8
              obtain ⟨A4, c4, B4, m4, d4, C4, e4, rfl, hK8, hb8⟩ := h8
              have hP8 := hP4.carry hb8
              have HS8 := Lib.hid (HS4.out.carry hb8)
              have HV8 := Lib.hid (HV4.out.below hb8)
              have HT8 := Lib.hid (HT4.out.carry hb8)
              have HX8 := Lib.hid (HX4.out.trans (hb8.mono (by omega)))
              have HN8 := Lib.hid (HN4.out.carry hb8)
              have HK8 := Lib.hid (SpKeep.keptG (gS := gS) (gN := gN) (gF := gN) (bo := (some (⟨gT, oT, none⟩ : Addr)).map (·.block)) hK8 (Eq.refl _) (Eq.refl _) (by omega) (.inl (by omega)) (.inl (by omega)) (fun k hk => by have := HTL.out k hk; omega) (Agr.refl _ _ _))
              have hz8 := hb8.size
              clear FS FP FN HS4 HV4 HT4 HX4 HN4 hP4 hK8 hb8
              have FN := HN8.out.facts8
              go_upto_region 19 with (fail)
              refine wp_world (fun w' => Blk w' gN 50 #[.slice A4 n c4, .bool fin, .int .i64 nx, .int .i64 mx, .slice B4 m4 d4, .slice C4 k1_ e4, .bool EF, .bool over] ∧ Blk w' gF 59 #[.int .i64 8, .int .i64 0, .int .i64 xo, .bool xF, .int .i64 0, .slice none 0 0, .slice xD xn xc] ∧ Blk w' gS 50 #[.slice A1 n c1, .bool fin, .int .i64 nx, .int .i64 mx, .slice B1 m1 d1, .slice C1 k1_ e1, .bool ended, .bool over] ∧ KeptG gS gN gN ((some (⟨gT, oT, none⟩ : Addr)).map (·.block)) w' (fun W => SnV W A4 n c4 bs fin nx mx B4 m4 d4 (loseL lost acked xo (xn : Int)) C4 k1_ e4 acked EF over) ∧ KeptG gS gN gN ((some (⟨gT, oT, none⟩ : Addr)).map (·.block)) w' (fun W => SnV W A1 n c1 bs fin nx mx B1 m1 d1 lost C1 k1_ e1 acked ended over) ∧ GdRow w' (gS + 1) (some ⟨gT, oT, none⟩) cs fs ∧ Below gS w w') ⟨Blk.setS HN8.out _ _ _ _ _ _ _ _, Blk.farS hP8 (by omega) _ _ _ _ _ _ _ _, Blk.farS HS8.out (by omega) _ _ _ _ _ _ _ _, KeptG.set8 HK8.out (.inr (.inl rfl)) _ _ _ _ _ _ _ _, KeptG.set8 HV8.out (.inr (.inl rfl)) _ _ _ _ _ _ _ _, GdRow.set8 HT8.out (fun k hk => by have := HTL.out k hk; omega) _ _ _ _ _ _ _ _, Below.setS HX8.out (by omega) _ _ _ _ _ _ _ _⟩ ?_
              clear FN HS8 HV8 HT8 HX8 HN8 HK8 hP8
              rintro w9 ⟨hN9, hP9, hS9, hK9, hV9, hT9, hX9⟩
              have HN9 := Lib.hid hN9
              have HS9 := Lib.hid hS9
              have HK9 := Lib.hid hK9
              have HV9 := Lib.hid hV9
              have HT9 := Lib.hid hT9
              have HX9 := Lib.hid hX9
              have hgP9 := hP9.lt
              clear hN9 hS9 hK9 hV9 hT9 hX9
              have FS := HS9.out.facts8
              have FP := hP9.facts7
              have FN := HN9.out.facts8
              rcases hk with rfl | rfl
              · obtain ⟨e5, he5⟩ : ∃ e5 : Bool, (if xF = true then false else ended) = e5 := ⟨_, rfl⟩
                obtain ⟨o5, ho5⟩ : ∃ o5 : Bool, (if xF = true then true else over) = o5 := ⟨_, rfl⟩
                go_wp2_with fail
                refine (snHeard_ok _ A1 n c1 bs fin nx mx B1 m1 d1 lost C1 k1_ e1 acked ended over HV9.out.here xo (xn : Int) xF HPT.out).mono ?_
                rintro e10 w10 h10
                unfold HeardS at h10
                rw [he5, ho5] at h10
                obtain ⟨A5, c5, B5, m5, d5, C5, k5, e5', rfl, hK10, hb10⟩ := h10
                have HS10 := Lib.hid (HS9.out.carry hb10)
                have HT10 := Lib.hid (HT9.out.carry hb10)
                have HX10 := Lib.hid (HX9.out.trans (hb10.mono (by omega)))
                have HN10 := Lib.hid (HN9.out.carry hb10)
                have HK10 := Lib.hid (SpKeep.keptG (gS := gS) (gN := gN) (gF := gN) (bo := (some (⟨gT, oT, none⟩ : Addr)).map (·.block)) hK10 (Eq.refl _) (Eq.refl _) (by omega) (.inl (by omega)) (.inl (by omega)) (fun k hk => by have := HTL.out k hk; omega) (Agr.refl _ _ _))
                clear FS FP FN HS9 HV9 HT9 HX9 HN9 HK9 hP9 hK10 hb10 he5 ho5
                have FN := HN10.out.facts8
                go_wp2_with fail
                go_meet
                exact ⟨some ⟨gT, oT, none⟩, ns, cs, fs, 0, rfl, rfl, hfl, by omega, Blk.farS HS10.out (by omega) _ _ _ _ _ _ _ _, GdRow.set8 HT10.out (fun k hk => by have := HTL.out k hk; omega) _ _ _ _ _ _ _ _, fun k hk => by have := HTL.out k hk; omega, Below.setS HX10.out (by omega) _ _ _ _ _ _ _ _, .inl ⟨A5, n, c5, bs, fin, nx, mx, B5, m5, d5, _, C5, k5, e5', _, e5, o5, rfl, Blk.setS HN10.out _ _ _ _ _ _ _ _, KeptG.set8 HK10.out (.inr (.inl rfl)) _ _ _ _ _ _ _ _, HF.out⟩⟩
              · go_wp2_with fail
                go_meet
                exact ⟨some ⟨gT, oT, none⟩, ns, cs, fs, 0, rfl, rfl, hfl, by omega, HS9.out, HT9.out, fun k hk => by have := HTL.out k hk; omega, HX9.out, .inl ⟨A4, n, c4, bs, fin, nx, mx, B4, m4, d4, _, C4, k1_, e4, acked, EF, over, rfl, HN9.out, HK9.out, HF.out⟩⟩
            · obtain rfl : ns = 0 := by omega
              go_wp2_with fail
              all_goals first
                | (exfalso; rename_i hx hy; simp at hx; done)
                | (go_meet; exact ⟨T, 0, cs, fs, 0, rfl, rfl, hfl, by omega, HS3.out, HT3.out, fun k hk => by have := HTL.out k hk; omega, HX3.out, .inl ⟨A2, n, c2, bs, fin, nx, X, B2, m1, d2, lost, C2, k1_, e2, acked, ended, over, rfl, HN.out, HVN.out, HF.out⟩⟩)
          -- ]]told
        ·
          -- [[none
          go_wp2_with fail
          all_goals first
            | (exfalso; rename_i hx hy; simp at hx; done)
            | (go_meet; exact ⟨T, ns, cs, fs, 0, rfl, rfl, hfl, by omega, HS3.out, HT3.out, fun k hk => by have := HTL.out k hk; omega, HX3.out, .inl ⟨A2, n, c2, bs, fin, nx, X, B2, m1, d2, lost, C2, k1_, e2, acked, ended, over, rfl, HN.out, HVN.out, HF.out⟩⟩)
          -- ]]none
      case rest =>
        -- [[tail
        obtain ⟨T', ns', cs', fs', code, rfl, rfl, hl', hn', hS', hT', hTN, hX', hor⟩ := hcut
        clear HS3 HV3 HT3 HX3 hR3 HN HVN FR
        have hgS' := hS'.lt
        rcases hor with ⟨A3, n3, c3, bs3, fin3, nx3, mx3, B3, m3, d3, lost3, C3, k3, e3, acked3, ended3, over3, rfl, hN, hV3, hF3⟩ | ⟨hcode, hV3, hF3⟩
        · have FS := hS'.facts8
          have FN := hN.facts8
          go_upto_region 23 with (fail)
          refine wp_world (fun w' => Blk w' gS 50 #[.slice A3 n3 c3, .bool fin3, .int .i64 nx3, .int .i64 mx3, .slice B3 m3 d3, .slice C3 k3 e3, .bool ended3, .bool over3] ∧ KeptG gS gS gS (T'.map (·.block)) w' (fun W => SnV W A3 n3 c3 bs3 fin3 nx3 mx3 B3 m3 d3 lost3 C3 k3 e3 acked3 ended3 over3) ∧ GdRow w' (gS + 1) T' cs' fs' ∧ Below gS w w') ⟨Blk.setS hS' _ _ _ _ _ _ _ _, (KeptG.set8 hV3 (.inl rfl) _ _ _ _ _ _ _ _).re (.inl rfl) (.inl rfl), GdRow.set8 hT' (fun k hk => by have := (hT'.lt k hk).1; omega) _ _ _ _ _ _ _ _, Below.setS hX' (Nat.le_refl _) _ _ _ _ _ _ _ _⟩ ?_
          clear FS FN hS' hN hV3 hT' hX'
          rintro w7 ⟨hS7, hV7, hT7, hX7⟩
          have FS := hS7.facts8
          have hok := hV7.here.ok
          have x1 : decide (mx3 < nx3) = false := decide_eq_false (by have := hok.m0; omega)
          have x2 : decide ((n3 : Int) < nx3) = false := decide_eq_false (by have := hok.x1; omega)
          have HS7 := Lib.hid hS7
          have HV7 := Lib.hid hV7
          have HT7 := Lib.hid hT7
          have HX7 := Lib.hid hX7
          clear hS7 hV7 hT7 hX7 hok
          go_wp2_with fail
          refine (SnV.check HV7.out.here).mono ?_
          rintro e8 w8 ⟨rfl, hb8⟩
          have HS8 := Lib.hid (HS7.out.carry hb8)
          have hgS7 := HS7.out.lt
          have HG8 : Hid (GdSt w w8 gS (i + 1) (.slice T' ns' cs')) := Lib.hid ⟨A3, n3, c3, bs3, fin3, nx3, mx3, B3, m3, d3, lost3, C3, k3, e3, acked3, ended3, over3, T', ns', cs', fs', rfl, hl', hn', HS8.out, HV7.out.below hb8, HT7.out.carry hb8, hF3, HX7.out.trans (hb8.mono (by omega))⟩
          clear FS HS7 HV7 HT7 HX7 hb8
          have FS := HS8.out.facts8
          go_wp2_with fail
          go_roundw
          case rel => exact ⟨i + 1, by omega, by first | (go_num; done) | rfl, HG8.out⟩
          case measure => first | (simp [intOf]; done) | (simp [intOf]; omega)
        · have HS7 := Lib.hid hS'
          have HV7 := Lib.hid (hV3.re (gN' := gS) (gF' := gS) (.inl rfl) (.inl rfl))
          have HT7 := Lib.hid hT'
          have HX7 := Lib.hid hX'
          have x1 : decide (mx < nx) = false := decide_eq_false (by have := HOK.out.m0; omega)
          have x2 : decide ((n : Int) < nx) = false := decide_eq_false (by have := HOK.out.x1; omega)
          clear hS' hV3 hT' hX'
          have FS := HS7.out.facts8
          rcases hcode with rfl | rfl
          all_goals
            go_wp2_with fail
            refine (SnV.check HV7.out.here).mono ?_
            rintro e8 w8 ⟨rfl, hb8⟩
            have HS8 := Lib.hid (HS7.out.carry hb8)
            have HG8 : Hid (GdSt w w8 gS (i + 1) (.slice T' ns' cs')) := Lib.hid ⟨A1, n, c1, bs, fin, nx, mx, B1, m1, d1, lost, C1, k1_, e1, acked, ended, over, T', ns', cs', fs', rfl, hl', hn', HS8.out, HV7.out.below hb8, HT7.out.carry hb8, hF3, HX7.out.trans (hb8.mono (by omega))⟩
            clear FS HS7 HV7 HT7 HX7 hb8
            have FS := HS8.out.facts8
            go_wp2_with fail
            go_roundw
            case rel => exact ⟨i + 1, by omega, by first | (go_num; done) | rfl, HG8.out⟩
            case measure => first | (simp [intOf]; done) | (simp [intOf]; omega)
        -- ]]tail
    · obtain rfl : i = K := by omega
      -- [[last
      have FS := HS.out.facts8
      go_wp2_with fail
      refine (snHeard_far _ A1 n c1 bs fin nx mx B1 m1 d1 lost C1 k1_ e1 acked ended over HV.out.here).mono ?_
      rintro e8 w8 ⟨rfl, hb8⟩
      have HB8 := Lib.hid (HX.out.trans (hb8.mono (by omega)))
      have hz8 := hb8.size
      clear FS HS HV HT HX hb8
      go_upto_region 27 with (fail)
      refine wp_world (fun w' => Below gS w w' ∧ gS ≤ w'.heap.size) ⟨HB8.out.alloc (by omega) _, by simp; omega⟩ ?_
      rintro w9 ⟨hb9, hz9⟩
      have HB9 := Lib.hid hb9
      clear HB8 hb9
      go_wp2_with fail
      refine (senderTells_any _).mono ?_
      rintro e10 w10 ⟨rfl, hb10⟩
      have HB10 := Lib.hid (HB9.out.trans (hb10.mono hz9))
      clear HB9 hb10
      go_wp2_with fail
      go_ret
      exact ⟨by first | rfl | (simp; done), by rw [HGW.out]; exact HB10.out⟩
      -- ]]last
end Go.Proofs.Ytpmgoediglmofaa
