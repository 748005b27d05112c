/- The walk of the law SenderEver: whatever is lost is sent again, till all is heard of. -/
import Derived.Test.YtoonohhjcfceeaaSnTells
import Derived.Test.YtoonohhjcfceeaaEverIn
import Derived.Test.YtoonohhjcfceeaaTextOfWalk
import Derived.Test.YtoonohhjcfceeaaRawOpen
namespace Go.Proofs.Ytoonohhjcfceeaa
open Go.ChangeShapes Go.WideShapes Go.ChangeAt Go.RowKit
open Go.Maps (Keyed int_keyed keyOf_int_mk)
set_option linter.unusedVariables false

set_option maxRecDepth 100000 in
set_option maxHeartbeats 16000000 in
theorem senderEver_walk (s : ByteArray) (n : Int) (RA : Option Addr) (len cap : Nat) (rs : List RawD) (w : World) (hs : s.size ≤ 9223372036854775807) (hn : (Lit.int .i64 n).wf = true) (h : IsRaws w RA len cap rs) :
    Calls Try.prog 8 #[.string s, .int .i64 n, .slice RA len cap] w fun e w' => e = .returned (.bool true) ∧ Below w.heap.size w w' := by
  obtain ⟨nn0, nn1⟩ := i64_bounds' hn
  clear hn
  have hlc := h.2.2.1
  have hcm0 := h.2.2.2.1
  unfold maxLen at hcm0
  obtain ⟨kk, HK, k0, k1⟩ := mod_ex n 301 (by decide)
  obtain ⟨K, rfl⟩ := Int.eq_ofNat_of_zero_le k0
  have HRS := Lib.hid h
  clear h
  have hmm := @run_makeMap Try.prog
  go_enter Try.func8, Try.ntmps8
  go_wp2_with fail
  refine (text_any s n 300 K hs nn0 nn1 (by decide) (by decide) (Lib.hid (by have := HK.out; simpa using this)) (by omega) _).mono ?_
  rintro e w1 ⟨A, c, bs, rfl, hbl, hkc, hcm, hB, hb1⟩
  have HB1 := Lib.hid hb1
  have HBS := Lib.hid hB
  have HBL := Lib.hid hbl
  clear hb1 hB hbl
  go_wp2_with fail
  refine (snWrite_ok _ none 0 0 [] 0 300 none 0 0 [] none 0 0 [] false false (SnV.begin _ 300 (by decide) (by decide)) A K c bs HBL.out hkc hcm HBS.out (by omega) true bs rfl K (by omega)).mono ?_
  rintro e1 w2 ⟨A', c', B', d', C', k', rfl, hK, hb2⟩
  have HB2 := Lib.hid (HB1.out.trans (hb2.mono HB1.out.size))
  have HBS2 := Lib.hid (HBS.out.below hb2)
  have HKN := Lib.hid (SpKeep.keptN0 (gS := w2.heap.size) (gM := w2.heap.size + 1) hK (Nat.le_refl _) (Nat.le_succ _))
  clear hK hb2 HB1 HBS
  go_upto_block 0 with (fail)
  go_cut [11] (fun s11 wx => ∃ over : Bool, s11 = .bool over ∧ EvEnd w2 wx w2.heap.size (w2.heap.size + 1) K bs over len)
  case first =>
    go_wp2_with fail
    go_loopw [11, 32] (fun s11 iv wr => ∃ (i : Nat) (over : Bool), i ≤ 60 ∧ iv = .int .i64 (i : Int) ∧ s11 = .bool over ∧ EvSt w2 wr w2.heap.size (w2.heap.size + 1) K bs over len i) (fun _ iv _ => 60 - (intOf iv).toNat)
    case atStart =>
      refine ⟨0, false, by omega, rfl, rfl, 0, A', c', B', 0, d', [], C', 0, k', [], 0, .map [], ?_, ?_, ?_, Cnt.none, fun j => ⟨fun hj => by simp [Maps.has] at hj, fun hj => absurd hj (memR_nil j)⟩, EvOk.begin K len (by omega), by omega, ?_⟩
      · exact (Blk.new _ _ _).alloc _
      · exact (HKN.out.below ((Below.refl _ _).alloc (Nat.le_refl _) _)).below ((Below.refl _ _).alloc (Nat.le_refl _) _)
      · have h := MapU.made (w2.alloc (.cells #[.slice A' K c', .bool true, .int .i64 0, .int .i64 300, .slice B' 0 d', .slice C' 0 k', .bool false, .bool false] 55))
        simpa using h
      · exact ((Below.refl _ _).alloc (Nat.le_refl _) _).alloc (by simp) _
    case round =>
      obtain ⟨i, over, hi60, rfl, rfl, nx, A1, c1, B1, m1, d1, lost, C1, k1_, e1, acked, cnt, D, hS, hV, hM, hCn, hDa, hE, hcb, hX⟩ := hrel
      have HBG := Lib.hid (fun (W : World) (h : Below w2.heap.size w2 W) => HBS2.out.below h)
      have HRr := Lib.hid (HRS.out.keep (HB2.out.trans (hX.mono HB2.out.size)))
      have HX := Lib.hid hX
      have HV := Lib.hid hV
      have HM := Lib.hid hM
      have HS := Lib.hid hS
      have HCN := Lib.hid hCn
      have HDA := Lib.hid hDa
      have HE := Lib.hid hE
      have hgS := hS.lt
      have hgM := hM.lt
      clear hS hV hM hCn hDa hE hX HKN HBS2
      have hwS : w.heap.size ≤ w2.heap.size := HB2.out.size
      generalize w2.heap.size = gS at *
      have h300 := HE.out.n300
      by_cases h60 : i < 60
      · go_upto_region 9 with (fail)
        refine wp_world (fun w' => Blk w' wr.heap.size 71 #[.int .i64 0, .int .i64 0, .int .i64 0, .string ByteArray.empty] ∧ Below wr.heap.size wr w') ⟨Blk.new _ _ _, (Below.refl _ _).alloc (Nat.le_refl _) _⟩ ?_
        rintro w3 ⟨hR3, hb3⟩
        have HRr3 := Lib.hid (HRr.out.keep hb3)
        go_upto_if 39 with (fail)
        go_cut [] (fun wx => ∃ r : RawD, RawOk r ∧ (len ≤ i → r.a = 0) ∧ Blk wx wr.heap.size 71 #[.int .i64 r.kind, .int .i64 r.a, .int .i64 r.b, .string r.text] ∧ Below wr.heap.size wr wx)
        case first =>
          -- [[rawif
          as_aux_lemma =>
            by_cases hlt : i < len
            · obtain ⟨b, off, rfl, hcell⟩ := HRr3.out.at_ (by omega)
              obtain ⟨c0, c1_, c2, c3⟩ := hcell i hlt
              have hro := HRr3.out.2.2.2.2 i hlt
              generalize rs.getD i rawNone = r at *
              have hd : decide ((i : Int) < (len : Int)) = true := decide_eq_true (by omega)
              have hi0 : (0 : Int) ≤ (i : Int) := by omega
              have hi1 : (i : Int) < (len : Int) := by omega
              have FR := hR3.facts4
              clear hcell
              go_wp2_with fail
              go_meet
              refine ⟨r, hro, fun h => by omega, ((((hR3.set_ 0 _).set_ 1 _).set_ 2 _).set_ 3 _).as (by rfl), ?_⟩
              (repeat (first | with_reducible exact hb3 | with_reducible refine Below.drew ?_ | (with_reducible refine Below.set4 ?_ ?side _ _ _ _; case side => (first | omega | (simp; omega) | (simp; done))) | (with_reducible refine Below.setCell ?_ ?side _; case side => (first | omega | (simp; omega) | (simp; done))) | (with_reducible refine Below.alloc ?_ ?side _; case side => (first | omega | (simp; omega) | (simp; done)))))
            · have hd : decide ((i : Int) < (len : Int)) = false := decide_eq_false (by omega)
              go_wp2_with fail
              go_meet
              exact ⟨rawNone, ⟨⟨by decide, by decide⟩, ⟨by decide, by decide⟩, ⟨by decide, by decide⟩, by decide⟩, fun _ => rfl, hR3, hb3⟩
          -- ]]rawif
        case rest =>
          obtain ⟨r, hro, hr0, hR, hbr⟩ := hcut
          clear hR3 hb3 HRr3
          have HS4 := Lib.hid (HS.out.carry hbr)
          have HV4 := Lib.hid (HV.out.below hbr)
          have HM4 := Lib.hid (HM.out.below hbr)
          have HX4 := Lib.hid (HX.out.trans (hbr.mono (by omega)))
          have hgR4 := hR.lt
          clear HS HV HM HX HRr hbr
          generalize wr.heap.size = gR at *
          obtain ⟨o0, o1, o2, o3⟩ := hro
          obtain ⟨a', ha'⟩ : ∃ a', IntKind.i64.wrap (r.a + 39) = a' := ⟨_, rfl⟩
          have ha0 : -9223372036854775808 ≤ a' ∧ a' ≤ 9223372036854775807 := by rw [← ha', IntKind.wrap_i64]; omega
          obtain ⟨y, HY, y0, y1⟩ := mod_ex a' 100 (by decide)
          have hroom : len ≤ i → 1 + y = 40 := fun hh => by
            have h1 := hr0 hh
            rw [h1, IntKind.wrap_i64] at ha'
            have h2 := HY.out
            omega
          have hrm : IntKind.i64.wrap (1 + y) = 1 + y := IntWalk.i64_in _ (by omega)
          have HROOM := Lib.hid hroom
          obtain ⟨p0, p1, p2, p3, p4⟩ := HE.out.ok.pc (1 + y) 100 (by omega) (by decide)
          obtain ⟨lo, hlo⟩ : ∃ lo : Nat, pcLo nx lost (1 + y) = (lo : Int) := ⟨(pcLo nx lost (1 + y)).toNat, by omega⟩
          obtain ⟨hi, hhi⟩ : ∃ hi : Nat, pcHi K nx 300 lost (1 + y) 100 = (hi : Int) := ⟨(pcHi K nx 300 lost (1 + y) 100).toNat, by omega⟩
          rw [hlo, hhi] at p1
          rw [hhi] at p2
          have hlohi : lo ≤ hi := by omega
          have hhiK : hi ≤ K := by omega
          obtain ⟨F, hF⟩ : ∃ F, pcFin K true false over (hi : Int) = F := ⟨_, rfl⟩
          obtain ⟨got, hgot⟩ : ∃ got, (decide ((lo : Int) < (hi : Int)) || F) = got := ⟨_, rfl⟩
          obtain ⟨nd, hnd⟩ : ∃ nd, hi - lo = nd := ⟨_, rfl⟩
          have hndI : (lo : Int) + (nd : Int) = (hi : Int) := by omega
          have HLO := Lib.hid hlo
          have HHI := Lib.hid hhi
          have HF := Lib.hid hF
          have HG := Lib.hid hgot
          have hr0' := Lib.hid hr0
          have HND := Lib.hid hnd
          have HNDI := Lib.hid hndI
          have HN120 : Hid (nd ≤ 120) := Lib.hid (by rcases HE.out.pc (1 + y) (by omega) lo hi hlo hhi with ⟨x, l, _, h1, h2, _, _⟩ | ⟨_, h1, h2, _⟩ <;> omega)
          clear hlo hhi hF hgot p0 p1 p2 p3 p4 hroom hr0 hnd hndI
          obtain ⟨kd, hkd⟩ : ∃ kd : Int, (if got = true then (8 : Int) else 0) = kd := ⟨_, rfl⟩
          obtain ⟨off, hoff⟩ : ∃ off : Int, (if got = true then (lo : Int) else 0) = off := ⟨_, rfl⟩
          have HKD := Lib.hid hkd
          have HOFF := Lib.hid hoff
          clear hkd hoff
          have hz4 : gS + 1 < wc.heap.size := HM4.out.lt
          go_upto_region 11 with (fail)
          go_cut [14, 15, 16, 17] (fun s14 s15 s16 s17 wx => EvCut gS K bs wc nx lost acked over k1_ lo hi nd F got kd off s14 s15 s16 s17 wx)
          case first =>
            -- [[piece
            ·
              have FS := HS4.out.facts8
              have FR := hR.facts4
              go_region_held3 (fun w' => w'.cell? ⟨gS, 0, none⟩ = some (.slice A1 K c1) ∧ w'.cell? ⟨gS, 1, none⟩ = some (.bool true) ∧ w'.cell? ⟨gS, 2, none⟩ = some (.int .i64 nx) ∧ w'.cell? ⟨gS, 3, none⟩ = some (.int .i64 300) ∧ w'.cell? ⟨gS, 4, none⟩ = some (.slice B1 m1 d1) ∧ w'.cell? ⟨gS, 5, none⟩ = some (.slice C1 k1_ e1) ∧ w'.cell? ⟨gS, 6, none⟩ = some (.bool false) ∧ w'.cell? ⟨gS, 7, none⟩ = some (.bool over) ∧ w'.cell? ⟨gR, 1, none⟩ = some (.int .i64 r.a)) (go_keep)
                (first
                  | (go_at_call 10; refine (picked_at a' 100 y ha0.1 ha0.2 (by decide) (by decide) HY _).mono ?_; rintro e3 w' ⟨rfl, rfl⟩)
                  | (go_at_call 20; go_loud (refine Calls.mono (snPiece_ok _ A1 K c1 bs true nx 300 B1 m1 d1 lost C1 k1_ e1 acked false over (KeptN.below HV4.out (by (repeat (first | with_reducible exact (Below.refl _ _) | with_reducible refine Below.drew ?_ | (with_reducible refine Below.set4 ?_ ?side _ _ _ _; case side => (first | omega | (simp; omega) | (simp; done))) | (with_reducible refine Below.setCell ?_ ?side _; case side => (first | omega | (simp; omega) | (simp; done))) | (with_reducible refine Below.alloc ?_ ?side _; case side => (first | omega | (simp; omega) | (simp; done))))))).here (1 + y) 100 (by omega) (by omega) (by decide) (by decide) lo hi HLO.out HHI.out F got HF.out HG.out) ?_; rintro e3 w5 h5; unfold PieceS at h5; rw [HKD.out, HOFF.out] at h5; simp only [Bool.false_or] at h5; obtain ⟨A2, c2, B2, m2, d2, C2, k2, T, nd', cd, rfl, hK5, hnd, hcd1, hcd2, hb5⟩ := h5; have hnd2 : nd = nd' := (HND.out).symm.trans hnd.symm; subst hnd2; have hbx : Below wc.heap.size wc w5 := Below.trans (by (repeat (first | with_reducible exact (Below.refl _ _) | with_reducible refine Below.drew ?_ | (with_reducible refine Below.set4 ?_ ?side _ _ _ _; case side => (first | omega | (simp; omega) | (simp; done))) | (with_reducible refine Below.setCell ?_ ?side _; case side => (first | omega | (simp; omega) | (simp; done))) | (with_reducible refine Below.alloc ?_ ?side _; case side => (first | omega | (simp; omega) | (simp; done)))))) (hb5.mono (by first | (simp; done) | (simp; omega))); have FS := (HS4.out.carry hbx).facts8; have FR := (hR.carry hbx).facts4; have hcq := cell_under hb5; have hfq := frozen_under hb5; have hsq := hb5.size; (try simp at hsq); (try have hs1 : wc.heap.size < w5.heap.size := by omega); (try have hs2 : wc.heap.size + 1 < w5.heap.size := by omega); have hle : wc.heap.size ≤ w5.heap.size := (by omega); have HN1 : ¬ wc.heap.size = gS ∧ ¬ gS = wc.heap.size ∧ ¬ wc.heap.size + 1 = gS ∧ ¬ gS = wc.heap.size + 1 ∧ ¬ w5.heap.size = gS ∧ ¬ gS = w5.heap.size ∧ ¬ w5.heap.size + 1 = gS ∧ ¬ gS = w5.heap.size + 1 ∧ ¬ wc.heap.size = gR ∧ ¬ gR = wc.heap.size ∧ ¬ wc.heap.size + 1 = gR ∧ ¬ gR = wc.heap.size + 1 ∧ ¬ w5.heap.size = gR ∧ ¬ gR = w5.heap.size ∧ ¬ w5.heap.size + 1 = gR ∧ ¬ gR = w5.heap.size + 1 := (by refine ⟨?_, ?_, ?_, ?_, ?_, ?_, ?_, ?_, ?_, ?_, ?_, ?_, ?_, ?_, ?_, ?_⟩ <;> omega); have HK5 := Lib.hid hK5; clear hK5 hnd)))
              all_goals
                go_wp2_with fail
                go_meet
              all_goals
                refine ⟨_, _, A2, c2, B2, m2, d2, C2, k2, T, cd, rfl, rfl, rfl, rfl, ⟨?n1, ?n2, ?n3⟩, ?b14, ?b15, ?kept, hcd1, hcd2, ?bel⟩
                all_goals (clear hcq hfq FR FS HN1)
                case n1 => omega
                case n2 => omega
                case n3 => omega
                case b14 => (repeat (first | (with_reducible refine Blk.newE ?side; case side => (first | with_reducible rfl | (simp; done))) | with_reducible apply Blk.setS | (with_reducible refine Blk.farF ?_ ?side _ _ _ _ _ _ _; case side => (first | (simp; done) | omega | (simp; omega))) | with_reducible apply Blk.alloc | with_reducible apply Blk.drew | (with_reducible apply Blk.below (hb := hb5) (hg := ?side); case side => (first | (simp; done) | omega | (simp; omega)))))
                case b15 => (repeat (first | (with_reducible refine Blk.newE ?side; case side => (first | with_reducible rfl | (simp; done))) | with_reducible apply Blk.setF | (with_reducible refine Blk.farS ?_ ?side _ _ _ _ _ _ _ _; case side => (first | (simp; done) | omega | (simp; omega))) | with_reducible apply Blk.alloc | with_reducible apply Blk.drew | (with_reducible apply Blk.below (hb := hb5) (hg := ?side); case side => (first | (simp; done) | omega | (simp; omega)))))
                case kept =>
                  have hk := HK5.out
                  rw [HND.out] at hk
                  refine SpKeep.keptA hk (Eq.refl _) (Eq.refl _) ?_ ?_ ?_
                  · (first | omega | (simp; done) | (simp; omega))
                  · (first | omega | (simp; done) | (simp; omega))
                  (repeat (first | with_reducible exact Agr.refl _ _ _ | (with_reducible refine Agr.set8 ?_ ?side _ _ _ _ _ _ _ _; case side => (first | omega | (simp; done) | (simp; omega))) | (with_reducible refine Agr.set7 ?_ ?side _ _ _ _ _ _ _; case side => (first | omega | (simp; done) | (simp; omega))) | (with_reducible refine Agr.alloc ?_ ?side _; case side => (first | (simp; done) | (simp; omega))) | with_reducible refine Agr.drew ?_))
                case bel =>
                  (repeat (first | with_reducible exact hbx | with_reducible refine Below.drew ?_ | (with_reducible refine Below.setS ?_ ?side _ _ _ _ _ _ _ _; case side => (first | (simp; done) | omega | (simp; omega))) | (with_reducible refine Below.setF ?_ ?side _ _ _ _ _ _ _; case side => (first | (simp; done) | omega | (simp; omega))) | (with_reducible refine Below.alloc ?_ ?side _; case side => (first | (simp; done) | omega | (simp; omega)))))
            -- ]]piece
          case rest =>
            obtain ⟨g14, g15, A2, c2, B2, m2, d2, C2, k2, T, cd, rfl, rfl, rfl, rfl, ⟨hg1, hg2, hg3⟩, h14, h15, hV5, hcd1, hcd2, hbx⟩ := hcut
            have HS5 := Lib.hid (HS4.out.carry hbx)
            have HV50 := Lib.hid (HV4.out.below hbx)
            have HM5 := Lib.hid (HM4.out.below hbx)
            have HX5 := Lib.hid (HX4.out.trans (hbx.mono (by omega)))
            have hR5 := hR.carry hbx
            have HV5 := Lib.hid hV5
            clear HS4 HV4 HM4 HX4 hR hV5 hbx
            cases got with
            | false =>
              -- [[brk
              ·
                have hg := HG.out
                simp only [Bool.or_eq_false_iff, decide_eq_false_iff_not] at hg
                have HST := Lib.hid (fun hL : len ≤ 15 => HE.out.still (1 + y) (by omega) lo hi HLO.out HHI.out F HF.out hg.1 hg.2)
                clear hg
                go_wp2_with fail
                go_meet
                refine ⟨over, rfl, nx, A1, c1, B1, m1, d1, lost, C1, k1_, e1, acked, cnt, D, HS5.out, HV50.out.here, HM5.out, HCN.out, HDA.out, fun hL => ?_, HX5.out⟩
                obtain ⟨e1, e2, e3⟩ := HST.out hL
                have hE := HE.out
                rw [e1, e3] at hE
                obtain ⟨a1, a2⟩ := hE.all e2
                rw [e3]
                exact ⟨rfl, a1, a2⟩
              -- ]]brk
            | true =>
              obtain rfl : off = (lo : Int) := by have h := HOFF.out; simpa using h.symm
              have FS := HS5.out.facts8
              have FN := h14.facts8
              go_upto_region 16 with (fail)
              refine wp_world (fun w' => Blk w' gS 55 #[.slice A2 K c2, .bool true, .int .i64 (max nx hi), .int .i64 300, .slice B2 m2 d2, .slice C2 k1_ k2, .bool F, .bool over] ∧ Blk w' g15 59 #[.int .i64 kd, .int .i64 0, .int .i64 (lo : Int), .bool F, .int .i64 0, .slice none 0 0, .slice T nd cd] ∧ KeptN gS (gS + 1) w' (fun W => SnV W A2 K c2 bs true (max nx hi) 300 B2 m2 d2 (pcLost lost lo hi) C2 k1_ k2 acked F over ∧ RdB W T ((bs.drop lo).take nd)) ∧ MapU w' (gS + 1) cnt D ∧ Blk w' gR 71 #[.int .i64 r.kind, .int .i64 r.a, .int .i64 r.b, .string r.text] ∧ Below gS w2 w') ⟨Blk.setS HS5.out _ _ _ _ _ _ _ _, Blk.farS h15 (by omega) _ _ _ _ _ _ _ _, KeptN.set8 HV5.out _ _ _ _ _ _ _ _, MapU.set8 HM5.out (by omega) _ _ _ _ _ _ _ _, Blk.farS hR5 (by omega) _ _ _ _ _ _ _ _, Below.setS HX5.out (Nat.le_refl _) _ _ _ _ _ _ _ _⟩ ?_
              clear FS FN HS5 HV50 h14 h15 HV5 HM5 hR5 HX5
              rintro w6 ⟨hS6, hF6, hV6, hM6, hR6, hX6⟩
              have HS6 := Lib.hid hS6
              have HV6 := Lib.hid hV6
              have HM6 := Lib.hid hM6
              have HX6 := Lib.hid hX6
              have HR6 := Lib.hid hR6
              clear hS6 hV6 hM6 hX6 hR6
              have hF3 : F = true → hi = K := fun hf => by
                have h := HF.out; rw [hf] at h; unfold pcFin at h; simp at h; omega
              have HF3 := Lib.hid hF3
              clear hF3
              have HPT : Hid (partOk K true (max nx hi) F over (lo : Int) (nd : Int) F) := Lib.hid (by
                have h := HE.out.part (1 + y) (by omega) lo hi HLO.out HHI.out F HF.out
                rwa [show (hi : Int) - (lo : Int) = (nd : Int) by have := HNDI.out; omega] at h)
              have HGG : Hid ((lo : Int) < hi ∨ F = true) := Lib.hid (by have h := HG.out; simpa using h)
              go_cut [101] (fun s101 wx => s101 = .bool false ∧ Below w6.heap.size w6 wx)
              case first =>
                -- [[cmp
                as_aux_lemma =>
                  have HBr := Lib.hid (HBG.out _ HX6.out)
                  have hdd : ((bs.drop lo).take nd).length = nd := by rw [List.length_take, List.length_drop, HBL.out]; have := HND.out; omega
                  obtain ⟨T2, hT2⟩ : ∃ T2 : Option Addr, (if c = lo then A else Option.map (fun x : Addr => x.add lo) A) = T2 := ⟨_, rfl⟩
                  have hr2 : RdB w6 T2 ((bs.drop lo).take nd) := by
                    have h := (RdB.cut (k := lo) (cap := c) HBr.out (by rw [HBL.out]; omega) (by rw [HBL.out]; omega)).front (k := nd) (by rw [List.length_drop, HBL.out]; have := HND.out; omega)
                    rw [hT2] at h; exact h
                  obtain ⟨st, hst⟩ : ∃ st, byt ((bs.drop lo).take nd) = st := ⟨_, rfl⟩
                  have hs1 : ∀ (k : Nat) (cc : Nat), (convert 52 9 (.slice T nd cc)).run Try.prog (w6.drewN k) = .ok (.string st) (w6.drewN k) := fun k cc => by rw [← hst]; exact str2S (RdB.below HV6.out.here.2 ((Below.refl _ _).drewN1 k)) hdd
                  have hs2 : ∀ (k : Nat) (cc : Nat), (convert 52 9 (.slice T2 nd cc)).run Try.prog (w6.drewN k) = .ok (.string st) (w6.drewN k) := fun k cc => by rw [← hst]; exact str2S (RdB.below hr2 ((Below.refl _ _).drewN1 k)) hdd
                  have FF := hF6.facts7
                  have x1 : IntKind.i64.wrap ((lo : Int) + (nd : Int)) = (hi : Int) := by rw [IntKind.wrap_i64]; have := HNDI.out; omega
                  have x2 : decide ((K : Int) < (hi : Int)) = false := decide_eq_false (by omega)
                  have x5 : decide (K < hi) = false := decide_eq_false (by omega)
                  have u0 : (0 : Int) ≤ (lo : Int) := by omega
                  have u1 : (lo : Int) ≤ (hi : Int) := by omega
                  have u2 : (hi : Int) ≤ (c : Int) := by omega
                  have u3 : (0 : Int) ≤ (hi : Int) := by omega
                  have u4 : (lo : Int) ≤ (c : Int) := by omega
                  have hnd2 := HND.out
                  clear hst hr2 hdd HBr
                  cases F with
                  | false =>
                    go_quiet (fail)
                    go_wp2_with fail
                    go_meet
                    exact ⟨by first | rfl | (simp; done), (Below.refl _ _).drewN1 _⟩
                  | true =>
                    have h9 := HF3.out rfl
                    have x3 : ((hi : Int) == (K : Int)) = true := by simp [h9]
                    have x4 : ((hi : Int) != (K : Int)) = false := by simp [h9]
                    clear h9
                    go_quiet (fail)
                    go_wp2_with fail
                    go_meet
                    exact ⟨by first | rfl | (simp; done), (Below.refl _ _).drewN1 _⟩
                -- ]]cmp
              case rest =>
                -- [[after
                obtain ⟨rfl, hb7⟩ := hcut
                have HS7 := Lib.hid (HS6.out.carry hb7)
                have hF7 := hF6.carry hb7
                have HV7 := Lib.hid (HV6.out.below hb7)
                have HM7 := Lib.hid (HM6.out.below hb7)
                have HX7 := Lib.hid (HX6.out.trans (hb7.mono (by have := HM6.out.lt; omega)))
                have hR7 := HR6.out.carry hb7
                have hz7 : gS + 1 < wc.heap.size := HM7.out.lt
                clear HS6 hF6 HV6 HM6 HX6 HR6 hb7
                obtain ⟨q, HQ, q0, q1⟩ := mod_ex r.kind 3 (by decide)
                obtain ⟨LO, hLO⟩ : ∃ LO, (decide (i < len) && (q == 0)) = LO := ⟨_, rfl⟩
                have HLOS := Lib.hid hLO
                clear hLO
                go_upto_region 18 with (fail)
                go_cut [111] (fun s111 wx => s111 = .bool LO ∧ wx = wc)
                case first =>
                  -- [[pick
                  as_aux_lemma =>
                    have FR := hR7.facts4
                    by_cases hlt : i < len
                    · have hd : decide ((i : Int) < (len : Int)) = true := decide_eq_true (by omega)
                      go_wp2_with fail
                      refine (picked_at r.kind 3 q o0.1 o0.2 (by decide) (by decide) HQ _).mono ?_
                      rintro e3 w' ⟨rfl, rfl⟩
                      go_wp2_with fail
                      go_meet
                      exact ⟨by rw [← HLOS.out]; simp [hlt], rfl⟩
                    · have hd : decide ((i : Int) < (len : Int)) = false := decide_eq_false (by omega)
                      go_wp2_with fail
                      go_meet
                      exact ⟨by rw [← HLOS.out]; simp [hlt], rfl⟩
                  -- ]]pick
                case rest =>
                obtain ⟨rfl, rfl⟩ := hcut
                go_upto_if 111 with (fail)
                go_cut [11, 17] (fun s11 s17 wx => s17 = .int .i64 0 ∧ ∃ over' : Bool, s11 = .bool over' ∧ EvSt w2 wx gS (gS + 1) K bs over' len (i + 1))
                case first =>
                  have FS := HS7.out.facts8
                  have FF := hF7.facts7
                  cases LO with
                  | true =>
                    -- [[lose
                    ·
                      have hlt : i < len := by have h := HLOS.out; simp at h; exact h.1
                      have HEL : Hid (EvOk K (max nx hi) (loseL (pcLost lost lo hi) acked (lo : Int) (nd : Int)) acked over len (i + 1)) := Lib.hid (by
                        have h := HE.out.lose (1 + y) (by omega) hlt lo hi HLO.out HHI.out F HF.out
                        rwa [show (hi : Int) - (lo : Int) = (nd : Int) by have := HNDI.out; omega] at h)
                      go_wp2_with fail
                      refine (snLose_ok _ A2 K c2 bs true (max nx hi) 300 B2 m2 d2 (pcLost lost lo hi) C2 k1_ k2 acked F over HV7.out.here.1 (lo : Int) (nd : Int) F HPT.out).mono ?_
                      rintro e8 w8 h8
                      unfold LoseS at h8
                      rw [show (F && !F) = false by cases F <;> rfl] at h8
                      obtain ⟨A3, c3, B3, m3, d3, C3, k3, rfl, hK8, hb8⟩ := h8
                      have HK8 := Lib.hid (SpKeep.keptN (gS := gS) (gM := gS + 1) hK8 (by omega) (by omega))
                      have HS8 := Lib.hid (HS7.out.carry hb8)
                      have HM8 := Lib.hid (HM7.out.below hb8)
                      have HX8 := Lib.hid (HX7.out.trans (hb8.mono (by omega)))
                      clear FS FF hF7 hR7 HS7 HV7 HM7 HX7 hK8 hb8
                      have FS := HS8.out.facts8
                      go_wp2_with fail
                      go_meet
                      exact ⟨by first | rfl | (simp; done), over, by first | rfl | (simp; done), max nx hi, A3, c3, B3, m3, d3, _, C3, k1_, k3, acked, cnt, D, Blk.setS HS8.out _ _ _ _ _ _ _ _, KeptN.set8 HK8.out _ _ _ _ _ _ _ _, MapU.set8 HM8.out (by omega) _ _ _ _ _ _ _ _, HCN.out, HDA.out, HEL.out, by omega, Below.setS HX8.out (Nat.le_refl _) _ _ _ _ _ _ _ _⟩
                    -- ]]lose
                  | false =>
                    -- [[heard
                    ·
                      obtain ⟨ov, hov⟩ : ∃ ov : Bool, (if F = true then true else over) = ov := ⟨_, rfl⟩
                      have hLr : len ≤ i → 1 + y = 40 := HROOM.out
                      have HEH : Hid (EvOk K (max nx hi) (heardL (pcLost lost lo hi) (lo : Int) (nd : Int)) (heardA acked (lo : Int) (nd : Int)) ov len (i + 1)) := Lib.hid (by
                        have h := HE.out.heard (1 + y) (by omega) hLr lo hi HLO.out HHI.out F HF.out HGG.out
                        rw [show (hi : Int) - (lo : Int) = (nd : Int) by have := HNDI.out; omega] at h
                        rw [hov] at h
                        exact h)
                      have hacc := HE.out.ok.ha
                      have HMEM := Lib.hid (fun q => heardA_mem hacc (lo : Int) (nd : Int) (by omega) q)
                      clear hacc
                      go_wp2_with fail
                      refine (snHeard_ok _ A2 K c2 bs true (max nx hi) 300 B2 m2 d2 (pcLost lost lo hi) C2 k1_ k2 acked F over HV7.out.here.1 (lo : Int) (nd : Int) F HPT.out).mono ?_
                      rintro e8 w8 h8
                      unfold HeardS at h8
                      rw [show (if F = true then false else F) = false by cases F <;> rfl, hov] at h8
                      obtain ⟨A3, c3, B3, m3, d3, C3, k3, e3, rfl, hK8, hb8⟩ := h8
                      have HOV := Lib.hid hov
                      have HK8 := Lib.hid (KeptN.and (SpKeep.keptN (gS := gS) (gM := gS + 1) hK8 (by omega) (by omega)) ((HV7.out.imp (fun _ h => h.2)).below hb8))
                      have HS8 := Lib.hid (HS7.out.carry hb8)
                      have hF8 := hF7.carry hb8
                      have HM8 := Lib.hid (HM7.out.below hb8)
                      have HX8 := Lib.hid (HX7.out.trans (hb8.mono (by omega)))
                      clear FS FF hF7 hR7 HS7 HV7 HM7 HX7 hK8 hb8 hov
                      have FS := HS8.out.facts8
                      go_upto_region 21 with (fail)
                      refine wp_world (fun w' => EvIn w2 w' gS K bs (max nx hi) A3 c3 B3 m3 d3 (heardL (pcLost lost lo hi) (lo : Int) (nd : Int)) C3 k3 e3 (heardA acked (lo : Int) (nd : Int)) ov g15 kd (lo : Int) F T nd cd ((bs.drop lo).take nd) (cnt + 0) D) ⟨Blk.setS HS8.out _ _ _ _ _ _ _ _, Blk.farS hF8 (by omega) _ _ _ _ _ _ _ _, KeptN.set8 HK8.out _ _ _ _ _ _ _ _, MapU.set8 (cnt := cnt + 0) HM8.out (by omega) _ _ _ _ _ _ _ _, Below.setS HX8.out (Nat.le_refl _) _ _ _ _ _ _ _ _⟩ ?_
                      clear FS HS8 hF8 HK8 HM8 HX8
                      rintro w9 hI9
                      have FF := hI9.2.1.facts7
                      have HI9 := Lib.hid hI9
                      clear hI9
                      have hdd : ((bs.drop lo).take nd).length = nd := by rw [List.length_take, List.length_drop, HBL.out]; have := HND.out; omega
                      have HDD := Lib.hid hdd
                      have hnd130 := HN120.out
                      clear hdd
                      go_wp2_with fail
                      go_loopw [139] (fun iv wr => ∃ (j : Nat) (D' : DataW Unit), j ≤ nd ∧ iv = .int .i64 (j : Int) ∧ Cnt D' ∧ (∀ q : Int, Maps.has D' (.int .i64 q) = true ↔ (memR acked q ∨ ((lo : Int) ≤ q ∧ q < lo + j))) ∧ EvIn w2 wr gS K bs (max nx hi) A3 c3 B3 m3 d3 (heardL (pcLost lost lo hi) (lo : Int) (nd : Int)) C3 k3 e3 (heardA acked (lo : Int) (nd : Int)) ov g15 kd (lo : Int) F T nd cd ((bs.drop lo).take nd) (cnt + j) D') (fun iv _ => nd - (intOf iv).toNat)
                      case atStart =>
                        refine ⟨0, D, Nat.zero_le _, rfl, HCN.out, fun q => ?_, HI9.out⟩
                        rw [HDA.out q]
                        exact ⟨.inl, fun h => h.resolve_right (by omega)⟩
                      case round =>
                        obtain ⟨j, D', hj, rfl, hC9, hD9, hI9⟩ := hrel
                        have HC9 := Lib.hid hC9
                        have HD9 := Lib.hid hD9
                        have FF := hI9.2.1.facts7
                        have HI9 := Lib.hid hI9
                        clear hC9 hD9 hI9
                        by_cases hlt : j < nd
                        · obtain ⟨b9, off9, hT, hcell⟩ := RdB.cell HI9.out.2.2.1.here.2 (by rw [HDD.out]; omega)
                          have c0 := hcell j (by rw [HDD.out]; omega)
                          obtain ⟨v, hv⟩ : ∃ v : UInt8, ((bs.drop lo).take nd).getD j 0 = v := ⟨_, rfl⟩
                          rw [hv] at c0
                          obtain ⟨vi, hvi⟩ : ∃ vi : Int, ((v.toNat : Nat) : Int) = vi := ⟨_, rfl⟩
                          rw [hvi] at c0
                          have hwv : (Lit.int .u8 vi).wf = true := by exact u8_wfE v hvi
                          have hs9 : IntKind.i64.wrap ((lo : Int) + (j : Int)) = (lo : Int) + (j : Int) := IntWalk.i64_in _ (by omega)
                          have hwn : (Lit.int .i64 ((lo : Int) + (j : Int))).wf = true := wf_i64E _ (by omega) (by omega)
                          have hj0 : (0 : Int) ≤ (j : Int) := by omega
                          have hj1 : (j : Int) < (nd : Int) := by omega
                          clear hcell hv hvi
                          subst hT
                          go_wp2_with (at_mapUpdate; refine wpList_mapUpdate_own _ rfl _ _ _ 69 rfl 3 5 lawU Try.underlying69 _ (gS + 1) (cnt + j) D' rfl HI9.out.2.2.2.1 (by unfold maxLen; omega) _ _ _ rfl rfl (keyOf_int_mk Try.underlying3 hwn) _ [] (plainElem_int Try.underlying5 hwv) ?_; intro w10 hM10 hg10)
                          go_roundw
                          case rel =>
                            refine ⟨j + 1, D'.put (.int .i64 ((lo : Int) + (j : Int))) (.lit (.int .u8 vi)), by omega, by go_num, HC9.out.put HI9.out.2.2.2.1.tidy _ _, fun q => ?_, HI9.out.map hM10 hg10⟩
                            rw [has_step HI9.out.2.2.2.1.tidy HD9.out ((lo : Int) + (j : Int)) _ q]
                            push_cast
                            constructor
                            · rintro ((h | h) | h)
                              · exact .inl h
                              · exact .inr ⟨h.1, by omega⟩
                              · exact .inr ⟨by omega, by omega⟩
                            · rintro (h | h)
                              · exact .inl (.inl h)
                              · by_cases e : q = (lo : Int) + (j : Int)
                                · exact .inr e
                                · exact .inl (.inr ⟨h.1, by omega⟩)
                          case measure => first | (simp [intOf]; done) | (simp [intOf]; omega)
                        · obtain rfl : j = nd := by omega
                          have hcnt2 : cnt + j ≤ 130 * (i + 1) := by omega
                          have HFIN : Hid (∃ over' : Bool, ov = over' ∧ EvSt w2 wr gS (gS + 1) K bs over' len (i + 1)) := Lib.hid ⟨ov, rfl, max nx hi, A3, c3, B3, m3, d3, _, C3, k3, e3, _, cnt + j, D', HI9.out.1, HI9.out.2.2.1.imp (fun _ h => h.1), HI9.out.2.2.2.1, HC9.out, fun q => by rw [HD9.out q, HMEM.out q], HEH.out, hcnt2, HI9.out.2.2.2.2⟩
                          have hov := HOV.out
                          cases over with
                          | true =>
                            obtain rfl : true = ov := by rw [← hov]; cases F <;> rfl
                            clear hov
                            go_wp2_with fail
                            go_meet
                            obtain ⟨over', h1, h2⟩ := HFIN.out
                            exact ⟨by first | rfl | (simp; done), over', by rw [← h1], h2⟩
                          | false =>
                            obtain rfl : F = ov := by rw [← hov]; cases F <;> rfl
                            clear hov
                            go_wp2_with fail
                            go_meet
                            obtain ⟨over', h1, h2⟩ := HFIN.out
                            exact ⟨by first | rfl | (simp; done), over', by rw [← h1], h2⟩
                    -- ]]heard
                case rest =>
                  -- [[tail
                  as_aux_lemma =>
                    obtain ⟨rfl, over', rfl, nx', A', c', B', m', d', lost', C', k', e', acked', cnt', D', hS, hV, hM, hCn, hDa, hE', hcb', hX⟩ := hcut
                    have FS := hS.facts8
                    have HV := Lib.hid hV
                    have HM := Lib.hid hM
                    have HX := Lib.hid hX
                    have HS := Lib.hid hS
                    have HCN' := Lib.hid hCn
                    have HDA' := Lib.hid hDa
                    have HE' := Lib.hid hE'
                    clear hS hV hM hCn hDa hE' hX HS7 hF7 HV7 HM7 HX7 hR7
                    go_wp2_with fail
                    refine (SnV.check HV.out.here).mono ?_
                    rintro e8 w8 ⟨rfl, hb8⟩
                    have hz8 : gS + 1 < wc.heap.size := HM.out.lt
                    have HF8 : Hid (EvSt w2 w8 gS (gS + 1) K bs over' len (i + 1)) := Lib.hid ⟨nx', A', c', B', m', d', lost', C', k', e', acked', cnt', D', HS.out.carry hb8, HV.out.below hb8, HM.out.below hb8, HCN'.out, HDA'.out, HE'.out, hcb', HX.out.trans (hb8.mono (by omega))⟩
                    clear FS HS HV HM HX hb8
                    go_wp2_with fail
                    go_roundw
                    case rel => exact ⟨i + 1, over', by omega, by first | (go_num; done) | rfl, by first | rfl | (simp; done), HF8.out⟩
                    case measure => first | (simp [intOf]; done) | (simp [intOf]; omega)
                  -- ]]tail
                -- ]]after
      · -- [[last
        obtain rfl : i = 60 := by omega
        have HST := Lib.hid (fun hL : len ≤ 15 => HE.out.sixty hL (Nat.le_refl _))
        go_wp2_with fail
        go_meet
        refine ⟨over, rfl, nx, A1, c1, B1, m1, d1, lost, C1, k1_, e1, acked, cnt, D, HS.out, HV.out.here, HM.out, HCN.out, HDA.out, fun hL => ?_, HX.out⟩
        obtain ⟨e1, e2, e3⟩ := HST.out hL
        have hE := HE.out
        rw [e1, e3] at hE
        obtain ⟨a1, a2⟩ := hE.all e2
        rw [e3]
        exact ⟨rfl, a1, a2⟩
        -- ]]last
  case rest =>
    -- [[answer
    as_aux_lemma =>
      obtain ⟨over, rfl, nx, A1, c1, B1, m1, d1, lost, C1, k1_, e1, acked, cnt, D, hS, hV, hM, hCn, hDa, hQ, hX⟩ := hcut
      have HB9 := Lib.hid (HB2.out.trans (hX.mono HB2.out.size))
      obtain ⟨R, hR⟩ : ∃ R, overR K acked over = R := ⟨_, rfl⟩
      have HV9 := Lib.hid hV
      have HS9 := Lib.hid hS
      have HM9 := Lib.hid hM
      have HCN := Lib.hid hCn
      have HDA := Lib.hid hDa
      have HQ := Lib.hid hQ
      have HR := Lib.hid hR
      generalize w2.heap.size = gS at *
      clear hS hV hM hCn hDa hQ hX hR HKN HBS2
      have FS := HS9.out.facts8
      go_wp2_with fail
      refine (snOver_ok _ A1 K c1 bs true nx 300 B1 m1 d1 lost C1 k1_ e1 acked false over HV9.out R HR.out).mono ?_
      rintro e9 w9 ⟨rfl, hb9⟩
      have HM10 := Lib.hid (HM9.out.below hb9)
      have HB10 := Lib.hid (HB9.out.trans (hb9.mono HB9.out.size))
      clear FS HS9 HV9 HM9 HB9 hb9
      go_wp2_with fail
      refine (senderTells_any _).mono ?_
      rintro e10 w10 ⟨rfl, hb10⟩
      have HM11 := Lib.hid (HM10.out.below hb10)
      have HB11 := Lib.hid (HB10.out.trans (hb10.mono HB10.out.size))
      clear HM10 HB10 hb10
      by_cases hL : len ≤ 15
      · have hd : decide ((15 : Int) < (len : Int)) = false := decide_eq_false (by omega)
        obtain ⟨rfl, q1, q2⟩ := HQ.out hL
        obtain rfl : true = R := by rw [← HR.out, q1]
        have hsz : Maps.size D = K := Cnt.size HCN.out K fun q => by rw [HDA.out q, q2 q]
        have hlen : ∀ ty, (Builtin.len_ #[69] ty #[.map (some (gS + 1))]).run Try.prog w10 = .ok (.int .i64 (K : Int)) w10 := fun ty => by
          have h := World.ownsMap.len HM11.out Try.underlying69 ty
          rwa [hsz] at h
        clear q1 q2 hsz
        go_wp2_with fail
        go_ret
        exact ⟨by first | rfl | (simp; done), HB11.out⟩
      · have hd : decide ((15 : Int) < (len : Int)) = true := decide_eq_true (by omega)
        go_wp2_with fail
        go_ret
        exact ⟨by first | rfl | (simp; done), HB11.out⟩
    -- ]]answer
end Go.Proofs.Ytoonohhjcfceeaa
