/- The walk of the law FieldsLater: what was written is read later, too, as long as nothing of it went out of the table. -/
import Derived.Test.YtdmonacekjcedaaFTell
import Derived.Test.YtdmonacekjcedaaTableOfWalk
import Derived.Test.YtdmonacekjcedaaFieldsOfWalk
import Derived.Test.YtdmonacekjcedaaEncWalk
import Derived.Test.YtdmonacekjcedaaLaterP
import Derived.Test.YtdmonacekjcedaaPickAt
import Derived.Test.YtdmonacekjcedaaRawOpen
import Derived.Test.YtdmonacekjcedaaSomeWalk
namespace Go.Proofs.Ytdmonacekjcedaa
open Go.ChangeShapes Go.WideShapes Go.ChangeAt Go.RowKit
set_option linter.unusedVariables false

set_option maxRecDepth 100000 in
set_option maxHeartbeats 8000000 in
theorem fieldsLater_walk (RA : Option Addr) (len cap : Nat) (rs : List RawD) (MA : Option Addr) (mlen mcap : Nat) (ms : List RawD) (NA : Option Addr) (nlen ncap : Nat) (ns : List RawD) (w : World) (h : IsRaws w RA len cap rs) (hm : IsRaws w MA mlen mcap ms) (hn : IsRaws w NA nlen ncap ns) :
    Calls Try.prog 3 #[.slice RA len cap, .slice MA mlen mcap, .slice NA nlen ncap] w fun e w' => e = .returned (.bool true) ∧ Below w.heap.size w w' := by
  have hlc := h.2.2.1
  have hcm := h.2.2.2.1
  have hnlc := hn.2.2.1
  have hncm := hn.2.2.2.1
  obtain ⟨K2, hK2⟩ : ∃ K : Nat, min (len : Int) 2 = (K : Int) := ⟨(min (len : Int) 2).toNat, by omega⟩
  have HRS := Lib.hid (h.front K2 (by omega))
  have HMS := Lib.hid hm
  obtain ⟨K3, hK3⟩ : ∃ K : Nat, min (nlen : Int) 3 = (K : Int) := ⟨(min (nlen : Int) 3).toNat, by omega⟩
  have hK33 : K3 ≤ 3 := by omega
  have HNS := Lib.hid (hn.front K3 (by omega))
  have HK2 : Hid (∀ W, Calls Try.prog 8 #[.slice RA len cap, .int .i64 2] W fun e w' => e = .returned (.slice RA K2 cap) ∧ W = w') := Lib.hid (fun W => some_any RA len cap K2 2 hlc hcm (by decide) (by decide) hK2 W)
  have HK3 : Hid (∀ W, Calls Try.prog 8 #[.slice NA nlen ncap, .int .i64 3] W fun e w' => e = .returned (.slice NA K3 ncap) ∧ W = w') := Lib.hid (fun W => some_any NA nlen ncap K3 3 hnlc hncm (by decide) (by decide) hK3 W)
  clear h hm hn hK2 hK3
  go_enter Try.func3, Try.ntmps3
  go_wp2_with fail
  refine (HK2.out _).mono ?_
  rintro e1 w' ⟨rfl, rfl⟩
  go_wp2_with fail
  refine (tableOf_any 119 RA K2 cap _ _ (by decide) (by decide) HRS.out).mono ?_
  rintro e w5 ⟨r, A5, n5, c5, B5, m5, d5, al, R, rfl, hb5, hr40, hr160, hRn, hnc5, hcm5, halm, hmd, hdm, hm12, hTab, hrR, hral⟩
  have HB5 := Lib.hid hb5
  have hlen := hTab.len
  have HTV := Lib.hid (show TabV w5 (r : Int) (m5 : Int) A5 n5 c5 R from ⟨hRn, hnc5, hcm5, by omega, by omega, by omega, by omega, hTab.mem, by have := hTab.2.1; omega, hrR⟩)
  clear hb5 hrR hral hTab hRn hlen halm
  go_upto_region 2 with (fail)
  obtain ⟨gA, hgA⟩ : ∃ q, w5.heap.size = q := ⟨_, rfl⟩
  refine wp_world (fun w' => TabB w' gA (r : Int) (m5 : Int) A5 n5 c5 R ∧ Below w.heap.size w w') ⟨⟨Blk.newQ hgA, HTV.out.below ((Below.refl _ _).alloc (Nat.le_refl _) _)⟩, HB5.out.alloc HB5.out.size _⟩ ?_
  try rw [hgA]
  clear hgA HTV HB5
  rintro w6 ⟨hT6, hb6⟩
  have HT6 := Lib.hid hT6
  have HB6 := Lib.hid hb6
  clear hT6 hb6
  go_wp2_with fail
  refine (fieldsOf_any MA mlen mcap ms _ (HMS.out.keep HB6.out)).mono ?_
  rintro e w7 ⟨L, m, cL, fs, rfl, hfn, hm8, hmc, hcL, hfo, hrf, hb7⟩
  have HT7 := Lib.hid (HT6.out.below hb7)
  have HB7 := Lib.hid (HB6.out.trans (hb7.mono HB6.out.size))
  have HFN := Lib.hid hfn
  have HFO := Lib.hid hfo
  have HRF := Lib.hid hrf
  have FT := HT7.out.blk.facts3
  clear hfn hfo hrf hb7 HT6 HB6
  go_wp2_with fail
  refine (fEncode_any _ r (m5 : Int) A5 n5 c5 R HT7.out.tab true L m cL fs HFN.out hmc hcL HRF.out HFO.out hm8).mono ?_
  rintro e w8 ⟨A, n, c, A1, n1, c1, A2, n2, c2, told, need, ps, rfl, hQ, hV8, hB1, hB2, hb8⟩
  have HB8 := Lib.hid (HB7.out.trans (hb8.mono HB7.out.size))
  have HRF8 := Lib.hid (RdX.below HRF.out hb8)
  have HQ := Lib.hid hQ
  have HU8 := Lib.hid hV8
  have HB2 := Lib.hid hB2
  have hT8 : told.length ≤ 8 := by have := hQ.tl; have := HFN.out; omega
  clear HT7 HB7 HRF hb8 hV8 hB1 hB2 FT hQ
  obtain ⟨U, hU⟩ : ∃ U : Int, (m5 : Int) + (told.length : Int) = U := ⟨_, rfl⟩
  obtain ⟨RU, hRU⟩ : ∃ RU, R ++ told = RU := ⟨_, rfl⟩
  have hU1 : U ≤ 20 := by omega
  rw [hU, hRU] at HU8
  rw [hU]
  have hqq := HQ.out
  have HND : Hid ((need : Int) ≤ U) := Lib.hid (by have := hqq.nd; omega)
  have HOK : Hid (∀ p ∈ ps, RefOk U RU need p) := Lib.hid (by have := hqq.ok; rw [hU, hRU] at this; exact this)
  have HFST : Hid (ps.map Prod.fst = fs) := Lib.hid hqq.fst
  clear hqq HQ hU hRU hT8
  go_upto_region 4 with (fail)
  refine wp_world (fun w' => Blk w' w8.heap.size 25 #[.int .i64 (r : Int), .int .i64 U, .slice A n c] ∧ TabV w' (r : Int) U A n c RU ∧ RdX fcells 2 w' L fs ∧ BV w' A2 n2 c2 (secB need ps) ∧ Below w.heap.size w w')
    ⟨Blk.new _ _ _, HU8.out.below ((Below.refl _ _).alloc (Nat.le_refl _) _), RdX.below HRF8.out ((Below.refl _ _).alloc (Nat.le_refl _) _), HB2.out.below ((Below.refl _ _).alloc (Nat.le_refl _) _), HB8.out.alloc HB8.out.size _⟩ ?_
  clear HU8 HRF8 HB2 HB8
  rintro w9 ⟨hU9, hV9, hRF9, hB9, hb9⟩
  have FU := hU9.facts3
  have HV9 := Lib.hid hV9
  have HRF9 := Lib.hid hRF9
  have HB9 := Lib.hid hB9
  have HBB9 := Lib.hid hb9
  clear hU9 hV9 hRF9 hB9 hb9
  go_upto_region 5 with (fail)
  obtain ⟨gW, hgW⟩ : ∃ q, w9.heap.size = q := ⟨_, rfl⟩
  refine wp_world (fun w' => TabB w' gW (r : Int) U A n c RU ∧ Below gW w9 w') ⟨⟨Blk.newQ hgW, HV9.out.below ((Below.refl _ _).alloc (Nat.le_refl _) _)⟩, by rw [← hgW]; exact (Below.refl _ _).alloc (Nat.le_refl _) _⟩ ?_
  try rw [hgW]
  have HGW := Lib.hid hgW
  clear FU hgW
  rintro w10 ⟨hW10, hb10⟩
  have HW10 := Lib.hid hW10
  have HB10 := Lib.hid hb10
  clear hW10 hb10
  go_wp2_with fail
  refine (HK3.out _).mono ?_
  rintro e1 w' ⟨rfl, rfl⟩
  go_wp2_with fail
  go_loopw [44] (fun s44 wr => ∃ (j : Nat) (put : Int) (A' : Option Addr) (n' c' : Nat) (rows : List Fld), j ≤ K3 ∧ s44 = .int .i64 (j : Int) ∧ TabB wr gW (r : Int) put A' n' c' rows ∧ LatP U RU j put rows ∧ Below gW w9 wr) (fun s44 _ => ((K3 : Int) - intOf s44).toNat)
  case atStart => exact ⟨0, U, A, n, c, RU, Nat.zero_le _, rfl, HW10.out, LatP.zero U RU, HB10.out⟩
  case round =>
    obtain ⟨j, put, A', n', c', rows, hj, rfl, hT, hL, hB⟩ := hrel
    have HT := Lib.hid hT
    have HL := Lib.hid hL
    have HB := Lib.hid hB
    have hput : put ≤ 23 := by obtain ⟨more, d, _, _, h3, h4⟩ := hL; omega
    have hgl := hT.blk.lt
    clear hT hL hB HW10 HB10
    by_cases hlt : j < K3
    ·
      -- [[step
      obtain ⟨b, off, hNA, hcell⟩ := (HNS.out.keep (w' := wr) (HBB9.out.trans (HB.out.mono (by have := HBB9.out.size; have := HGW.out; omega)))).at_ (by omega)
      obtain ⟨c0, c1, c2, c3⟩ := hcell j hlt
      have hro := HNS.out.2.2.2.2 j hlt
      subst hNA
      generalize ns.take K3 = ns' at *
      generalize ns'.getD j rawNone = q at *
      have HRO := Lib.hid hro
      clear hcell hro
      go_upto_region 8 with (fail)
      obtain ⟨gR, hgR⟩ : ∃ q, wr.heap.size = q := ⟨_, rfl⟩
      refine wp_world (fun w' => Blk w' gR 35 #[.int .i64 q.kind, .int .i64 q.a, .int .i64 q.b, .string q.text] ∧ TabB w' gW (r : Int) put A' n' c' rows ∧ Below gW w9 w') ⟨Blk.newQ hgR, HT.out.below ((Below.refl _ _).alloc (Nat.le_refl _) _), HB.out.alloc (by omega) _⟩ ?_
      try rw [hgR]
      have hgWR : gW < gR := by omega
      clear c0 c1 c2 c3 HT HB hgR hgl
      rintro w11 ⟨hR11, hT11, hb11⟩
      have HR11 := Lib.hid hR11
      have HT11 := Lib.hid hT11
      have HB11 := Lib.hid hb11
      clear hR11 hT11 hb11
      obtain ⟨⟨x, y⟩, hF⟩ : ∃ F, fieldF q = F := ⟨_, rfl⟩
      have hfo : FOk (x, y) := by rw [← hF]; exact (fieldF_ok q).1
      have HFO2 : Hid (∀ W, Calls Try.prog 12 #[.agg #[.int .i64 q.kind, .int .i64 q.a, .int .i64 q.b, .string q.text]] W fun e w' => e = .returned (.agg #[.string x, .string y]) ∧ Below W.heap.size W w') := Lib.hid (fun W => fieldOf_any q HRO.out (x, y) hF W)
      have HINS : Hid (∀ W, Below w11.heap.size w11 W → Calls Try.prog 11 #[.agg #[.int .i64 (r : Int), .int .i64 put, .slice A' n' c'], .agg #[.string x, .string y]] W fun e w' => ∃ (p1 p2 : Int) (A3 : Option Addr) (n3 c3 : Nat) (E : Int), e = .returned (.tuple #[.agg #[.int .i64 p1, .int .i64 p2, .slice A3 n3 c3], .int .i64 E]) ∧ InsO r U RU (j + 1) p1 p2 A3 n3 c3 E w' ∧ Below W.heap.size W w') := Lib.hid (fun W hW => ins_any W r put A' n' c' rows (HT11.out.tab.below hW) (by omega) x y hfo U RU j HL.out)
      clear hF
      go_cut [18, 19] (fun s18 s19 wx => ∃ (g : Nat) (p1 p2 : Int) (A3 : Option Addr) (n3 c3 : Nat) (E : Int), s18 = .pointer (some ⟨g, 0, none⟩) ∧ s19 = .int .i64 E ∧ w11.heap.size ≤ g ∧ Blk wx g 25 #[.int .i64 p1, .int .i64 p2, .slice A3 n3 c3] ∧ InsO r U RU (j + 1) p1 p2 A3 n3 c3 E wx ∧ Below w11.heap.size w11 wx)
      case first =>
        have FT := HT11.out.blk.facts3
        have FR := HR11.out.facts4
        have hgl : gR < w11.heap.size := HR11.out.lt
        have n0 := World.new_ne w11 _ FT.2.1
        have n1 := World.new_ne w11 _ FR.2.1
        have n2' : ¬ w11.heap.size = gW := by omega
        have n3' : ¬ gW = w11.heap.size := by omega
        have n4' : ¬ w11.heap.size = gR := by omega
        have n5' : ¬ gR = w11.heap.size := by omega
        go_region_held3 (fun w' => w'.cell? ⟨gW, 0, none⟩ = some (.int .i64 (r : Int)) ∧ w'.cell? ⟨gW, 1, none⟩ = some (.int .i64 put) ∧ w'.cell? ⟨gW, 2, none⟩ = some (.slice A' n' c') ∧ w'.cell? ⟨gR, 0, none⟩ = some (.int .i64 q.kind) ∧ w'.cell? ⟨gR, 1, none⟩ = some (.int .i64 q.a) ∧ w'.cell? ⟨gR, 2, none⟩ = some (.int .i64 q.b) ∧ w'.cell? ⟨gR, 3, none⟩ = some (.string q.text)) (go_keep)
          (first
            | (go_at_call 12; (with_reducible refine (HFO2.out _).mono ?_); rintro e wp ⟨rfl, hbp⟩; have hsp : w11.heap.size ≤ wp.heap.size := (by have := hbp.size; first | omega | (simp at this; omega)); have hsp1 := hbp.size; (try simp at hsp1); (try have hs1 : w11.heap.size < wp.heap.size := by omega); have hcp := cell_under hbp; have hfp := frozen_under hbp; have np : ¬ wp.heap.size = gW := (by have := hbp.size; first | omega | (simp at this; omega)); have np2 : ¬ wp.heap.size = gR := (by have := hbp.size; first | omega | (simp at this; omega)); have k0 := hcp gW 0 (by first | omega | (simp; omega)); have k1 := hcp gW 1 (by first | omega | (simp; omega)); have k2 := hcp gW 2 (by first | omega | (simp; omega)); have k3 := hcp gR 0 (by first | omega | (simp; omega)); have k4 := hcp gR 1 (by first | omega | (simp; omega)); have k5 := hcp gR 2 (by first | omega | (simp; omega)); have k6 := hcp gR 3 (by first | omega | (simp; omega)))
            | (go_at_call 11; (with_reducible refine (HINS.out _ (by (repeat (first | with_reducible exact (Below.refl _ _) | with_reducible refine Below.drew ?_ | (with_reducible refine Below.set4 ?_ ?side _ _ _ _; case side => (first | omega | (simp; omega) | (simp; done))) | (with_reducible refine Below.setCell ?_ ?side _; case side => (first | omega | (simp; omega) | (simp; done))) | (with_reducible refine Below.alloc ?_ ?side _; case side => (first | omega | (simp; omega) | (simp; done))) | (with_reducible refine Below.trans ?_ (Below.mono hbp ?side); case side => (first | omega | (simp; omega) | (simp; done))))))).mono ?_); rintro e wq ⟨p1, p2, A3, n3, c3, E, rfl, hO, hbq⟩; have hsq : wp.heap.size ≤ wq.heap.size := (by have := hbq.size; first | omega | (simp at this; omega)); have hsq1 := hbq.size; (try simp at hsq1); (try have ht1 : w11.heap.size < wq.heap.size := by omega); (try have ht2 : wp.heap.size < wq.heap.size := by omega); have hcq := cell_under hbq; have hfq := frozen_under hbq; have nq : ¬ wq.heap.size = gW := (by have := hbq.size; have := hbp.size; first | omega | (simp at *; omega)); have nq2 : ¬ wq.heap.size = gR := (by have := hbq.size; have := hbp.size; first | omega | (simp at *; omega)); have l0 := hcq gW 0 (by have := hbp.size; first | omega | (simp at *; omega)); have l1 := hcq gW 1 (by have := hbp.size; first | omega | (simp at *; omega)); have l2 := hcq gW 2 (by have := hbp.size; first | omega | (simp at *; omega)); have l3 := hcq gR 0 (by have := hbp.size; first | omega | (simp at *; omega)); have l4 := hcq gR 1 (by have := hbp.size; first | omega | (simp at *; omega)); have l5 := hcq gR 2 (by have := hbp.size; first | omega | (simp at *; omega)); have l6 := hcq gR 3 (by have := hbp.size; first | omega | (simp at *; omega))))
        all_goals
          go_wp2_with fail
          go_meet
          refine ⟨_, p1, p2, A3, n3, c3, E, rfl, rfl, ?qg, ?qk, ?qo, ?qe⟩
          case qg => first | exact Nat.le_refl _ | omega
          case qk =>
            first
              | with_reducible exact Blk.new _ _ _
              | (refine Blk.set3 (x := .int .i64 0) (y := .int .i64 0) (z := .slice none 0 0) ?_ _ _ _
                 refine Blk.carry ?_ hbq
                 first
                   | (with_reducible refine Blk.newQ ?side; case side => (first | rfl | (simp; done)))
                   | (refine Blk.carry ?_ hbp; (repeat with_reducible refine Blk.drew ?_); with_reducible refine Blk.newQ ?side; case side => (first | rfl | (simp; done))))
          case qo =>
            first
              | with_reducible exact hO.re (fun rows hr => RdX.below hr ((Below.refl _ _).alloc (Nat.le_refl _) _))
              | (refine hO.re (fun rows hr => RdX.setT3 hr (a := 0) (b := 0) (X := none) (x := 0) (y := 0) (t := 25) ?_ _ _ _ _ _)
                 refine Blk.carry ?_ hbq
                 first
                   | (with_reducible refine Blk.newQ ?side; case side => (first | rfl | (simp; done)))
                   | (refine Blk.carry ?_ hbp; (repeat with_reducible refine Blk.drew ?_); with_reducible refine Blk.newQ ?side; case side => (first | rfl | (simp; done))))
          case qe =>
            first
              | (refine Below.set3 ?_ (Nat.le_refl _) _ _ _
                 refine Below.trans ?_ (Below.mono hbq hsp)
                 refine Below.trans ?_ (Below.mono hbp (by simp))
                 exact ((Below.refl _ _).alloc (Nat.le_refl _) _).drew)
              | (repeat (first | with_reducible exact (Below.refl _ _) | with_reducible refine Below.drew ?_ | (with_reducible refine Below.set4 ?_ ?side _ _ _ _; case side => (first | omega | (simp; omega) | (simp; done))) | (with_reducible refine Below.setCell ?_ ?side _; case side => (first | omega | (simp; omega) | (simp; done))) | (with_reducible refine Below.alloc ?_ ?side _; case side => (first | omega | (simp; omega) | (simp; done))) | (with_reducible refine Below.trans ?_ (Below.mono hbq ?side); case side => (first | omega | (simp; omega) | (simp; done))) | (with_reducible refine Below.trans ?_ (Below.mono hbp ?side); case side => (first | omega | (simp; omega) | (simp; done)))))
      case rest =>
        obtain ⟨g, p1, p2, A3, n3, c3, E, rfl, rfl, hg, hK, hO, hbx⟩ := hcut
        refine (show ∀ (a : Act) (w : World), Code.wp _ _ _ a w → _ from by assumption) _ _ ?_
        refine wp_world (fun w' => Blk w' g 25 #[.int .i64 p1, .int .i64 p2, .slice A3 n3 c3] ∧ InsO r U RU (j + 1) p1 p2 A3 n3 c3 E w' ∧ TabB w' gW (r : Int) put A' n' c' rows ∧ Below gW w9 w') ⟨hK, hO, HT11.out.below hbx, HB11.out.trans (hbx.mono (by have := HR11.out.lt; omega))⟩ ?_
        have hggW : gW < g := by have := HR11.out.lt; omega
        clear hK hO hbx HT11 HB11 HR11
        rintro w12 ⟨hK12, hO12, hT12, hb12⟩
        have FK := hK12.facts3
        have FT := hT12.blk.facts3
        have HT12 := Lib.hid hT12
        have HB12 := Lib.hid hb12
        clear hK12 hT12 hb12
        rcases hO12 with ⟨rfl, hp1, rows', hV, hL'⟩ | rfl
        · subst hp1
          have HV := Lib.hid hV
          have HL' := Lib.hid hL'
          clear hV hL'
          go_wp2_with fail
          go_roundw
          case rel => exact ⟨j + 1, p2, A3, n3, c3, rows', hlt, by go_num, TabB.store HV.out HT12.out.blk, HL'.out, Below.set3 HB12.out (Nat.le_refl _) _ _ _⟩
          case measure => simp [intOf]; omega
        · go_wp2_with fail
          go_roundw
          case rel => exact ⟨j + 1, put, A', n', c', rows, hlt, by go_num, HT12.out, HL.out.mono (Nat.le_succ _), HB12.out⟩
          case measure => simp [intOf]; omega
      -- ]]step
    ·
      -- [[fin
      obtain rfl : j = K3 := by omega
      have hsec : fdecR put rows (secB need ps) = (fs, 0) ∨ (fdecR put rows (secB need ps) = ([], 16) ∧ 0 < put - rows.length) := by
        have hps : ps.length ≤ 8 := by
          have h1 : ps.length = fs.length := by rw [← HFST.out, List.length_map]
          have h2 := HFN.out
          omega
        have h := fdec_lat HL.out HND.out (by omega) ps hps HOK.out
        rw [HFST.out] at h
        exact h
      have hV9 : Below w9.heap.size w9 wr := by rw [HGW.out]; exact HB.out
      have HRFz := Lib.hid (RdX.below HRF9.out hV9)
      have HBz := Lib.hid (HB9.out.below hV9)
      have HBBz := Lib.hid (HBB9.out.trans (hV9.mono HBB9.out.size))
      have FT := HT.out.blk.facts3
      have hn' := HT.out.tab.hn
      have h2' := HT.out.tab.h2
      have HNR := Lib.hid hn'
      clear hV9 HB HRF9 HB9 HBB9 hn'
      obtain ⟨out, E, hdec, hoE⟩ : ∃ (out : List Fld) (E : Int), fdecR put rows (secB need ps) = (out, E) ∧ ((out = fs ∧ E = 0) ∨ (out = [] ∧ E = 16 ∧ 0 < put - (n' : Int))) := by
        rcases hsec with h | ⟨h, h2⟩
        · exact ⟨_, _, h, .inl ⟨rfl, rfl⟩⟩
        · exact ⟨_, _, h, .inr ⟨rfl, rfl, by have := HNR.out; omega⟩⟩
      have HDEC := Lib.hid hdec
      have HOE := Lib.hid hoE
      clear hsec hdec hoE
      go_wp2_with fail
      refine (fDecode_any _ (r : Int) put A' n' c' rows HT.out.tab A2 _ n2 c2 HBz.out.hn HBz.out.hnc HBz.out.hcm HBz.out.rd out E HDEC.out).mono ?_
      rintro e w11 ⟨B7, m7, d7, rfl, hm7, hmd7, hdm7, hr7, hb11⟩
      have HT11 := Lib.hid (HT.out.below hb11)
      have HRF11 := Lib.hid (RdX.below HRFz.out hb11)
      have HBB11 := Lib.hid (HBBz.out.trans (hb11.mono HBBz.out.size))
      have HR11 := Lib.hid hr7
      have HM7 := Lib.hid hm7
      have FT2 := HT11.out.blk.facts3
      clear HT HRFz HBz HBBz FT hr7 hm7 hb11
      go_wp2_with fail
      refine (fieldsTell_any _).mono ?_
      rintro e w12 ⟨rfl, hb12⟩
      have HRF12 := Lib.hid (RdX.below HRF11.out hb12)
      have HBB12 := Lib.hid (HBB11.out.trans (hb12.mono HBB11.out.size))
      have HR12 := Lib.hid (RdX.below HR11.out hb12)
      clear HT11 HRF11 HBB11 HR11 FT2 hb12
      rcases HOE.out with ⟨ho, rfl⟩ | ⟨ho, rfl, hgone⟩
      · have hmm : m7 = m := by rw [← HM7.out, ho]; exact HFN.out
        subst hmm
        rw [ho] at HR12
        go_wp2_with fail
        refine (sameFields_eq B7 L m7 d7 cL fs HFN.out hmd7 hmc hdm7 hcL _ HR12.out HRF12.out).mono ?_
        rintro e w15 ⟨rfl, hb15⟩
        have HB15 := Lib.hid (HBB12.out.trans (hb15.mono HBB12.out.size))
        clear HBB12 HRF12 HR12 hb15
        go_wp2_with fail
        go_ret
        exact ⟨by first | rfl | (simp; done), HB15.out⟩
      · have d1 : decide ((0 : Int) < put - (n' : Int)) = true := decide_eq_true hgone
        go_wp2_with fail
        go_ret
        exact ⟨by first | rfl | (simp; done) | (simp; omega), HBB12.out⟩
      -- ]]fin
end Go.Proofs.Ytdmonacekjcedaa
