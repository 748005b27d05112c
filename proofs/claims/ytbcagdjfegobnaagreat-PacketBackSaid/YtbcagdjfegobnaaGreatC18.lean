/- Texts of the proof, laid together: UnpackWalk RangeWalk AddWalk RCutWalk HasBWalk SetBWalk NoteBWalk. -/
import Derived.Test.YtbcagdjfegobnaaGreatC16
import Derived.Test.YtbcagdjfegobnaaGreatC17
import Derived.Deep.RegionHeld3
import Derived.Test.YtbcagdjfegobnaaGreatC03
/- Packets: what Unpack makes of bytes (plain); its contract. -/
namespace Go.Proofs.YtbcagdjfegobnaaGreat
open Go.ChangeShapes Go.WideShapes Go.ChangeAt Go.RowKit
set_option linter.unusedVariables false

/-- What Unpack makes of the bytes behind a head of 'used' bytes. -/
def unpackF (key : Int) (size number used : Nat) (top : Int) (bs : List UInt8) : Int × List FrD × Int :=
  if size < 1 ∨ 4 < size ∨ bs.length < used then (0, [], 6) else
  if bs.length - used < 8 then (0, [], 4) else
  if opens key (wholeN (top + 1) (256 ^ size : Nat) number) (bs.take used) (bs.drop used) = false then (0, [], 10) else
  if (fall (openT key (wholeN (top + 1) (256 ^ size : Nat) number) (bs.drop used))).2 ≠ 0 then (0, [], (fall (openT key (wholeN (top + 1) (256 ^ size : Nat) number) (bs.drop used))).2) else
  (wholeN (top + 1) (256 ^ size : Nat) number, (fall (openT key (wholeN (top + 1) (256 ^ size : Nat) number) (bs.drop used))).1, 0)
/-- What Unpack answers. -/
def UnpOut (w : World) (r : Int × List FrD × Int) (e : Ending) (w' : World) : Prop :=
  ∃ (A : Option Addr) (k c : Nat) (xs : List FrM), e = .returned (.tuple #[.int .i64 r.1, .slice A k c, .int .i64 r.2.2]) ∧ xs.map (·.f) = r.2.1 ∧ xs.length = k ∧ FrRow w' w.heap.size A c xs ∧ Below w.heap.size w w'
theorem UnpOut.err {w w' : World} {E : Int} (hb : Below w.heap.size w w') : UnpOut w (0, [], E) (.returned (.tuple #[.int .i64 0, .slice none 0 0, .int .i64 E])) w' :=
  ⟨none, 0, 0, [], rfl, rfl, rfl, FrRow.nil _ _, hb⟩

theorem open_good (key n : Int) (hk0 : 0 ≤ key) (hk1 : key < 18446744073709551616) (A1 A2 : Option Addr) (p b : List UInt8) (l1 c1 l2 c2 : Nat) (hl1 : p.length = l1) (hl2 : b.length = l2) (w : World)
    (h1 : RdB w A1 p) (h2 : RdB w A2 b) (hs1 : l1 ≤ 9223372036854775807) (hs2 : l2 ≤ 140737488355328) (h8 : 8 ≤ l2) (hc2 : l2 ≤ c2) (hc2' : c2 ≤ 9223372036854775807) (m : Nat) (hm : m + 8 = l2) (ho : opens key n p b = true) :
    Calls Tryz.prog 66 #[.int .u64 key, .int .i64 n, .slice A1 l1 c1, .slice A2 l2 c2] w fun e w' =>
      ∃ A c, e = .returned (.tuple #[.slice A m c, .int .i64 0]) ∧ OwnB w' w.heap.size 5 A c (openT key n b) ∧ c ≤ 9223372036854775807 ∧ Below w.heap.size w w' :=
  (open_any key n hk0 hk1 A1 A2 p b l1 c1 l2 c2 hl1 hl2 w h1 h2 hs1 hs2 h8 hc2 hc2' m hm).mono (by
    rintro e w' (⟨_, h⟩ | ⟨h, _⟩)
    · exact h
    · rw [ho] at h; cases h)
theorem open_bad (key n : Int) (hk0 : 0 ≤ key) (hk1 : key < 18446744073709551616) (A1 A2 : Option Addr) (p b : List UInt8) (l1 c1 l2 c2 : Nat) (hl1 : p.length = l1) (hl2 : b.length = l2) (w : World)
    (h1 : RdB w A1 p) (h2 : RdB w A2 b) (hs1 : l1 ≤ 9223372036854775807) (hs2 : l2 ≤ 140737488355328) (h8 : 8 ≤ l2) (hc2 : l2 ≤ c2) (hc2' : c2 ≤ 9223372036854775807) (m : Nat) (hm : m + 8 = l2) (ho : opens key n p b = false) :
    Calls Tryz.prog 66 #[.int .u64 key, .int .i64 n, .slice A1 l1 c1, .slice A2 l2 c2] w fun e w' =>
      e = .returned (.tuple #[.slice none 0 0, .int .i64 10]) ∧ Below w.heap.size w w' :=
  (open_any key n hk0 hk1 A1 A2 p b l1 c1 l2 c2 hl1 hl2 w h1 h2 hs1 hs2 h8 hc2 hc2' m hm).mono (by
    rintro e w' (⟨h, _⟩ | ⟨_, h⟩)
    · rw [ho] at h; cases h
    · exact h)
theorem beB_snocU (s m r : Nat) (h1 : r + 1 ≤ s) : (beB s m).take (s - (r + 1)) ++ [UInt8.ofNat (m / 256 ^ r)] = (beB s m).take (s - r) := by
  have := beB_take s m (r + 1) (by omega) h1
  simpa using this
theorem Blk.noneF {w : World} {B : Option Addr} {bs : List UInt8} {n : Nat} (h : RdB w B bs) (hn : bs.length = n) (h0 : 0 < n) : ∃ b off, B = some ⟨b, off, none⟩ := by
  obtain ⟨b, off, e, _⟩ := h.cell (by omega)
  exact ⟨b, off, e⟩

set_option maxRecDepth 100000 in
set_option maxHeartbeats 4000000 in
theorem unpack_any (key : Int) (hk0 : 0 ≤ key) (hk1 : key < 18446744073709551616) (k t f : Nat) (T : Option Addr) (tn tc : Nat) (number size used : Nat) (hsz : size ≤ 4) (hnu : number < 256 ^ size) (top : Int) (ht0 : -1 ≤ top) (ht1 : top ≤ 4611686018427387903) (hu : used ≤ 100000)
    (B : Option Addr) (bn bc : Nat) (bs : List UInt8) (hbn : bs.length = bn) (hbc : bn ≤ bc) (hcm : bc ≤ 9223372036854775807) (hb400 : bn ≤ 100000) (hB0 : B = none → bc = 0) (w : World) (hB : RdB w B bs) :
    Calls Tryz.prog 32 #[.int .u64 key, .agg #[.int .i64 k, .int .i64 t, .int .i64 f, .slice T tn tc, .int .i64 number, .int .i64 size], .int .i64 used, .int .i64 top, .slice B bn bc] w
      (UnpOut w (unpackF key size number used top bs)) := by
  have HBN := Lib.hid hbn
  have HB := Lib.hid hB
  obtain ⟨R, hR⟩ : ∃ R, unpackF key size number used top bs = R := ⟨_, rfl⟩
  rw [hR]
  have HR := Lib.hid hR
  clear hbn hB hR
  have hs0 : (0 : Int) ≤ (size : Int) := by omega
  have hu0 : (0 : Int) ≤ (used : Int) := by omega
  by_cases hbad : size < 1 ∨ 4 < size ∨ bn < used
  -- [[bad
  · have HRR := HR.out
    unfold unpackF at HRR
    rw [HBN.out, if_pos hbad] at HRR
    subst HRR
    have h1 : ¬ (4 : Int) < (size : Int) := by omega
    clear HR HB HBN
    rcases Nat.eq_zero_or_pos size with rfl | hp
    · go_enter Tryz.func32, Tryz.ntmps32
      go_wp2_with fail
      go_ret3
      exact UnpOut.err ((Below.refl _ _).alloc (Nat.le_refl _) _)
    · have h2 : ¬ (size : Int) < 1 := by omega
      have h3 : (bn : Int) < (used : Int) := by omega
      go_enter Tryz.func32, Tryz.ntmps32
      go_wp2_with fail
      go_ret3
      exact UnpOut.err ((Below.refl _ _).alloc (Nat.le_refl _) _)
    -- ]]bad
  -- [[good
  have hs1 : 1 ≤ size := by omega
  have hub : used ≤ bn := by omega
  have h1 : ¬ (4 : Int) < (size : Int) := by omega
  have h2 : ¬ (size : Int) < 1 := by omega
  have h3 : ¬ (bn : Int) < (used : Int) := by omega
  go_enter Tryz.func32, Tryz.ntmps32
  go_upto_region 5 with (fail)
  refine wp_world (fun w' => Blk w' w.heap.size 61 #[.int .i64 k, .int .i64 t, .int .i64 f, .slice T tn tc, .int .i64 number, .int .i64 size] ∧ Below w.heap.size w w') ⟨Blk.new _ _ _, (Below.refl _ _).alloc (Nat.le_refl _) _⟩ ?_
  rintro w1 ⟨hH, hb1⟩
  have hg := hH.lt
  go_wp2_with fail
  go_loopw [13, 14] (fun s13 s14 wr => ∃ (r : Nat) (C : Option Addr) (l cc : Nat), r ≤ size ∧ s14 = .int .i64 ((r : Int) - 1) ∧ s13 = .slice C l cc ∧ l + r = size ∧ OwnX u8c 1 wr w1.heap.size 5 C cc ((beB size number).take (size - r)) ∧ Below w1.heap.size w1 wr) (fun _ s14 _ => (intOf s14 + 1).toNat)
  case atStart => exact ⟨size, none, 0, 0, Nat.le_refl _, rfl, rfl, by omega, by rw [Nat.sub_self]; exact OwnX.nil _ _ _, Below.refl _ _⟩
  case round =>
    obtain ⟨r, C, l, cc, hr, rfl, rfl, hl, hO, hbr⟩ := hrel
    have HO := Lib.hid hO
    have hHr := hH.carry hbr
    have hwr := hbr.size
    have HBR := Lib.hid hbr
    clear hO hbr hH
    rcases Nat.eq_zero_or_pos r with rfl | hpos
    -- [[end1
    · obtain rfl : l = size := by omega
      rw [Nat.sub_zero, List.take_of_length_le (by rw [beB_length]; exact Nat.le_refl _)] at HO
      have HV : Hid (valB (beB l number) 0 = number) := by show _ = _; rw [valB_beB _ _ _ hnu]; omega
      have HW := Lib.hid (whole_n top C (beB l number) l cc wr (beB_length _ _) hs1 hsz ht0 ht1 HO.out.rd.b _ rfl)
      rw [HV.out] at HW
      obtain ⟨N, hN⟩ : ∃ N, wholeN (top + 1) (256 ^ l : Nat) number = N := ⟨_, rfl⟩
      rw [hN] at HW
      have HRR := HR.out
      unfold unpackF at HRR
      rw [HBN.out, if_neg hbad, hN] at HRR
      have HR2 := Lib.hid HRR
      have hb := hb1.trans (HBR.out.mono hb1.size)
      have HBB := Lib.hid hb
      have HB5 := Lib.hid (HB.out.below hb)
      have FH := hHr.c6
      clear HRR HR hN hb HB hb1 HV
      go_wp2_with fail
      refine HW.out.mono ?_
      rintro e w' ⟨rfl, rfl⟩
      clear HW
      go_upto_region 11 with (fail)
      by_cases h8 : bn - used < 8
      -- [[short
      · have HRR := HR2.out
        rw [if_pos h8] at HRR
        subst HRR
        clear HR2
        rcases B with _ | ⟨bb, off, sp⟩
        · obtain rfl := hB0 rfl
          obtain rfl : bn = 0 := by omega
          obtain rfl : used = 0 := by omega
          go_region_with (go_at_call 66; refine (open_short key N _ _ _ _ _ _ (by omega) _).mono ?_; rintro e w' ⟨rfl, rfl⟩)
          all_goals
            go_wp2_with fail
            go_ret3
            exact UnpOut.err (by (repeat (first | with_reducible exact HBB.out | with_reducible refine Below.drew ?_ | (with_reducible refine Below.set4 ?_ ?side _ _ _ _; case side => (first | omega | (simp; omega) | (simp; done))) | (with_reducible refine Below.setCell ?_ ?side _; case side => (first | omega | (simp; omega) | (simp; done))) | (with_reducible refine Below.alloc ?_ ?side _; case side => (first | omega | (simp; omega) | (simp; done))))))
        · obtain ⟨D, hD⟩ : ∃ D, (if bc = used then (some (⟨bb, off, sp⟩ : Addr)) else some ((⟨bb, off, sp⟩ : Addr).add used)) = D := ⟨_, rfl⟩
          go_region_with (go_at_call 66; refine (open_short key N _ _ _ _ _ _ (by omega) _).mono ?_; rintro e w' ⟨rfl, rfl⟩)
          all_goals
            go_wp2_with fail
            go_ret3
            exact UnpOut.err (by (repeat (first | with_reducible exact HBB.out | with_reducible refine Below.drew ?_ | (with_reducible refine Below.set4 ?_ ?side _ _ _ _; case side => (first | omega | (simp; omega) | (simp; done))) | (with_reducible refine Below.setCell ?_ ?side _; case side => (first | omega | (simp; omega) | (simp; done))) | (with_reducible refine Below.alloc ?_ ?side _; case side => (first | omega | (simp; omega) | (simp; done))))))
        -- ]]short
      -- [[long
      · rw [if_neg h8] at HR2
        have hbcu : ¬ bc = used := by omega
        obtain ⟨m, hm⟩ : ∃ m, m + 8 = bn - used := ⟨bn - used - 8, by omega⟩
        have HTL : Hid ((bs.take used).length = used) := by show _ = _; rw [List.length_take, HBN.out]; omega
        have HDL : Hid ((bs.drop used).length = bn - used) := by show _ = _; rw [List.length_drop, HBN.out]
        have hdr := RdB.cut (k := used) (cap := bc) HB5.out (by rw [HBN.out]; omega) (by rw [HBN.out]; omega)
        have htk := HB5.out.front (k := used) (by rw [HBN.out]; omega)
        obtain ⟨bb, off, rfl, _⟩ := HB5.out.cell (by rw [HBN.out]; omega)
        rw [if_neg hbcu] at hdr
        have hdr2 : RdB wr (some ⟨bb, off + used, none⟩) (bs.drop used) := by simpa [add_none] using hdr
        have HDR : Hid (∀ W, Below wr.heap.size wr W → RdB W (some ⟨bb, off + used, none⟩) (bs.drop used)) := Lib.hid fun W hW => hdr2.below hW
        have HTK : Hid (∀ W, Below wr.heap.size wr W → RdB W (some ⟨bb, off, none⟩) (bs.take used)) := Lib.hid fun W hW => htk.below hW
        clear hdr hdr2 htk HB5
        by_cases hop : opens key N (bs.take used) (bs.drop used) = false
        -- [[bad2
        · have HRR := HR2.out
          rw [if_pos hop] at HRR
          subst HRR
          have HOP := Lib.hid hop
          clear HR2 hop
          go_region_with (go_at_call 66; refine (open_bad key N hk0 hk1 _ _ (bs.take used) (bs.drop used) used bc (bn - used) (bc - used) HTL.out HDL.out _ (HTK.out _ (Below.refl _ _).drew) (HDR.out _ (Below.refl _ _).drew) (by omega) (by omega) (by omega) (by omega) (by omega) m hm HOP.out).mono ?_; rintro e w' ⟨rfl, hb6⟩)
          all_goals
            go_wp2_with fail
            go_ret3
            exact UnpOut.err (by (repeat (first | with_reducible exact HBB.out | with_reducible refine Below.drew ?_ | (with_reducible refine Below.set4 ?_ ?side _ _ _ _; case side => (first | omega | (simp; omega) | (simp; done))) | (with_reducible refine Below.setCell ?_ ?side _; case side => (first | omega | (simp; omega) | (simp; done))) | (with_reducible refine Below.alloc ?_ ?side _; case side => (first | omega | (simp; omega) | (simp; done))) | (with_reducible refine Below.trans ?_ (Below.mono hb6 ?side); case side => (first | omega | (simp; omega) | (simp; done))))))
          -- ]]bad2
        -- [[good2
        · rw [if_neg hop] at HR2
          have HOP : Hid (opens key N (bs.take used) (bs.drop used) = true) := by show _ = _; simpa using hop
          have HOT : Hid ((openT key N (bs.drop used)).length = m) := by show _ = _; unfold openT; rw [turnB_length, List.length_take, HDL.out]; omega
          clear hop
          go_region_with (go_at_call 66; refine (open_good key N hk0 hk1 _ _ (bs.take used) (bs.drop used) used bc (bn - used) (bc - used) HTL.out HDL.out _ (HTK.out _ (Below.refl _ _).drew) (HDR.out _ (Below.refl _ _).drew) (by omega) (by omega) (by omega) (by omega) (by omega) m hm HOP.out).mono ?_; rintro e w6 ⟨A6, c6, rfl, hO6, hc6, hb6⟩)
          all_goals
            have hcp := hO6.cap
            rw [HOT.out] at hcp
            have HFA := Lib.hid (fAll_any A6 (openT key N (bs.drop used)) m c6 w6 HOT.out hO6.rd hcp.1 hc6 (by omega))
            have HB6 := Lib.hid (show Below w.heap.size w w6 by (repeat (first | with_reducible exact HBB.out | with_reducible refine Below.drew ?_ | (with_reducible refine Below.set4 ?_ ?side _ _ _ _; case side => (first | omega | (simp; omega) | (simp; done))) | (with_reducible refine Below.setCell ?_ ?side _; case side => (first | omega | (simp; omega) | (simp; done))) | (with_reducible refine Below.alloc ?_ ?side _; case side => (first | omega | (simp; omega) | (simp; done))) | (with_reducible refine Below.trans ?_ (Below.mono hb6 ?side); case side => (first | omega | (simp; omega) | (simp; done))))))
            clear hO6 hb6 hcp FH
            go_wp2_with fail
            refine HFA.out.mono ?_
            rintro e w7 ⟨A7, k7, c7, xs, rfl, hxs, hxl, hrow, hb7⟩
            have HB7 := Lib.hid (HB6.out.trans (hb7.mono HB6.out.size))
            have HROW := Lib.hid hrow
            have HXS := Lib.hid hxs
            have HXL := Lib.hid hxl
            have hz6 := HB6.out.size
            clear hb7 hrow hxs hxl HFA HB6
            generalize fall (openT key N (bs.drop used)) = F at *
            obtain ⟨F1, F2⟩ := F
            by_cases hF : F2 = 0
            · subst hF
              have HRR := HR2.out
              simp only [ne_eq, not_true_eq_false, if_false] at HRR
              subst HRR
              go_wp2_with fail
              go_ret3
              exact ⟨A7, k7, c7, xs, rfl, HXS.out, HXL.out, ⟨HROW.out.1.mono (by omega), HROW.out.2⟩, HB7.out⟩
            · have HRR := HR2.out
              simp only [ne_eq, hF, not_false_eq_true, if_true] at HRR
              subst HRR
              go_wp2_with fail
              go_ret3
              exact UnpOut.err HB7.out
          -- ]]good2
        -- ]]long
      -- ]]end1
    -- [[round1
    · obtain ⟨r, rfl⟩ : ∃ k, r = k + 1 := ⟨r - 1, by omega⟩
      obtain ⟨x, hx⟩ : ∃ x : UInt8, UInt8.ofNat (number / 256 ^ r) = x := ⟨_, rfl⟩
      have hz7 : Hid ((beB size number).take (size - (r + 1)) ++ [x] = (beB size number).take (size - r)) := by rw [← hx]; exact beB_snocU size number r hr
      have hxv : (x.toNat : Int) = (number / 256 ^ r % 256 : Nat) := by rw [← hx]; simp
      have HXV := Lib.hid hxv
      have HTL : Hid (((beB size number).take (size - (r + 1))).length = l) := by show _ = _; rw [List.length_take, beB_length]; omega
      have FH := hHr.c6
      clear hx hxv
      rcases (show r = 0 ∨ r = 1 ∨ r = 2 ∨ r = 3 by omega) with rfl | rfl | rfl | rfl
      all_goals
        go_wp2_with (at_builtin
                     refine wpList_appL u8c 1 u8c_one _ rfl (.tmp 44) (.tmp 51) _ rfl w1.heap.size 5 _ 1 Tryz.underlying30 u8_infoQ rfl (by decide) (by decide) C l cc _ rfl HTL.out (HO.out.alloc _) _ 1 1 [x] rfl rfl (RdB.one _ _ _ _ (by rw [HXV.out]; simp; try omega)).x _ hz7.out (l + 1) rfl (by omega) (by simp; omega) ?_
                     intro A8 c8 w8 hO8 hc8 hm8 hb8 hg8 ha8)
        go_roundw
        case rel => exact ⟨_, A8, _, c8, by omega, by go_num, rfl, by omega, hO8, (HBR.out.alloc hwr _).trans hb8⟩
        case measure => simp [intOf]
      -- ]]round1
  -- ]]good
end Go.Proofs.YtbcagdjfegobnaaGreat
/- The contract of ranges.fault. -/
namespace Go.Proofs.YtbcagdjfegobnaaGreat
open Go.ChangeShapes Go.WideShapes Go.ChangeAt Go.RowKit
set_option linter.unusedVariables false

theorem rFault_ok (A : Option Addr) (n c : Nat) (l : List Rng) (hn : l.length = n) (hl : goodFrom 0 l) (hnc : n ≤ c) (hcm : c ≤ 9223372036854775807) (lo hi : Int) (h0 : 0 ≤ lo) (h1 : lo ≤ hi) (h2 : hi ≤ 4611686018427387903) (w : World) (hr : RdX rcells 2 w A l) :
    Calls Tryz.prog 187 #[.slice A n c, .agg #[.int .i64 lo, .int .i64 hi]] w fun e w' => e = .returned (.int .i64 0) ∧ Below w.heap.size w w' := by
  have HN := Lib.hid hn
  have HL := Lib.hid hl
  have HR := Lib.hid hr
  clear hn hl hr
  go_enter Tryz.func187, Tryz.ntmps187
  go_wp2_with fail
  refine (rCheck_ok A n c l HN.out HL.out hnc hcm _ (HR.out.alloc _)).mono ?_
  rintro e w1 ⟨rfl, hb1⟩
  have hB := (Blk.new w 116 #[.int .i64 lo, .int .i64 hi]).carry hb1
  have hb : Below w.heap.size w w1 := ((Below.refl _ _).alloc (Nat.le_refl _) _).trans (hb1.mono (by simp))
  have FB := hB.two
  clear hb1 hB
  go_wp2_with fail
  refine (rgood_ok lo hi h0 h1 h2 _).mono ?_
  rintro e w2 ⟨rfl, hb2⟩
  go_wp2_with fail
  go_ret
  exact ⟨rfl, hb.trans (hb2.mono hb.size)⟩
end Go.Proofs.YtbcagdjfegobnaaGreat
/- The contract of ranges.Add. -/
namespace Go.Proofs.YtbcagdjfegobnaaGreat
open Go.ChangeShapes Go.WideShapes Go.ChangeAt Go.RowKit
set_option linter.unusedVariables false

theorem rngInfo : (Tryz.prog.info? 116).map (fun i => (i.zero, i.size, i.bytes)) = some (some (.agg #[.int .i64 0, .int .i64 0]), 2, 16) := by kernel_rfl

theorem addR_at (l : List Rng) (k : Nat) (hk : k < l.length) (r : Rng) (put : Bool) : addR (l.drop k) r put =
    (let x := l.getD k (0, 0)
     if x.2 + 1 < r.1 then x :: addR (l.drop (k + 1)) r put
     else if r.2 + 1 < x.1 then (if put then x :: addR (l.drop (k + 1)) r put else r :: x :: addR (l.drop (k + 1)) r true)
     else addR (l.drop (k + 1)) (min r.1 x.1, max r.2 x.2) put) := by
  rw [List.drop_eq_getElem_cons hk, show l.getD k (0, 0) = l[k] from by simp [List.getD, hk]]
  rfl

set_option maxRecDepth 100000 in
set_option maxHeartbeats 1000000 in
theorem rAdd_own (A : Option Addr) (n c : Nat) (l : List Rng) (hn : l.length = n) (hl : goodFrom 0 l) (hnc : n ≤ c) (hcm : c ≤ 9223372036854775807) (hnb : n ≤ 1000000) (lo hi : Int) (h0 : 0 ≤ lo) (h1 : lo ≤ hi) (h2 : hi ≤ 4611686018427387903)
    (R : List Rng) (k_ : Nat) (hR : addR l (lo, hi) false = R) (hk : R.length = k_) (w : World) (hr : RdX rcells 2 w A l) :
    Calls Tryz.prog 169 #[.slice A n c, .agg #[.int .i64 lo, .int .i64 hi]] w fun e w' => ∃ A' c', e = .returned (.tuple #[.slice A' k_ c', .int .i64 0]) ∧ k_ ≤ c' ∧ c' ≤ 9223372036854775807 ∧ OwnX rcells 2 w' w.heap.size 116 A' c' R ∧ Below w.heap.size w w' := by
  have HN := Lib.hid hn
  have HL := Lib.hid hl
  have HR := Lib.hid hr
  have HRR := Lib.hid hR
  have HK := Lib.hid hk
  clear hn hl hr hR hk
  go_enter Tryz.func169, Tryz.ntmps169
  go_wp2_with fail
  refine (rFault_ok A n c l HN.out HL.out hnc hcm lo hi h0 h1 h2 _ (HR.out.alloc _)).mono ?_
  rintro e w1 ⟨rfl, hb1⟩
  have hB := (Blk.new w 116 #[.int .i64 lo, .int .i64 hi]).carry hb1
  have hb : Below w.heap.size w w1 := ((Below.refl _ _).alloc (Nat.le_refl _) _).trans (hb1.mono (by simp))
  have hg := hB.lt
  clear hb1
  go_wp2_with fail
  go_loopw [7, 8, 19] (fun out put i wr => ∃ (k : Nat) (r1 r2 : Int) (p : Bool) (A' : Option Addr) (m c' : Nat) (xs : List Rng), k ≤ n ∧ i = .int .i64 k ∧ put = .bool p ∧ out = .slice A' m c' ∧ xs.length = m ∧ m ≤ 2 * k ∧
      Hid (xs ++ addR (l.drop k) (r1, r2) p = R) ∧ 0 ≤ r1 ∧ r1 ≤ r2 ∧ r2 ≤ 4611686018427387903 ∧ Blk wr w.heap.size 116 #[.int .i64 r1, .int .i64 r2] ∧ OwnX rcells 2 wr (w.heap.size + 1) 116 A' c' xs ∧ Below w.heap.size w wr) (fun _ _ i _ => n - (intOf i).toNat)
  case atStart => exact ⟨0, lo, hi, false, none, 0, 0, [], Nat.zero_le _, rfl, rfl, rfl, rfl, by decide, HRR.out, h0, h1, h2, hB, OwnX.nil _ _ _, hb⟩
  case round =>
    obtain ⟨k, r1, r2, p, A', m, c', xs, hk, rfl, rfl, rfl, hm, hmk, HX, q0, q1, q2, hB, hown, hb⟩ := hrel
    have HM := Lib.hid hm
    have HO := Lib.hid hown
    clear hm hown
    by_cases hlt : k < n
    · have hlen := HN.out
      obtain ⟨b, off, rfl, hcell⟩ := (RdX.below HR.out hb).rcell (by omega)
      obtain ⟨c0, c1⟩ := hcell k (by omega)
      obtain ⟨g0, g1, g2⟩ := goodFrom_at HL.out (by decide) k (by omega)
      have HX2 : Hid (xs ++ (let x := l.getD k (0, 0)
         if x.2 + 1 < r1 then x :: addR (l.drop (k + 1)) (r1, r2) p
         else if r2 + 1 < x.1 then (if p then x :: addR (l.drop (k + 1)) (r1, r2) p else (r1, r2) :: x :: addR (l.drop (k + 1)) (r1, r2) true)
         else addR (l.drop (k + 1)) (min r1 x.1, max r2 x.2) p) = R) := by
        have := HX.out; rw [addR_at l k (by omega)] at this; exact this
      obtain ⟨x1, x2, hx⟩ : ∃ x1 x2, l.getD k (0, 0) = (x1, x2) := ⟨_, _, rfl⟩
      rw [hx] at c0 c1 g0 g1 g2 HX2
      replace g0 : 0 ≤ x1 := g0
      replace g1 : x1 ≤ x2 := g1
      replace g2 : x2 ≤ 4611686018427387903 := g2
      clear hx HX hlen hcell
      have FB := hB.two
      have hgl := hB.lt
      by_cases h3 : x2 + 1 < r1
      · have HX3 : Hid ((xs ++ [(x1, x2)]) ++ addR (l.drop (k + 1)) (r1, r2) p = R) := by
          have := HX2.out; simp only [if_pos h3] at this; rw [List.append_assoc]; exact this
        clear HX2
        go_wp2_with (at_builtin
                     refine wpList_appX rcells 2 rcells_one _ rfl (.tmp 41) (.tmp 43) _ rfl (w.heap.size + 1) 116 _ 16 Tryz.underlying32 rngInfo rfl (by decide) (by decide) A' m c' xs rfl HM.out ((HO.out.alloc _).alloc _) _ 1 1 [(x1, x2)] rfl rfl (RdX.oneH _ _ (x1, x2) _ rfl rfl (by simp)) _ rfl (m + 1) rfl (by omega) (by simp; omega) ?_
                     intro A1 c2 w1 hO1 hc1 hc1' hb1 hgr1)
        have hBn : Blk w1 w.heap.size 116 #[.int .i64 r1, .int .i64 r2] := ((hB.alloc _).alloc _).below hb1 (by omega)
        have hbn := ((hb.alloc hb.size _).alloc (by simp; omega) _).trans (hb1.mono (by omega))
        clear FB hB hb hb1 c0 c1 HO
        go_wp2_with fail
        go_roundw
        case rel => exact ⟨k + 1, r1, r2, p, A1, m + 1, c2, xs ++ [(x1, x2)], by omega, by go_num, rfl, rfl, by simp [HM.out], by omega, HX3, q0, q1, q2, hBn, hO1, hbn⟩
        case measure => simp [intOf]; omega
      · by_cases h4 : r2 + 1 < x1
        · cases p
          · have HX3 : Hid (((xs ++ [(r1, r2)]) ++ [(x1, x2)]) ++ addR (l.drop (k + 1)) (r1, r2) true = R) := by
              have := HX2.out; simp only [if_neg h3, if_pos h4] at this; rw [List.append_assoc, List.append_assoc]; exact this
            clear HX2
            have hl1 : (xs ++ [(r1, r2)]).length = m + 1 := by simp [HM.out]
            have HL1 := Lib.hid hl1
            clear hl1
            go_wp2_with (first
              | (at_builtin
                 refine wpList_appX rcells 2 rcells_one _ rfl (.tmp 54) (.tmp 56) _ rfl (w.heap.size + 1) 116 _ 16 Tryz.underlying32 rngInfo rfl (by decide) (by decide) A' m c' xs rfl HM.out ((HO.out.alloc _).alloc _) _ 1 1 [(r1, r2)] rfl rfl (RdX.oneH _ _ (r1, r2) _ rfl rfl (by simp)) _ rfl (m + 1) rfl (by omega) (by simp; omega) ?_
                 intro A1 c2 w1 hO1 hc1 hc1' hb1 hgr1
                 have FX := (((Blk.new wr 116 #[.int .i64 x1, .int .i64 x2]).alloc _).grown hgr1 (fun h => (by have := (HO.out.lt _ h.symm).2; omega))).two
                 have HO1 := Lib.hid hO1
                 have hgx := hb1.size
                 simp at hgx
                 clear hO1)
              | (at_builtin
                 refine wpList_appX rcells 2 rcells_one _ rfl (.tmp 58) (.tmp 60) _ rfl (w.heap.size + 1) 116 _ 16 Tryz.underlying32 rngInfo rfl (by decide) (by decide) A1 (m + 1) c2 (xs ++ [(r1, r2)]) rfl HL1.out (HO1.out.alloc _) _ 1 1 [(x1, x2)] rfl rfl (RdX.oneH _ _ (x1, x2) _ rfl rfl (by simp)) _ rfl ((m + 1) + 1) rfl (by omega) (by simp; omega) ?_
                 intro A3 c3 w3 hO3 hc3 hc3' hb3 hgr3))
            have hBn : Blk w1 w.heap.size 116 #[.int .i64 r1, .int .i64 r2] := ((hB.alloc _).alloc _).below hb1 (by omega)
            have hbn := ((hb.alloc hb.size _).alloc (by simp; omega) _).trans (hb1.mono (by omega))
            clear FB hB hb hb1 c0 c1 HO
            have hBm : Blk w3 w.heap.size 116 #[.int .i64 r1, .int .i64 r2] := (hBn.alloc _).below hb3 (by omega)
            have hbm := (hbn.alloc hbn.size _).trans (hb3.mono (by omega))
            clear hbn hb3
            go_wp2_with fail
            go_roundw
            case rel => exact ⟨k + 1, r1, r2, true, A3, m + 1 + 1, c3, _, by omega, by go_num, rfl, rfl, by simp [HM.out], by omega, HX3, q0, q1, q2, hBm, hO3, hbm⟩
            case measure => simp [intOf]; omega
          · have HX3 : Hid ((xs ++ [(x1, x2)]) ++ addR (l.drop (k + 1)) (r1, r2) true = R) := by
              have := HX2.out; simp only [if_neg h3, if_pos h4, if_true] at this; rw [List.append_assoc]; exact this
            clear HX2
            go_wp2_with (at_builtin
                         refine wpList_appX rcells 2 rcells_one _ rfl (.tmp 58) (.tmp 60) _ rfl (w.heap.size + 1) 116 _ 16 Tryz.underlying32 rngInfo rfl (by decide) (by decide) A' m c' xs rfl HM.out ((HO.out.alloc _).alloc _) _ 1 1 [(x1, x2)] rfl rfl (RdX.oneH _ _ (x1, x2) _ rfl rfl (by simp)) _ rfl (m + 1) rfl (by omega) (by simp; omega) ?_
                         intro A1 c2 w1 hO1 hc1 hc1' hb1 hgr1)
            have hBn : Blk w1 w.heap.size 116 #[.int .i64 r1, .int .i64 r2] := ((hB.alloc _).alloc _).below hb1 (by omega)
            have hbn := ((hb.alloc hb.size _).alloc (by simp; omega) _).trans (hb1.mono (by omega))
            clear FB hB hb hb1 c0 c1 HO
            go_wp2_with fail
            go_roundw
            case rel => exact ⟨k + 1, r1, r2, true, A1, m + 1, c2, xs ++ [(x1, x2)], by omega, by go_num, rfl, rfl, by simp [HM.out], by omega, HX3, q0, q1, q2, hBn, hO1, hbn⟩
            case measure => simp [intOf]; omega
        · have HX3 : Hid (xs ++ addR (l.drop (k + 1)) (min r1 x1, max r2 x2) p = R) := by
            have := HX2.out; simp only [if_neg h3, if_neg h4] at this; exact this
          have hmn : (if x1 < r1 then x1 else r1) = min r1 x1 := by split <;> omega
          have hmx : (if r2 < x2 then x2 else r2) = max r2 x2 := by split <;> omega
          have hb01 : 0 ≤ min r1 x1 ∧ min r1 x1 ≤ max r2 x2 ∧ max r2 x2 ≤ 4611686018427387903 := by omega
          generalize min r1 x1 = y1 at *
          generalize max r2 x2 = y2 at *
          clear HX2
          go_wp2_with fail
          go_roundw
          case rel => exact ⟨k + 1, y1, y2, p, A', m, c', xs, by omega, by go_num, rfl, rfl, HM.out, by omega, HX3, hb01.1, hb01.2.1, hb01.2.2, (hB.set2 _ _).alloc _, ((HO.out.set_below (by simp) _).set_below (by simp) _).alloc _, ((hb.setCell (Nat.le_refl _) _).setCell (Nat.le_refl _) _).alloc (by have := hb.size; simpa using this) _⟩
          case measure => simp [intOf]; omega
    · obtain rfl : k = n := by omega
      have hd : l.drop k = [] := List.drop_of_length_le (by have := HN.out; omega)
      have HXe : Hid (xs ++ (if p then [] else [(r1, r2)]) = R) := by have := HX.out; rw [hd] at this; cases p <;> exact this
      have FB := hB.two
      have hgl := hB.lt
      clear HX hd
      cases p
      · go_wp2_with (at_builtin
                     refine wpList_appX rcells 2 rcells_one _ rfl (.tmp 65) (.tmp 67) _ rfl (w.heap.size + 1) 116 _ 16 Tryz.underlying32 rngInfo rfl (by decide) (by decide) A' m c' xs rfl HM.out (HO.out.alloc _) _ 1 1 [(r1, r2)] rfl rfl (RdX.oneH _ _ (r1, r2) _ rfl rfl (by simp)) _ rfl (m + 1) rfl (by omega) (by simp; omega) ?_
                     intro A1 c2 w1 hO1 hc1 hc1' hb1 hgr1)
        have hR : xs ++ [(r1, r2)] = R := HXe.out
        have hkk := HK.out
        rw [← hR] at hkk
        have hkm : m + 1 = k_ := by have := HM.out; simp at hkk; omega
        subst hkm
        rw [hR] at hO1
        go_ret2
        exact ⟨A1, c2, rfl, hc1, hc1', hO1.mono (by omega), (hb.alloc hb.size _).trans (hb1.mono (by omega))⟩
      · have hR : xs = R := by have := HXe.out; simpa using this
        have hkk := HK.out
        have hkm : m = k_ := by have := HM.out; rw [hR] at this; omega
        subst hkm
        have hO := HO.out
        rw [hR] at hO
        have hcp := hO.cap
        rw [hkk] at hcp
        have HO2 := Lib.hid hO
        clear hO hR hkk
        go_wp2_with fail
        go_ret2
        exact ⟨A', c', rfl, hcp.1, hcp.2, HO2.out.mono (by omega), hb⟩
end Go.Proofs.YtbcagdjfegobnaaGreat
/- The contract of ranges.Cut. -/
namespace Go.Proofs.YtbcagdjfegobnaaGreat
open Go.ChangeShapes Go.WideShapes Go.ChangeAt Go.RowKit
set_option linter.unusedVariables false

theorem cutR_at (l : List Rng) (k : Nat) (hk : k < l.length) (r : Rng) : cutR (l.drop k) r =
    (let x := l.getD k (0, 0)
     (if x.1 < r.1 then [(x.1, min x.2 (r.1 - 1))] else []) ++ ((if r.2 < x.2 then [(max x.1 (r.2 + 1), x.2)] else []) ++ cutR (l.drop (k + 1)) r)) := by
  rw [List.drop_eq_getElem_cons hk, show l.getD k (0, 0) = l[k] from by simp [List.getD, hk]]
  rfl

set_option maxRecDepth 100000 in
set_option maxHeartbeats 1000000 in
theorem rCut_own (A : Option Addr) (n c : Nat) (l : List Rng) (hn : l.length = n) (hl : goodFrom 0 l) (hnc : n ≤ c) (hcm : c ≤ 9223372036854775807) (hnb : n ≤ 1000000) (lo hi : Int) (h0 : 0 ≤ lo) (h1 : lo ≤ hi) (h2 : hi ≤ 4611686018427387903)
    (R : List Rng) (k_ : Nat) (hR : cutR l (lo, hi) = R) (hk : R.length = k_) (w : World) (hr : RdX rcells 2 w A l) :
    Calls Tryz.prog 186 #[.slice A n c, .agg #[.int .i64 lo, .int .i64 hi]] w fun e w' => ∃ A' c', e = .returned (.tuple #[.slice A' k_ c', .int .i64 0]) ∧ k_ ≤ c' ∧ c' ≤ 9223372036854775807 ∧ OwnX rcells 2 w' w.heap.size 116 A' c' R ∧ Below w.heap.size w w' := by
  have HN := Lib.hid hn
  have HL := Lib.hid hl
  have HR := Lib.hid hr
  have HRR := Lib.hid hR
  have HK := Lib.hid hk
  clear hn hl hr hR hk
  go_enter Tryz.func186, Tryz.ntmps186
  go_wp2_with fail
  refine (rFault_ok A n c l HN.out HL.out hnc hcm lo hi h0 h1 h2 _ (HR.out.alloc _)).mono ?_
  rintro e w1 ⟨rfl, hb1⟩
  have hB := (Blk.new w 116 #[.int .i64 lo, .int .i64 hi]).carry hb1
  have hb : Below w.heap.size w w1 := ((Below.refl _ _).alloc (Nat.le_refl _) _).trans (hb1.mono (by simp))
  clear hb1
  go_wp2_with fail
  go_loopw [7, 18] (fun out i wr => ∃ (k : Nat) (A' : Option Addr) (m c' : Nat) (xs : List Rng), k ≤ n ∧ i = .int .i64 k ∧ out = .slice A' m c' ∧ xs.length = m ∧ m ≤ 2 * k ∧
      Hid (xs ++ cutR (l.drop k) (lo, hi) = R) ∧ Blk wr w.heap.size 116 #[.int .i64 lo, .int .i64 hi] ∧ OwnX rcells 2 wr (w.heap.size + 1) 116 A' c' xs ∧ Below w.heap.size w wr) (fun _ i _ => n - (intOf i).toNat)
  case atStart => exact ⟨0, none, 0, 0, [], Nat.zero_le _, rfl, rfl, rfl, by decide, HRR.out, hB, OwnX.nil _ _ _, hb⟩
  case round =>
    obtain ⟨k, A', m, c', xs, hk, rfl, rfl, hm, hmk, HX, hB, hown, hb⟩ := hrel
    have HM := Lib.hid hm
    have HO := Lib.hid hown
    clear hm hown
    by_cases hlt : k < n
    · have hlen := HN.out
      obtain ⟨b, off, rfl, hcell⟩ := (RdX.below HR.out hb).rcell (by omega)
      obtain ⟨c0, c1⟩ := hcell k (by omega)
      obtain ⟨g0, g1, g2⟩ := goodFrom_at HL.out (by decide) k (by omega)
      have HX2 : Hid (xs ++ (let x := l.getD k (0, 0)
         (if x.1 < lo then [(x.1, min x.2 (lo - 1))] else []) ++ ((if hi < x.2 then [(max x.1 (hi + 1), x.2)] else []) ++ cutR (l.drop (k + 1)) (lo, hi))) = R) := by
        have := HX.out; rw [cutR_at l k (by omega)] at this; exact this
      obtain ⟨x1, x2, hx⟩ : ∃ x1 x2, l.getD k (0, 0) = (x1, x2) := ⟨_, _, rfl⟩
      rw [hx] at c0 c1 g0 g1 g2 HX2
      replace g0 : 0 ≤ x1 := g0
      replace g1 : x1 ≤ x2 := g1
      replace g2 : x2 ≤ 4611686018427387903 := g2
      clear hx HX hlen hcell
      have FB := hB.two
      have hgl := hB.lt
      obtain ⟨mn, hmn, hmn2⟩ : ∃ mn, (if lo - 1 < x2 then lo - 1 else x2) = mn ∧ min x2 (lo - 1) = mn := ⟨_, rfl, by split <;> omega⟩
      obtain ⟨mx, hmx, hmx2⟩ : ∃ mx, (if x1 < hi + 1 then hi + 1 else x1) = mx ∧ max x1 (hi + 1) = mx := ⟨_, rfl, by split <;> omega⟩
      simp only [hmn2, hmx2] at HX2
      clear hmn2 hmx2
      by_cases h3 : x1 < lo
      · by_cases h4 : hi < x2
        · obtain rfl : mn = lo - 1 := by rw [← hmn, if_pos (by omega)]
          obtain rfl : mx = hi + 1 := by rw [← hmx, if_pos (by omega)]
          clear hmn hmx
          have HX3 : Hid (((xs ++ [(x1, lo - 1)]) ++ [(hi + 1, x2)]) ++ cutR (l.drop (k + 1)) (lo, hi) = R) := by
            have := HX2.out; simp only [if_pos h3, if_pos h4] at this; unfold Hid; simpa [List.append_assoc] using this
          clear HX2
          have hl1 : (xs ++ [(x1, lo - 1)]).length = m + 1 := by simp [HM.out]
          have HL1 := Lib.hid hl1
          clear hl1
          go_wp2_with (first
              | (at_builtin
                 refine wpList_appX rcells 2 rcells_one _ rfl (.tmp 27) (.tmp 37) _ rfl (w.heap.size + 1) 116 _ 16 Tryz.underlying32 rngInfo rfl (by decide) (by decide) A' m c' xs rfl HM.out ((HO.out.alloc _).alloc _) _ 1 1 [(x1, lo - 1)] rfl rfl (RdX.oneH _ _ (x1, lo - 1) _ rfl rfl (by simp)) _ rfl (m + 1) rfl (by omega) (by simp; omega) ?_
                 intro A1 c2 w1 hO1 hc1 hc1' hb1 hgr1
                 have FX := (((Blk.new wr 116 #[.int .i64 x1, .int .i64 x2]).alloc _).grown hgr1 (fun h => (by have := (HO.out.lt _ h.symm).2; omega))).two
                 have FB1 := (((hB.alloc _).alloc _).below hb1 (by omega)).two
                 have HO1 := Lib.hid hO1
                 have hgx := hb1.size
                 simp at hgx
                 clear hO1)
              | (at_builtin
                 refine wpList_appX rcells 2 rcells_one _ rfl (.tmp 44) (.tmp 54) _ rfl (w.heap.size + 1) 116 _ 16 Tryz.underlying32 rngInfo rfl (by decide) (by decide) A1 (m + 1) c2 (xs ++ [(x1, lo - 1)]) rfl HL1.out (HO1.out.alloc _) _ 1 1 [(hi + 1, x2)] rfl rfl (RdX.oneH _ _ (hi + 1, x2) _ rfl rfl (by simp)) _ rfl ((m + 1) + 1) rfl (by omega) (by simp; omega) ?_
                 intro A3 c3 w3 hO3 hc3 hc3' hb3 hgr3))
          have hBn : Blk w1 w.heap.size 116 #[.int .i64 lo, .int .i64 hi] := ((hB.alloc _).alloc _).below hb1 (by omega)
          have hbn := ((hb.alloc hb.size _).alloc (by simp; omega) _).trans (hb1.mono (by omega))
          have hBm : Blk w3 w.heap.size 116 #[.int .i64 lo, .int .i64 hi] := (hBn.alloc _).below hb3 (by omega)
          have hbm := (hbn.alloc hbn.size _).trans (hb3.mono (by omega))
          clear FB FB1 FX hB hb hb1 c0 c1 HO hbn hb3
          go_wp2_with fail
          go_roundw
          case rel => exact ⟨k + 1, A3, m + 1 + 1, c3, _, by omega, by go_num, rfl, by simp [HM.out], by omega, HX3, hBm, hO3, hbm⟩
          case measure => simp [intOf]; omega
        · skip
          have HX3 : Hid ((xs ++ [(x1, mn)]) ++ cutR (l.drop (k + 1)) (lo, hi) = R) := by
            have := HX2.out; simp only [if_pos h3, if_neg h4] at this; unfold Hid; simpa [List.append_assoc] using this
          clear HX2
          go_wp2_with (first
              | (at_builtin
                 refine wpList_appX rcells 2 rcells_one _ rfl (.tmp 27) (.tmp 37) _ rfl (w.heap.size + 1) 116 _ 16 Tryz.underlying32 rngInfo rfl (by decide) (by decide) A' m c' xs rfl HM.out ((HO.out.alloc _).alloc _) _ 1 1 [(x1, mn)] rfl rfl (RdX.oneH _ _ (x1, mn) _ rfl rfl (by simp)) _ rfl (m + 1) rfl (by omega) (by simp; omega) ?_
                 intro A1 c2 w1 hO1 hc1 hc1' hb1 hgr1
                 have FX := (((Blk.new wr 116 #[.int .i64 x1, .int .i64 x2]).alloc _).grown hgr1 (fun h => (by have := (HO.out.lt _ h.symm).2; omega))).two
                 have FB1 := (((hB.alloc _).alloc _).below hb1 (by omega)).two
                 have HO1 := Lib.hid hO1
                 clear hO1))
          have hBn : Blk w1 w.heap.size 116 #[.int .i64 lo, .int .i64 hi] := ((hB.alloc _).alloc _).below hb1 (by omega)
          have hbn := ((hb.alloc hb.size _).alloc (by simp; omega) _).trans (hb1.mono (by omega))
          clear FB FB1 FX hB hb hb1 c0 c1 HO
          go_wp2_with fail
          go_roundw
          case rel => exact ⟨k + 1, A1, m + 1, c2, _, by omega, by go_num, rfl, by simp [HM.out], by omega, HX3, hBn, HO1.out, hbn⟩
          case measure => simp [intOf]; omega
      · by_cases h4 : hi < x2
        · skip
          have HX3 : Hid ((xs ++ [(mx, x2)]) ++ cutR (l.drop (k + 1)) (lo, hi) = R) := by
            have := HX2.out; simp only [if_neg h3, if_pos h4] at this; unfold Hid; simpa [List.append_assoc] using this
          clear HX2
          go_wp2_with (first
              | (at_builtin
                 refine wpList_appX rcells 2 rcells_one _ rfl (.tmp 44) (.tmp 54) _ rfl (w.heap.size + 1) 116 _ 16 Tryz.underlying32 rngInfo rfl (by decide) (by decide) A' m c' xs rfl HM.out ((HO.out.alloc _).alloc _) _ 1 1 [(mx, x2)] rfl rfl (RdX.oneH _ _ (mx, x2) _ rfl rfl (by simp)) _ rfl (m + 1) rfl (by omega) (by simp; omega) ?_
                 intro A1 c2 w1 hO1 hc1 hc1' hb1 hgr1
                 have FX := (((Blk.new wr 116 #[.int .i64 x1, .int .i64 x2]).alloc _).grown hgr1 (fun h => (by have := (HO.out.lt _ h.symm).2; omega))).two
                 have FB1 := (((hB.alloc _).alloc _).below hb1 (by omega)).two
                 have HO1 := Lib.hid hO1
                 clear hO1))
          have hBn : Blk w1 w.heap.size 116 #[.int .i64 lo, .int .i64 hi] := ((hB.alloc _).alloc _).below hb1 (by omega)
          have hbn := ((hb.alloc hb.size _).alloc (by simp; omega) _).trans (hb1.mono (by omega))
          clear FB FB1 FX hB hb hb1 c0 c1 HO
          go_wp2_with fail
          go_roundw
          case rel => exact ⟨k + 1, A1, m + 1, c2, _, by omega, by go_num, rfl, by simp [HM.out], by omega, HX3, hBn, HO1.out, hbn⟩
          case measure => simp [intOf]; omega
        · skip
          have HX3 : Hid (xs ++ cutR (l.drop (k + 1)) (lo, hi) = R) := by
            have := HX2.out; simp only [if_neg h3, if_neg h4] at this; unfold Hid; simpa [List.append_assoc] using this
          clear HX2
          go_wp2_with fail
          go_roundw
          case rel => exact ⟨k + 1, A', m, c', xs, by omega, by go_num, rfl, HM.out, by omega, HX3, hB.alloc _, HO.out.alloc _, hb.alloc hb.size _⟩
          case measure => simp [intOf]; omega
    · obtain rfl : k = n := by omega
      have hd : l.drop k = [] := List.drop_of_length_le (by have := HN.out; omega)
      have hR : xs = R := by have := HX.out; rw [hd] at this; simpa [cutR] using this
      have hkk := HK.out
      have hkm : m = k_ := by have := HM.out; rw [hR] at this; omega
      subst hkm
      have hO := HO.out
      rw [hR] at hO
      have hcp := hO.cap
      rw [hkk] at hcp
      have HO2 := Lib.hid hO
      clear hO hR hkk HX hd HO
      go_wp2_with fail
      go_ret2
      exact ⟨A', c', rfl, hcp.1, hcp.2, HO2.out.mono (by omega), hb⟩
end Go.Proofs.YtbcagdjfegobnaaGreat
/- The contracts of ranges.Has, and of the laws' has, sameRanges, rangesTell. -/
namespace Go.Proofs.YtbcagdjfegobnaaGreat
open Go.ChangeShapes Go.WideShapes Go.ChangeAt Go.RowKit
set_option linter.unusedVariables false

/-- Is a number in one of the ranges? -/
def hasB (l : List Rng) (n : Int) : Bool := l.any fun x => decide (x.1 ≤ n ∧ n ≤ x.2)
theorem hasB_iff (l : List Rng) (n : Int) : hasB l n = true ↔ memR l n := by
  simp [hasB, memR]
theorem hasB_congr {l m : List Rng} {a b : Int} (h : memR l a ↔ memR m b) : hasB l a = hasB m b := by
  rw [Bool.eq_iff_iff, hasB_iff, hasB_iff, h]
theorem hasB_take (l : List Rng) (k : Nat) (n : Int) (hk : k < l.length) : hasB (l.take (k + 1)) n = (hasB (l.take k) n || decide ((l.getD k (0, 0)).1 ≤ n ∧ n ≤ (l.getD k (0, 0)).2)) := by
  rw [List.take_succ_eq_append_getElem hk, hasB, hasB, List.any_append]
  simp [List.getD, hk]
theorem hasB_of_take {l : List Rng} {k : Nat} {n : Int} (h : hasB (l.take k) n = true) : hasB l n = true := by
  rw [hasB_iff] at h ⊢
  obtain ⟨x, hx, h1⟩ := h
  exact ⟨x, List.mem_of_mem_take hx, h1⟩

set_option maxRecDepth 100000 in
theorem rHas_any (A : Option Addr) (n c : Nat) (l : List Rng) (hn : l.length = n) (hl : goodFrom 0 l) (hnc : n ≤ c) (hcm : c ≤ 9223372036854775807) (v : Int) (B : Bool) (hB : hasB l v = B) (w : World) (hr : RdX rcells 2 w A l) :
    Calls Tryz.prog 168 #[.slice A n c, .int .i64 v] w fun e w' => e = .returned (.tuple #[.bool B, .int .i64 0]) ∧ Below w.heap.size w w' := by
  have HN := Lib.hid hn
  have HL := Lib.hid hl
  have HR := Lib.hid hr
  have HB := Lib.hid hB
  clear hn hl hr hB
  go_enter Tryz.func168, Tryz.ntmps168
  go_wp2_with fail
  refine (rCheck_ok A n c l HN.out HL.out hnc hcm _ HR.out).mono ?_
  rintro e w1 ⟨rfl, hb⟩
  go_wp2_with fail
  go_loopw [16] (fun i wr => ∃ k : Nat, k ≤ n ∧ i = .int .i64 k ∧ Hid (hasB (l.take k) v = false) ∧ Below w.heap.size w wr) (fun i _ => n - (intOf i).toNat)
  case atStart => exact ⟨0, Nat.zero_le _, rfl, rfl, hb⟩
  case round =>
    obtain ⟨k, hk, rfl, HT, hb⟩ := hrel
    by_cases hlt : k < n
    · have hlen := HN.out
      obtain ⟨b, off, rfl, hcell⟩ := (RdX.below HR.out hb).rcell (by omega)
      obtain ⟨c0, c1⟩ := hcell k (by omega)
      have HK := Lib.hid (hasB_take l k v (by omega))
      obtain ⟨x1, x2, hx⟩ : ∃ x1 x2, l.getD k (0, 0) = (x1, x2) := ⟨_, _, rfl⟩
      rw [hx] at c0 c1 HK
      clear hx hlen hcell
      by_cases h1 : x1 ≤ v ∧ v ≤ x2
      · obtain ⟨h1, h2⟩ := h1
        have hBt : B = true := by
          rw [← HB.out]; refine hasB_of_take (k := k + 1) ?_
          rw [HK.out]; simp [h1, h2]
        subst hBt
        go_wp2_with fail
        go_ret2
        exact ⟨rfl, hb.alloc hb.size _⟩
      · have HT2 : Hid (hasB (l.take (k + 1)) v = false) := by
          have := HK.out; rw [HT.out] at this; unfold Hid; rw [this]; simp; omega
        rcases (by omega : ¬ x1 ≤ v ∨ (x1 ≤ v ∧ ¬ v ≤ x2)) with h2 | ⟨h2, h3⟩
        all_goals
          clear h1
          go_wp2_with fail
          go_roundw
          case rel => exact ⟨k + 1, by omega, by go_num, HT2, hb.alloc hb.size _⟩
          case measure => simp [intOf]; omega
    · obtain rfl : k = n := by omega
      have hBt : B = false := by
        rw [← HB.out, ← HT.out, List.take_of_length_le (by have := HN.out; omega)]
      subst hBt
      go_wp2_with fail
      go_ret2
      exact ⟨rfl, hb⟩
end Go.Proofs.YtbcagdjfegobnaaGreat
/- The contracts of set, sameRanges, rangesTell. -/
namespace Go.Proofs.YtbcagdjfegobnaaGreat
open Go.ChangeShapes Go.WideShapes Go.ChangeAt Go.RowKit
set_option linter.unusedVariables false

/-- A good set of numbers up to M. -/
def SetOk (l : List Rng) (M : Int) : Prop := goodFrom 0 l ∧ ∀ n, memR l n → n ≤ M
theorem good_len {b M : Int} {l : List Rng} (h : goodFrom b l) (hM : ∀ n, memR l n → n ≤ M) (hb : b ≤ M + 2) : 2 * (l.length : Int) ≤ M - b + 2 := by
  induction l generalizing b with
  | nil => simp; omega
  | cons x l ih =>
    obtain ⟨h1, h2, h3, h4⟩ := h
    have hx := hM x.2 ((memR_cons x l _).2 (.inl ⟨h2, Int.le_refl _⟩))
    have := ih h4 (fun n hn => hM n ((memR_cons x l _).2 (.inr hn))) (by omega)
    simp only [List.length_cons]; omega
theorem SetOk.len {l : List Rng} {M : Int} (h : SetOk l M) (hM : 0 ≤ M) : 2 * (l.length : Int) ≤ M + 2 := by
  have := good_len h.1 h.2 (by omega); omega
theorem SetOk.nil (M : Int) : SetOk [] M := ⟨trivial, fun n hn => absurd hn (memR_nil n)⟩
theorem SetOk.add {l : List Rng} {M : Int} (h : SetOk l M) (lo hi : Int) (h0 : 0 ≤ lo) (h1 : lo ≤ hi) (h2 : hi ≤ M) (hM : M ≤ 4611686018427387903) : SetOk (addR l (lo, hi) false) M := by
  refine ⟨addR_good h.1 (lo, hi) h0 h1 (by show hi ≤ _; omega), fun n hn => ?_⟩
  rcases (addR_mem h.1 (lo, hi) h1 n).1 hn with h3 | h3
  · exact h.2 n h3
  · have : n ≤ hi := h3.2
    omega
theorem SetOk.cut {l : List Rng} {M : Int} (h : SetOk l M) (lo hi : Int) (h1 : lo ≤ hi) : SetOk (cutR l (lo, hi)) M :=
  ⟨cutR_good h.1 (lo, hi) h1 0 (Int.le_refl _), fun n hn => h.2 n ((cutR_mem l (lo, hi) h1 n).1 hn).1⟩
theorem SetOk.mono {l : List Rng} {M N : Int} (h : SetOk l M) (hMN : M ≤ N) : SetOk l N := ⟨h.1, fun n hn => by have := h.2 n hn; omega⟩

theorem rAdd_rd (A : Option Addr) (n c : Nat) (l : List Rng) (hn : l.length = n) (hl : goodFrom 0 l) (hnc : n ≤ c) (hcm : c ≤ 9223372036854775807) (hnb : n ≤ 1000000) (lo hi : Int) (h0 : 0 ≤ lo) (h1 : lo ≤ hi) (h2 : hi ≤ 4611686018427387903)
    (R : List Rng) (k_ : Nat) (hR : addR l (lo, hi) false = R) (hk : R.length = k_) (w : World) (hr : RdX rcells 2 w A l) :
    Calls Tryz.prog 169 #[.slice A n c, .agg #[.int .i64 lo, .int .i64 hi]] w fun e w' => ∃ A' c', e = .returned (.tuple #[.slice A' k_ c', .int .i64 0]) ∧ k_ ≤ c' ∧ c' ≤ 9223372036854775807 ∧ RdX rcells 2 w' A' R ∧ Below w.heap.size w w' :=
  (rAdd_own A n c l hn hl hnc hcm hnb lo hi h0 h1 h2 R k_ hR hk w hr).mono fun e w' ⟨A', c', he, hc, hc', ho, hb⟩ => ⟨A', c', he, hc, hc', ho.rd, hb⟩
theorem rCut_rd (A : Option Addr) (n c : Nat) (l : List Rng) (hn : l.length = n) (hl : goodFrom 0 l) (hnc : n ≤ c) (hcm : c ≤ 9223372036854775807) (hnb : n ≤ 1000000) (lo hi : Int) (h0 : 0 ≤ lo) (h1 : lo ≤ hi) (h2 : hi ≤ 4611686018427387903)
    (R : List Rng) (k_ : Nat) (hR : cutR l (lo, hi) = R) (hk : R.length = k_) (w : World) (hr : RdX rcells 2 w A l) :
    Calls Tryz.prog 186 #[.slice A n c, .agg #[.int .i64 lo, .int .i64 hi]] w fun e w' => ∃ A' c', e = .returned (.tuple #[.slice A' k_ c', .int .i64 0]) ∧ k_ ≤ c' ∧ c' ≤ 9223372036854775807 ∧ RdX rcells 2 w' A' R ∧ Below w.heap.size w w' :=
  (rCut_own A n c l hn hl hnc hcm hnb lo hi h0 h1 h2 R k_ hR hk w hr).mono fun e w' ⟨A', c', he, hc, hc', ho, hb⟩ => ⟨A', c', he, hc, hc', ho.rd, hb⟩

end Go.Proofs.YtbcagdjfegobnaaGreat
/- The contract of ranges.Note. -/
namespace Go.Proofs.YtbcagdjfegobnaaGreat
open Go.ChangeShapes Go.WideShapes Go.ChangeAt Go.RowKit
set_option linter.unusedVariables false

/-- Note, as_v the code does it. -/
def noteR (l : List Rng) (n : Int) : List Rng := (addR l (n, n) false).drop ((addR l (n, n) false).length - 6)
theorem goodFrom_drop {b : Int} {l : List Rng} (h : goodFrom b l) (j : Nat) : goodFrom b (l.drop j) := by
  induction l generalizing b j with
  | nil => simpa using h
  | cons x l ih =>
    cases j with
    | zero => exact h
    | succ j => exact goodFrom_mono (ih h.2.2.2 j) (by have := h.1; have := h.2.1; omega)
theorem goodFrom_apart {b : Int} {l m : List Rng} (h : goodFrom b (l ++ m)) (i j : Int) (hi : memR l i) (hj : memR m j) : i < j := by
  induction l generalizing b with
  | nil => exact absurd hi (memR_nil i)
  | cons x l ih =>
    rcases (memR_cons x l i).1 hi with h1 | h1
    · have := goodFrom_low h.2.2.2 j ((memR_append l m j).2 (.inr hj))
      omega
    · exact ih h.2.2.2 h1
theorem memR_drop {l : List Rng} {j : Nat} {n : Int} (h : memR (l.drop j) n) : memR l n := by
  obtain ⟨x, hx, h1⟩ := h
  exact ⟨x, List.mem_of_mem_drop hx, h1⟩
/-- The greatest number stays. -/
theorem memR_drop_top {l : List Rng} (hg : goodFrom 0 l) (j : Nat) (hj : j < l.length) (n : Int) (hn : memR l n) (hM : ∀ i, memR l i → i ≤ n) : memR (l.drop j) n := by
  have h0 := hn
  rw [← List.take_append_drop j l, memR_append] at h0
  rcases h0 with h0 | h0
  · have hg2 : goodFrom 0 (l.take j ++ l.drop j) := by rw [List.take_append_drop]; exact hg
    have hd : l.drop j = l[j] :: l.drop (j + 1) := List.drop_eq_getElem_cons hj
    have hgd := goodFrom_drop hg j
    rw [hd] at hgd
    have hm : memR (l.drop j) (l[j]).1 := by rw [hd]; exact (memR_cons _ _ _).2 (.inl ⟨Int.le_refl _, hgd.2.1⟩)
    have := goodFrom_apart hg2 n _ h0 hm
    have := hM _ (memR_drop hm)
    omega
  · exact h0
theorem addR_len (l : List Rng) (r : Rng) (put : Bool) : (addR l r put).length ≤ l.length + 1 ∧ (put = true → (addR l r put).length ≤ l.length) := by
  induction l generalizing r put with
  | nil => cases put <;> simp [addR]
  | cons x l ih =>
    rw [addR]
    by_cases c1 : x.2 + 1 < r.1
    · rw [if_pos c1]
      have := ih r put
      exact ⟨by simp; omega, fun h => by have := this.2 h; simp; omega⟩
    · rw [if_neg c1]
      by_cases c2 : r.2 + 1 < x.1
      · rw [if_pos c2]
        cases put
        · have := (ih r true).2 rfl
          exact ⟨by simp; omega, fun h => by cases h⟩
        · have := (ih r true).2 rfl
          exact ⟨by simp; omega, fun _ => by simp; omega⟩
      · rw [if_neg c2]
        have := ih (min r.1 x.1, max r.2 x.2) put
        exact ⟨by simp; omega, fun h => by have := this.2 h; simp; omega⟩
theorem noteR_len (l : List Rng) (n : Int) : (noteR l n).length ≤ 6 := by unfold noteR; rw [List.length_drop]; omega
theorem noteR_ok {l : List Rng} {M : Int} (h : SetOk l M) (n : Int) (h0 : 0 ≤ n) (h1 : n ≤ M) (hM : M ≤ 4611686018427387903) : SetOk (noteR l n) M := by
  have := h.add n n h0 (Int.le_refl _) h1 hM
  exact ⟨goodFrom_drop this.1 _, fun i hi => this.2 i (memR_drop hi)⟩
theorem noteR_top {l : List Rng} {M : Int} (h : SetOk l M) (n : Int) (h0 : 0 ≤ n) (h1 : M ≤ n) (hM : n ≤ 4611686018427387903) : memR (noteR l n) n := by
  have hg := addR_good h.1 (n, n) h0 (Int.le_refl _) hM
  have hn : memR (addR l (n, n) false) n := (addR_mem h.1 (n, n) (Int.le_refl _) n).2 (.inr ⟨Int.le_refl _, Int.le_refl _⟩)
  have hlen : 0 < (addR l (n, n) false).length := by
    rcases hn with ⟨x, hx, _⟩
    exact List.length_pos_of_mem hx
  refine memR_drop_top hg _ (by omega) n hn fun i hi => ?_
  rcases (addR_mem h.1 (n, n) (Int.le_refl _) i).1 hi with h2 | h2
  · have := h.2 i h2; omega
  · exact h2.2
/-- Noted once more, nothing changes. -/
theorem noteR_again {l : List Rng} {M : Int} (h : SetOk l M) (n : Int) (h0 : 0 ≤ n) (hM : n ≤ 4611686018427387903) (hn : memR l n) (hl : l.length ≤ 6) : noteR l n = l := by
  have hg := addR_good h.1 (n, n) h0 (Int.le_refl _) hM
  have e : addR l (n, n) false = l := goodFrom_same hg h.1 fun i => by
    rw [addR_mem h.1 (n, n) (Int.le_refl _) i]
    exact or_iff_left_of_imp fun hi => by obtain rfl : i = n := Int.le_antisymm hi.2 hi.1; exact hn
  unfold noteR
  rw [e, show l.length - 6 = 0 from by omega, List.drop_zero]

set_option maxRecDepth 100000 in
set_option maxHeartbeats 1000000 in
theorem rNote_own (A : Option Addr) (n c : Nat) (l : List Rng) (hn : l.length = n) (M : Int) (hl : SetOk l M) (hM0 : 0 ≤ M) (hM : M ≤ 4611686018427387903) (hnc : n ≤ c) (hcm : c ≤ 9223372036854775807) (hnb : n ≤ 1000000) (v : Int) (v0 : 0 ≤ v) (v1 : v ≤ 4611686018427387903)
    (B : Bool) (hB : hasB l v = B) (R : List Rng) (k_ : Nat) (hR : noteR l v = R) (hk : R.length = k_) (w : World) (hr : RdX rcells 2 w A l) :
    Calls Tryz.prog 142 #[.slice A n c, .int .i64 v] w fun e w' => ∃ A' c', e = .returned (.tuple #[.slice A' k_ c', .bool (!B), .int .i64 0]) ∧ k_ ≤ c' ∧ c' ≤ 9223372036854775807 ∧ OwnX rcells 2 w' w.heap.size 116 A' c' R ∧ Below w.heap.size w w' := by
  have HN := Lib.hid hn
  have HL := Lib.hid hl
  have HR := Lib.hid hr
  have HB := Lib.hid hB
  have HRR := Lib.hid hR
  have HK := Lib.hid hk
  clear hn hl hr hR hk hB
  go_enter Tryz.func142, Tryz.ntmps142
  go_wp2_with fail
  refine (rHas_any A n c l HN.out HL.out.1 hnc hcm v B HB.out _ HR.out).mono ?_
  rintro e w1 ⟨rfl, hb1⟩
  have HR1 := Lib.hid (RdX.below HR.out hb1)
  go_wp2_with fail
  obtain ⟨q, hq⟩ : ∃ q, (addR l (v, v) false).length = q := ⟨_, rfl⟩
  have HQ := Lib.hid hq
  clear hq
  refine (rAdd_rd A n c l HN.out HL.out.1 hnc hcm hnb v v v0 (Int.le_refl _) v1 _ q rfl HQ.out _ HR1.out).mono ?_
  rintro e w2 ⟨A2, c2, rfl, h2, h3, hrd, hb2⟩
  have hb := hb1.trans (hb2.mono hb1.size)
  have HRD := Lib.hid hrd
  clear hb1 hb2 HR1 hrd
  have hqb : q ≤ 4000000 := by have h1 := (addR_len l (v, v) false).1; have h2 := HQ.out; have h3 := HN.out; omega
  by_cases hq6 : q ≤ 6
  · have hRe : addR l (v, v) false = R := by rw [← HRR.out]; unfold noteR; rw [HQ.out, show q - 6 = 0 from by omega, List.drop_zero]
    have hrd := HRD.out
    rw [hRe] at hrd
    have hkq : k_ = q := by rw [← HK.out, ← hRe]; exact HQ.out
    subst hkq
    have HRD2 := Lib.hid hrd
    clear hrd hRe HRD
    go_wp2_with (at_builtin
                 refine wpList_appX rcells 2 rcells_one _ rfl (.tmp 38) (.tmp 39) _ rfl w.heap.size 116 _ 16 Tryz.underlying32 rngInfo rfl (by decide) (by decide) (some ⟨w2.heap.size, 0, none⟩) 0 0 [] rfl rfl (OwnX.made rcells 2 w2 _ _ hb.size) _ _ _ R rfl HK.out (RdX.alloc HRD2.out _) _ rfl _ rfl (by omega) (by have := hb.size; simp; omega) ?_
                 intro A5 c5 w5 hO5 hc5 hc5' hb5 hgr5)
    go_ret3
    exact ⟨A5, c5, by simp, by omega, hc5', by simpa using hO5, (hb.alloc hb.size _).trans hb5⟩
  · obtain ⟨j, rfl⟩ : ∃ j, q = j + 6 := ⟨q - 6, by omega⟩
    have hrd := HRD.out
    have hRe : (addR l (v, v) false).drop j = R := by rw [← HRR.out]; unfold noteR; rw [HQ.out, Nat.add_sub_cancel]
    have hk6 : k_ = 6 := by rw [← HK.out, ← hRe, List.length_drop, HQ.out]; omega
    subst hk6
    have hcu := RdX.cut rcells_len hrd (k := j) (cap := c2) (by rw [HQ.out]; omega) (by rw [HQ.out]; exact h2)
    rw [if_neg (by omega), hRe] at hcu
    obtain ⟨b, off, hA, _⟩ := hrd.rcell (by rw [HQ.out]; omega)
    subst hA
    have hcu2 : RdX rcells 2 w2 (some ⟨b, off + j * 2, none⟩) R := by simpa [add_none] using hcu
    have HCU := Lib.hid hcu2
    have hj0 : (0 : Int) ≤ (j : Int) := by omega
    have hj1 : (j : Int) ≤ (j : Int) + 6 := by omega
    have hj2 : c2 ≠ j := by omega
    have hj3 : 6 < (j : Int) + 6 := by omega
    clear hrd hRe HRD hcu hcu2
    go_wp2_with (at_builtin
                 refine wpList_appX rcells 2 rcells_one _ rfl (.tmp 38) (.tmp 39) _ rfl w.heap.size 116 _ 16 Tryz.underlying32 rngInfo rfl (by decide) (by decide) (some ⟨w2.heap.size, 0, none⟩) 0 0 [] rfl rfl (OwnX.made rcells 2 w2 _ _ hb.size) _ _ _ R rfl HK.out (RdX.alloc HCU.out _) _ rfl _ rfl (by omega) (by have := hb.size; simp; omega) ?_
                 intro A5 c5 w5 hO5 hc5 hc5' hb5 hgr5)
    go_ret3
    exact ⟨A5, c5, by simp, by omega, hc5', by simpa using hO5, (hb.alloc hb.size _).trans hb5⟩
end Go.Proofs.YtbcagdjfegobnaaGreat
