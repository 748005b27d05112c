/- Texts of the proof, laid together: UnpackWalk. -/
import Derived.Test.YtbcagdjfegobnaaGreatC26
import Derived.Test.YtbcagdjfegobnaaGreatC27
import Derived.Deep.RegionHeld3
/- Packets: what Unpack makes of bytes (plain); its contract. -/
namespace Go.Proofs.YtbcagdjfegobnaaGreat
open Go.ChangeShapes Go.WideShapes Go.ChangeAt Go.RowKit
set_option linter.unusedVariables false

/-- What Unpack makes of the bytes behind a head of 'used' bytes. -/
def unpackF (key : Int) (size number used : Nat) (top : Int) (bs : List UInt8) : Int × List FrD × Int :=
  if size < 1 ∨ 4 < size ∨ bs.length < used then (0, [], 6) else
  if bs.length - used < 8 then (0, [], 4) else
  if opens key (wholeN (top + 1) (256 ^ size : Nat) number) (bs.take used) (bs.drop used) = false then (0, [], 10) else
  if (fall (openT key (wholeN (top + 1) (256 ^ size : Nat) number) (bs.drop used))).2 ≠ 0 then (0, [], (fall (openT key (wholeN (top + 1) (256 ^ size : Nat) number) (bs.drop used))).2) else
  (wholeN (top + 1) (256 ^ size : Nat) number, (fall (openT key (wholeN (top + 1) (256 ^ size : Nat) number) (bs.drop used))).1, 0)
/-- What Unpack answers. -/
def UnpOut (w : World) (r : Int × List FrD × Int) (e : Ending) (w' : World) : Prop :=
  ∃ (A : Option Addr) (k c : Nat) (xs : List FrM), e = .returned (.tuple #[.int .i64 r.1, .slice A k c, .int .i64 r.2.2]) ∧ xs.map (·.f) = r.2.1 ∧ xs.length = k ∧ FrRow w' w.heap.size A c xs ∧ Below w.heap.size w w'
theorem UnpOut.err {w w' : World} {E : Int} (hb : Below w.heap.size w w') : UnpOut w (0, [], E) (.returned (.tuple #[.int .i64 0, .slice none 0 0, .int .i64 E])) w' :=
  ⟨none, 0, 0, [], rfl, rfl, rfl, FrRow.nil _ _, hb⟩

theorem open_good (key n : Int) (hk0 : 0 ≤ key) (hk1 : key < 18446744073709551616) (A1 A2 : Option Addr) (p b : List UInt8) (l1 c1 l2 c2 : Nat) (hl1 : p.length = l1) (hl2 : b.length = l2) (w : World)
    (h1 : RdB w A1 p) (h2 : RdB w A2 b) (hs1 : l1 ≤ 9223372036854775807) (hs2 : l2 ≤ 140737488355328) (h8 : 8 ≤ l2) (hc2 : l2 ≤ c2) (hc2' : c2 ≤ 9223372036854775807) (m : Nat) (hm : m + 8 = l2) (ho : opens key n p b = true) :
    Calls Tryz.prog 66 #[.int .u64 key, .int .i64 n, .slice A1 l1 c1, .slice A2 l2 c2] w fun e w' =>
      ∃ A c, e = .returned (.tuple #[.slice A m c, .int .i64 0]) ∧ OwnB w' w.heap.size 5 A c (openT key n b) ∧ c ≤ 9223372036854775807 ∧ Below w.heap.size w w' :=
  (open_any key n hk0 hk1 A1 A2 p b l1 c1 l2 c2 hl1 hl2 w h1 h2 hs1 hs2 h8 hc2 hc2' m hm).mono (by
    rintro e w' (⟨_, h⟩ | ⟨h, _⟩)
    · exact h
    · rw [ho] at h; cases h)
theorem open_bad (key n : Int) (hk0 : 0 ≤ key) (hk1 : key < 18446744073709551616) (A1 A2 : Option Addr) (p b : List UInt8) (l1 c1 l2 c2 : Nat) (hl1 : p.length = l1) (hl2 : b.length = l2) (w : World)
    (h1 : RdB w A1 p) (h2 : RdB w A2 b) (hs1 : l1 ≤ 9223372036854775807) (hs2 : l2 ≤ 140737488355328) (h8 : 8 ≤ l2) (hc2 : l2 ≤ c2) (hc2' : c2 ≤ 9223372036854775807) (m : Nat) (hm : m + 8 = l2) (ho : opens key n p b = false) :
    Calls Tryz.prog 66 #[.int .u64 key, .int .i64 n, .slice A1 l1 c1, .slice A2 l2 c2] w fun e w' =>
      e = .returned (.tuple #[.slice none 0 0, .int .i64 10]) ∧ Below w.heap.size w w' :=
  (open_any key n hk0 hk1 A1 A2 p b l1 c1 l2 c2 hl1 hl2 w h1 h2 hs1 hs2 h8 hc2 hc2' m hm).mono (by
    rintro e w' (⟨h, _⟩ | ⟨_, h⟩)
    · rw [ho] at h; cases h
    · exact h)
theorem beB_snocU (s m r : Nat) (h1 : r + 1 ≤ s) : (beB s m).take (s - (r + 1)) ++ [UInt8.ofNat (m / 256 ^ r)] = (beB s m).take (s - r) := by
  have := beB_take s m (r + 1) (by omega) h1
  simpa using this
theorem Blk.noneF {w : World} {B : Option Addr} {bs : List UInt8} {n : Nat} (h : RdB w B bs) (hn : bs.length = n) (h0 : 0 < n) : ∃ b off, B = some ⟨b, off, none⟩ := by
  obtain ⟨b, off, e, _⟩ := h.cell (by omega)
  exact ⟨b, off, e⟩

set_option maxRecDepth 100000 in
set_option maxHeartbeats 4000000 in
theorem unpack_any (key : Int) (hk0 : 0 ≤ key) (hk1 : key < 18446744073709551616) (k t f : Nat) (T : Option Addr) (tn tc : Nat) (number size used : Nat) (hsz : size ≤ 4) (hnu : number < 256 ^ size) (top : Int) (ht0 : -1 ≤ top) (ht1 : top ≤ 4611686018427387903) (hu : used ≤ 100000)
    (B : Option Addr) (bn bc : Nat) (bs : List UInt8) (hbn : bs.length = bn) (hbc : bn ≤ bc) (hcm : bc ≤ 9223372036854775807) (hb400 : bn ≤ 100000) (hB0 : B = none → bc = 0) (w : World) (hB : RdB w B bs) :
    Calls Tryz.prog 32 #[.int .u64 key, .agg #[.int .i64 k, .int .i64 t, .int .i64 f, .slice T tn tc, .int .i64 number, .int .i64 size], .int .i64 used, .int .i64 top, .slice B bn bc] w
      (UnpOut w (unpackF key size number used top bs)) := by
  have HBN := Lib.hid hbn
  have HB := Lib.hid hB
  obtain ⟨R, hR⟩ : ∃ R, unpackF key size number used top bs = R := ⟨_, rfl⟩
  rw [hR]
  have HR := Lib.hid hR
  clear hbn hB hR
  have hs0 : (0 : Int) ≤ (size : Int) := by omega
  have hu0 : (0 : Int) ≤ (used : Int) := by omega
  by_cases hbad : size < 1 ∨ 4 < size ∨ bn < used
  -- [[bad
  · have HRR := HR.out
    unfold unpackF at HRR
    rw [HBN.out, if_pos hbad] at HRR
    subst HRR
    have h1 : ¬ (4 : Int) < (size : Int) := by omega
    clear HR HB HBN
    rcases Nat.eq_zero_or_pos size with rfl | hp
    · go_enter Tryz.func32, Tryz.ntmps32
      go_wp2_with fail
      go_ret3
      exact UnpOut.err ((Below.refl _ _).alloc (Nat.le_refl _) _)
    · have h2 : ¬ (size : Int) < 1 := by omega
      have h3 : (bn : Int) < (used : Int) := by omega
      go_enter Tryz.func32, Tryz.ntmps32
      go_wp2_with fail
      go_ret3
      exact UnpOut.err ((Below.refl _ _).alloc (Nat.le_refl _) _)
    -- ]]bad
  -- [[good
  have hs1 : 1 ≤ size := by omega
  have hub : used ≤ bn := by omega
  have h1 : ¬ (4 : Int) < (size : Int) := by omega
  have h2 : ¬ (size : Int) < 1 := by omega
  have h3 : ¬ (bn : Int) < (used : Int) := by omega
  go_enter Tryz.func32, Tryz.ntmps32
  go_upto_region 5 with (fail)
  refine wp_world (fun w' => Blk w' w.heap.size 61 #[.int .i64 k, .int .i64 t, .int .i64 f, .slice T tn tc, .int .i64 number, .int .i64 size] ∧ Below w.heap.size w w') ⟨Blk.new _ _ _, (Below.refl _ _).alloc (Nat.le_refl _) _⟩ ?_
  rintro w1 ⟨hH, hb1⟩
  have hg := hH.lt
  go_wp2_with fail
  go_loopw [13, 14] (fun s13 s14 wr => ∃ (r : Nat) (C : Option Addr) (l cc : Nat), r ≤ size ∧ s14 = .int .i64 ((r : Int) - 1) ∧ s13 = .slice C l cc ∧ l + r = size ∧ OwnX u8c 1 wr w1.heap.size 5 C cc ((beB size number).take (size - r)) ∧ Below w1.heap.size w1 wr) (fun _ s14 _ => (intOf s14 + 1).toNat)
  case atStart => exact ⟨size, none, 0, 0, Nat.le_refl _, rfl, rfl, by omega, by rw [Nat.sub_self]; exact OwnX.nil _ _ _, Below.refl _ _⟩
  case round =>
    obtain ⟨r, C, l, cc, hr, rfl, rfl, hl, hO, hbr⟩ := hrel
    have HO := Lib.hid hO
    have hHr := hH.carry hbr
    have hwr := hbr.size
    have HBR := Lib.hid hbr
    clear hO hbr hH
    rcases Nat.eq_zero_or_pos r with rfl | hpos
    -- [[end1
    · obtain rfl : l = size := by omega
      rw [Nat.sub_zero, List.take_of_length_le (by rw [beB_length]; exact Nat.le_refl _)] at HO
      have HV : Hid (valB (beB l number) 0 = number) := by show _ = _; rw [valB_beB _ _ _ hnu]; omega
      have HW := Lib.hid (whole_n top C (beB l number) l cc wr (beB_length _ _) hs1 hsz ht0 ht1 HO.out.rd.b _ rfl)
      rw [HV.out] at HW
      obtain ⟨N, hN⟩ : ∃ N, wholeN (top + 1) (256 ^ l : Nat) number = N := ⟨_, rfl⟩
      rw [hN] at HW
      have HRR := HR.out
      unfold unpackF at HRR
      rw [HBN.out, if_neg hbad, hN] at HRR
      have HR2 := Lib.hid HRR
      have hb := hb1.trans (HBR.out.mono hb1.size)
      have HBB := Lib.hid hb
      have HB5 := Lib.hid (HB.out.below hb)
      have FH := hHr.c6
      clear HRR HR hN hb HB hb1 HV
      go_wp2_with fail
      refine HW.out.mono ?_
      rintro e w' ⟨rfl, rfl⟩
      clear HW
      go_upto_region 11 with (fail)
      by_cases h8 : bn - used < 8
      -- [[short
      · have HRR := HR2.out
        rw [if_pos h8] at HRR
        subst HRR
        clear HR2
        rcases B with _ | ⟨bb, off, sp⟩
        · obtain rfl := hB0 rfl
          obtain rfl : bn = 0 := by omega
          obtain rfl : used = 0 := by omega
          go_region_with (go_at_call 66; refine (open_short key N _ _ _ _ _ _ (by omega) _).mono ?_; rintro e w' ⟨rfl, rfl⟩)
          all_goals
            go_wp2_with fail
            go_ret3
            exact UnpOut.err (by (repeat (first | with_reducible exact HBB.out | with_reducible refine Below.drew ?_ | (with_reducible refine Below.set4 ?_ ?side _ _ _ _; case side => (first | omega | (simp; omega) | (simp; done))) | (with_reducible refine Below.setCell ?_ ?side _; case side => (first | omega | (simp; omega) | (simp; done))) | (with_reducible refine Below.alloc ?_ ?side _; case side => (first | omega | (simp; omega) | (simp; done))))))
        · obtain ⟨D, hD⟩ : ∃ D, (if bc = used then (some (⟨bb, off, sp⟩ : Addr)) else some ((⟨bb, off, sp⟩ : Addr).add used)) = D := ⟨_, rfl⟩
          go_region_with (go_at_call 66; refine (open_short key N _ _ _ _ _ _ (by omega) _).mono ?_; rintro e w' ⟨rfl, rfl⟩)
          all_goals
            go_wp2_with fail
            go_ret3
            exact UnpOut.err (by (repeat (first | with_reducible exact HBB.out | with_reducible refine Below.drew ?_ | (with_reducible refine Below.set4 ?_ ?side _ _ _ _; case side => (first | omega | (simp; omega) | (simp; done))) | (with_reducible refine Below.setCell ?_ ?side _; case side => (first | omega | (simp; omega) | (simp; done))) | (with_reducible refine Below.alloc ?_ ?side _; case side => (first | omega | (simp; omega) | (simp; done))))))
        -- ]]short
      -- [[long
      · rw [if_neg h8] at HR2
        have hbcu : ¬ bc = used := by omega
        obtain ⟨m, hm⟩ : ∃ m, m + 8 = bn - used := ⟨bn - used - 8, by omega⟩
        have HTL : Hid ((bs.take used).length = used) := by show _ = _; rw [List.length_take, HBN.out]; omega
        have HDL : Hid ((bs.drop used).length = bn - used) := by show _ = _; rw [List.length_drop, HBN.out]
        have hdr := RdB.cut (k := used) (cap := bc) HB5.out (by rw [HBN.out]; omega) (by rw [HBN.out]; omega)
        have htk := HB5.out.front (k := used) (by rw [HBN.out]; omega)
        obtain ⟨bb, off, rfl, _⟩ := HB5.out.cell (by rw [HBN.out]; omega)
        rw [if_neg hbcu] at hdr
        have hdr2 : RdB wr (some ⟨bb, off + used, none⟩) (bs.drop used) := by simpa [add_none] using hdr
        have HDR : Hid (∀ W, Below wr.heap.size wr W → RdB W (some ⟨bb, off + used, none⟩) (bs.drop used)) := Lib.hid fun W hW => hdr2.below hW
        have HTK : Hid (∀ W, Below wr.heap.size wr W → RdB W (some ⟨bb, off, none⟩) (bs.take used)) := Lib.hid fun W hW => htk.below hW
        clear hdr hdr2 htk HB5
        by_cases hop : opens key N (bs.take used) (bs.drop used) = false
        -- [[bad2
        · have HRR := HR2.out
          rw [if_pos hop] at HRR
          subst HRR
          have HOP := Lib.hid hop
          clear HR2 hop
          go_region_with (go_at_call 66; refine (open_bad key N hk0 hk1 _ _ (bs.take used) (bs.drop used) used bc (bn - used) (bc - used) HTL.out HDL.out _ (HTK.out _ (Below.refl _ _).drew) (HDR.out _ (Below.refl _ _).drew) (by omega) (by omega) (by omega) (by omega) (by omega) m hm HOP.out).mono ?_; rintro e w' ⟨rfl, hb6⟩)
          all_goals
            go_wp2_with fail
            go_ret3
            exact UnpOut.err (by (repeat (first | with_reducible exact HBB.out | with_reducible refine Below.drew ?_ | (with_reducible refine Below.set4 ?_ ?side _ _ _ _; case side => (first | omega | (simp; omega) | (simp; done))) | (with_reducible refine Below.setCell ?_ ?side _; case side => (first | omega | (simp; omega) | (simp; done))) | (with_reducible refine Below.alloc ?_ ?side _; case side => (first | omega | (simp; omega) | (simp; done))) | (with_reducible refine Below.trans ?_ (Below.mono hb6 ?side); case side => (first | omega | (simp; omega) | (simp; done))))))
          -- ]]bad2
        -- [[good2
        · rw [if_neg hop] at HR2
          have HOP : Hid (opens key N (bs.take used) (bs.drop used) = true) := by show _ = _; simpa using hop
          have HOT : Hid ((openT key N (bs.drop used)).length = m) := by show _ = _; unfold openT; rw [turnB_length, List.length_take, HDL.out]; omega
          clear hop
          go_region_with (go_at_call 66; refine (open_good key N hk0 hk1 _ _ (bs.take used) (bs.drop used) used bc (bn - used) (bc - used) HTL.out HDL.out _ (HTK.out _ (Below.refl _ _).drew) (HDR.out _ (Below.refl _ _).drew) (by omega) (by omega) (by omega) (by omega) (by omega) m hm HOP.out).mono ?_; rintro e w6 ⟨A6, c6, rfl, hO6, hc6, hb6⟩)
          all_goals
            have hcp := hO6.cap
            rw [HOT.out] at hcp
            have HFA := Lib.hid (fAll_any A6 (openT key N (bs.drop used)) m c6 w6 HOT.out hO6.rd hcp.1 hc6 (by omega))
            have HB6 := Lib.hid (show Below w.heap.size w w6 by (repeat (first | with_reducible exact HBB.out | with_reducible refine Below.drew ?_ | (with_reducible refine Below.set4 ?_ ?side _ _ _ _; case side => (first | omega | (simp; omega) | (simp; done))) | (with_reducible refine Below.setCell ?_ ?side _; case side => (first | omega | (simp; omega) | (simp; done))) | (with_reducible refine Below.alloc ?_ ?side _; case side => (first | omega | (simp; omega) | (simp; done))) | (with_reducible refine Below.trans ?_ (Below.mono hb6 ?side); case side => (first | omega | (simp; omega) | (simp; done))))))
            clear hO6 hb6 hcp FH
            go_wp2_with fail
            refine HFA.out.mono ?_
            rintro e w7 ⟨A7, k7, c7, xs, rfl, hxs, hxl, hrow, hb7⟩
            have HB7 := Lib.hid (HB6.out.trans (hb7.mono HB6.out.size))
            have HROW := Lib.hid hrow
            have HXS := Lib.hid hxs
            have HXL := Lib.hid hxl
            have hz6 := HB6.out.size
            clear hb7 hrow hxs hxl HFA HB6
            generalize fall (openT key N (bs.drop used)) = F at *
            obtain ⟨F1, F2⟩ := F
            by_cases hF : F2 = 0
            · subst hF
              have HRR := HR2.out
              simp only [ne_eq, not_true_eq_false, if_false] at HRR
              subst HRR
              go_wp2_with fail
              go_ret3
              exact ⟨A7, k7, c7, xs, rfl, HXS.out, HXL.out, ⟨HROW.out.1.mono (by omega), HROW.out.2⟩, HB7.out⟩
            · have HRR := HR2.out
              simp only [ne_eq, hF, not_false_eq_true, if_true] at HRR
              subst HRR
              go_wp2_with fail
              go_ret3
              exact UnpOut.err HB7.out
          -- ]]good2
        -- ]]long
      -- ]]end1
    -- [[round1
    · obtain ⟨r, rfl⟩ : ∃ k, r = k + 1 := ⟨r - 1, by omega⟩
      obtain ⟨x, hx⟩ : ∃ x : UInt8, UInt8.ofNat (number / 256 ^ r) = x := ⟨_, rfl⟩
      have hz7 : Hid ((beB size number).take (size - (r + 1)) ++ [x] = (beB size number).take (size - r)) := by rw [← hx]; exact beB_snocU size number r hr
      have hxv : (x.toNat : Int) = (number / 256 ^ r % 256 : Nat) := by rw [← hx]; simp
      have HXV := Lib.hid hxv
      have HTL : Hid (((beB size number).take (size - (r + 1))).length = l) := by show _ = _; rw [List.length_take, beB_length]; omega
      have FH := hHr.c6
      clear hx hxv
      rcases (show r = 0 ∨ r = 1 ∨ r = 2 ∨ r = 3 by omega) with rfl | rfl | rfl | rfl
      all_goals
        go_wp2_with (at_builtin
                     refine wpList_appL u8c 1 u8c_one _ rfl (.tmp 44) (.tmp 51) _ rfl w1.heap.size 5 _ 1 Tryz.underlying30 u8_infoQ rfl (by decide) (by decide) C l cc _ rfl HTL.out (HO.out.alloc _) _ 1 1 [x] rfl rfl (RdB.one _ _ _ _ (by rw [HXV.out]; simp; try omega)).x _ hz7.out (l + 1) rfl (by omega) (by simp; omega) ?_
                     intro A8 c8 w8 hO8 hc8 hm8 hb8 hg8 ha8)
        go_roundw
        case rel => exact ⟨_, A8, _, c8, by omega, by go_num, rfl, by omega, hO8, (HBR.out.alloc hwr _).trans hb8⟩
        case measure => simp [intOf]
      -- ]]round1
  -- ]]good
end Go.Proofs.YtbcagdjfegobnaaGreat
