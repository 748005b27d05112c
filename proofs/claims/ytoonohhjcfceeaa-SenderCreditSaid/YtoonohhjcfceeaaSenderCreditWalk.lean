/- The walk of the law SenderCredit: no more new bytes are sent than there is credit for; what was lost needs none. -/
import Derived.Test.YtoonohhjcfceeaaSnTells
import Derived.Test.YtoonohhjcfceeaaSnLose
import Derived.Test.YtoonohhjcfceeaaSnSame
import Derived.Test.YtoonohhjcfceeaaTextOfWalk
namespace Go.Proofs.Ytoonohhjcfceeaa
open Go.ChangeShapes Go.WideShapes Go.ChangeAt Go.RowKit
set_option linter.unusedVariables false

set_option maxRecDepth 100000 in
set_option maxHeartbeats 16000000 in
theorem senderCredit_walk (s : ByteArray) (n room credit : Int) (w : World) (hs : s.size ≤ 9223372036854775807) (hn : (Lit.int .i64 n).wf = true) (hr : (Lit.int .i64 room).wf = true) (hc : (Lit.int .i64 credit).wf = true) :
    Calls Try.prog 6 #[.string s, .int .i64 n, .int .i64 room, .int .i64 credit] w fun e w' => e = .returned (.bool true) ∧ Below w.heap.size w w' := by
  obtain ⟨nn0, nn1⟩ := i64_bounds' hn
  obtain ⟨rr0, rr1⟩ := i64_bounds' hr
  obtain ⟨cc0, cc1⟩ := i64_bounds' hc
  clear hn hr hc
  obtain ⟨kk, HK, k0, k1⟩ := mod_ex n 301 (by decide)
  obtain ⟨K, rfl⟩ := Int.eq_ofNat_of_zero_le k0
  obtain ⟨r, HR, r0, r1⟩ := mod_ex room 121 (by decide)
  obtain ⟨c_, HC, c0, c1⟩ := mod_ex credit 200 (by decide)
  obtain ⟨hi, hhi⟩ : ∃ hi : Nat, min (min (K : Int) r) c_ = (hi : Int) := ⟨(min (min (K : Int) r) c_).toNat, by omega⟩
  have HHI := Lib.hid hhi
  have hiK : hi ≤ K := by omega
  have hir : (hi : Int) ≤ r := by omega
  have hmin1 : (if c_ < (if r < (K : Int) then r else (K : Int)) then c_ else (if r < (K : Int) then r else (K : Int))) = (hi : Int) := by rw [← hhi]; split <;> split <;> omega
  have hmin2 : min (min (K : Int) r) c_ = (hi : Int) := hhi
  have hmin3 : min (K : Int) (min r c_) = (hi : Int) := by omega
  clear hhi
  go_enter Try.func6, Try.ntmps6
  go_wp2_with fail
  refine (text_any s n 300 K hs nn0 nn1 (by decide) (by decide) (Lib.hid (by have := HK.out; simpa using this)) (by omega) _).mono ?_
  rintro e w1 ⟨A, c, bs, rfl, hbl, hkc, hcm, hB, hb1⟩
  have HB1 := Lib.hid hb1
  have HBS := Lib.hid hB
  have HBL := Lib.hid hbl
  clear hb1 hB hbl
  go_wp2_with fail
  refine (snWrite_ok _ none 0 0 [] 0 300 none 0 0 [] none 0 0 [] false false (SnV.begin _ 300 (by decide) (by decide)) A K c bs HBL.out hkc hcm HBS.out (by omega) false bs rfl K (by omega)).mono ?_
  rintro e1 w2 ⟨A', c', B', d', C', k', rfl, hK, hb2⟩
  have HV2 := Lib.hid hK.here
  have HB2 := Lib.hid (HB1.out.trans (hb2.mono HB1.out.size))
  clear hK hb2 HB1 HBS
  go_upto_region 3 with (fail)
  refine wp_world (fun w' => Blk w' w2.heap.size 55 #[.slice A' K c', .bool false, .int .i64 0, .int .i64 300, .slice B' 0 d', .slice C' 0 k', .bool false, .bool false] ∧ Below w2.heap.size w2 w') ⟨Blk.new _ _ _, (Below.refl _ _).alloc (Nat.le_refl _) _⟩ ?_
  rintro w3 ⟨hS3, hb3⟩
  have HV3 := Lib.hid (HV2.out.below hb3)
  have HB3 := Lib.hid (HB2.out.trans (hb3.mono HB2.out.size))
  clear HV2 HB2 hb3
  have FS := hS3.facts8
  go_wp2_with fail
  refine (picked_at room 121 r rr0 rr1 (by decide) (by decide) HR _).mono ?_
  rintro e' w' ⟨rfl, rfl⟩
  go_wp2_with fail
  refine (picked_at credit 200 c_ cc0 cc1 (by decide) (by decide) HC _).mono ?_
  rintro e' w' ⟨rfl, rfl⟩
  go_wp2_with fail
  have eL : pcLost [] ((0 : Nat) : Int) (hi : Int) = [] := by unfold pcLost; split <;> rfl
  refine (snPiece_ok _ A' K c' bs false 0 300 B' 0 d' [] C' 0 k' [] false false HV3.out r c_ r0 (by omega) c0 (by omega) 0 hi (by simp [pcLo]) (by have := HHI.out; simp [pcHi, pcNew]; omega) false (decide (0 < hi)) (by simp [pcFin]) (by simp)).mono ?_
  rintro e3 w4 h4
  unfold PieceS at h4
  rw [show max (0 : Int) (hi : Int) = hi by omega, eL] at h4
  simp only [Bool.or_false] at h4
  obtain ⟨A4, c4, B4, m4, d4, C4, k4, D, nd, cd, rfl, hK, hnd, hcd, hcm4, hb4⟩ := h4
  rw [Nat.sub_zero] at hnd
  subst hnd
  obtain rfl : m4 = 0 := by have := hK.here.1.hm; simpa using this.symm
  have HV4 := Lib.hid hK.here.1
  have HD4 := Lib.hid (show RdB w4 D (bs.take nd) from by have h := hK.here.2; simpa using h)
  have HB4 := Lib.hid (HB3.out.trans (hb4.mono HB3.out.size))
  clear FS hS3 hK hb4 HV3 HB3 eL HHI
  by_cases h0 : 0 < nd
  · have hd0 : decide (0 < nd) = true := decide_eq_true h0
    rw [hd0]
    have eLL : loseL [] [] 0 (nd : Int) = [(0, (nd : Int) - 1)] := by
      unfold loseL
      rw [if_pos (by omega)]
      simp [holesR, addAll, addR]
    go_upto_region 5 with (fail)
    refine wp_world (fun w' => Blk w' w4.heap.size 55 #[.slice A4 K c4, .bool false, .int .i64 (nd : Int), .int .i64 300, .slice B4 0 d4, .slice C4 0 k4, .bool false, .bool false] ∧ Blk w' (w4.heap.size + 1) 59 #[.int .i64 8, .int .i64 0, .int .i64 0, .bool false, .int .i64 0, .slice none 0 0, .slice D nd cd] ∧ Below w4.heap.size w4 w') ⟨(Blk.new _ _ _).alloc _, Blk.new1 _ _ _ _, ((Below.refl _ _).alloc (Nat.le_refl _) _).alloc (by simp) _⟩ ?_
    rintro w5 ⟨hU5, hF5, hb5⟩
    have HV5 := Lib.hid (HV4.out.below hb5)
    have HD5 := Lib.hid (HD4.out.below hb5)
    have HB5 := Lib.hid (HB4.out.trans (hb5.mono HB4.out.size))
    clear HV4 HD4 HB4 hb5
    have FU := hU5.facts8
    have FF := hF5.facts7S
    go_wp2_with fail
    refine (snLose_ok _ A4 K c4 bs false (nd : Int) 300 B4 0 d4 [] C4 0 k4 [] false false HV5.out 0 (nd : Int) false ⟨by omega, by omega, by omega, by omega, fun h => by cases h⟩).mono ?_
    rintro e6 w6 h6
    unfold LoseS at h6
    rw [eLL] at h6
    simp only [Bool.false_and] at h6
    obtain ⟨A6, c6, B6, m6, d6, C6, k6, rfl, hK6, hb6⟩ := h6
    obtain rfl : m6 = 1 := by have := hK6.here.hm; simpa using this.symm
    have HV6 := Lib.hid hK6.here
    have hU6 := hU5.carry hb6
    have hF6 := hF5.carry hb6
    have HD6 := Lib.hid (HD5.out.below hb6)
    have HB6 := Lib.hid (HB5.out.trans (hb6.mono HB5.out.size))
    clear FU FF hU5 hF5 HV5 HD5 HB5 hK6 hb6 eLL
    go_upto_region 9 with (fail)
    refine wp_world (fun w' => Blk w' w6.heap.size 55 #[.slice A6 K c6, .bool false, .int .i64 (nd : Int), .int .i64 300, .slice B6 1 d6, .slice C6 0 k6, .bool false, .bool false] ∧ Below w6.heap.size w6 w') ⟨Blk.new _ _ _, (Below.refl _ _).alloc (Nat.le_refl _) _⟩ ?_
    rintro w7 ⟨hS7, hb7⟩
    have HV7 := Lib.hid (HV6.out.below hb7)
    have hU7 := hU6.carry hb7
    have hF7 := hF6.carry hb7
    have HD7 := Lib.hid (HD6.out.below hb7)
    have HB7 := Lib.hid (HB6.out.trans (hb7.mono HB6.out.size))
    clear HV6 hU6 hF6 HD6 HB6 hb7
    have FS := hS7.facts8
    have e1 : max r 1 = r := by omega
    have e2 : (if r < 1 then (1 : Int) else r) = r := if_neg (by omega)
    go_wp2_with fail
    refine (snPiece_ok _ A6 K c6 bs false (nd : Int) 300 B6 1 d6 [(0, (nd : Int) - 1)] C6 0 k6 [] false false HV7.out r 0 r0 (by omega) (by decide) (by decide) 0 nd (by unfold pcLo; rw [if_pos ⟨by simp, by omega⟩]; rfl) (by unfold pcHi; rw [if_pos ⟨by simp, by omega⟩]; simp; omega) false true (by simp [pcFin]) (by simp; omega)).mono ?_
    rintro e8 w8 h8
    unfold PieceS at h8
    rw [show max (nd : Int) (nd : Int) = nd by omega] at h8
    simp only [Bool.or_false] at h8
    obtain ⟨A8, c8, B8, m8, d8, C8, k8, E, ne, ce, rfl, hK8, hne, hce, hcm8, hb8⟩ := h8
    rw [Nat.sub_zero] at hne
    subst hne
    have HE8 := Lib.hid (show RdB w8 E (bs.take ne) from by have h := hK8.here.2; simpa using h)
    have hU8 := hU7.carry hb8
    have hF8 := hF7.carry hb8
    have HD8 := Lib.hid (HD7.out.below hb8)
    have HB8 := Lib.hid (HB7.out.trans (hb8.mono HB7.out.size))
    clear FS hS7 HV7 hU7 hF7 HD7 HB7 hK8 hb8 e1 e2
    go_upto_region 10 with (fail)
    refine wp_world (fun w' => Blk w' w8.heap.size 55 #[.slice A8 K c8, .bool false, .int .i64 (ne : Int), .int .i64 300, .slice B8 m8 d8, .slice C8 0 k8, .bool false, .bool false] ∧ Blk w' (w8.heap.size + 1) 59 #[.int .i64 8, .int .i64 0, .int .i64 0, .bool false, .int .i64 0, .slice none 0 0, .slice E ne ce] ∧ Below w8.heap.size w8 w') ⟨(Blk.new _ _ _).alloc _, Blk.new1 _ _ _ _, ((Below.refl _ _).alloc (Nat.le_refl _) _).alloc (by simp) _⟩ ?_
    rintro w9 ⟨hW9, hA9, hb9⟩
    have HE9 := Lib.hid (HE8.out.below hb9)
    have hU9 := hU8.carry hb9
    have hF9 := hF8.carry hb9
    have HD9 := Lib.hid (HD8.out.below hb9)
    have HB9 := Lib.hid (HB8.out.trans (hb9.mono HB8.out.size))
    clear HE8 hU8 hF8 HD8 HB8 hb9
    go_wp2_with fail
    refine (senderTells_any _).mono ?_
    rintro e10 w10 ⟨rfl, hb10⟩
    have HE10 := Lib.hid (HE9.out.below hb10)
    have HD10 := Lib.hid (HD9.out.below hb10)
    have HB10 := Lib.hid (HB9.out.trans (hb10.mono HB9.out.size))
    have hU10 := hU9.carry hb10
    have hF10 := hF9.carry hb10
    have hW10 := hW9.carry hb10
    have hA10 := hA9.carry hb10
    clear HE9 HD9 HB9 hU9 hF9 hW9 hA9 hb10
    have FU := hU10.facts8
    have FF := hF10.facts7S
    have FA := hA10.facts7S
    have FW := hW10.facts8
    go_wp2_with fail
    refine (sameFrame_nil 8 0 0 0 false D E ne cd ce (bs.take ne) (by rw [List.length_take, HBL.out]; omega) _ HD10.out HE10.out).mono ?_
    rintro e11 w11 ⟨rfl, hb11⟩
    have HB11 := Lib.hid (HB10.out.trans (hb11.mono HB10.out.size))
    have hU11 := hU10.carry hb11
    have hW11 := hW10.carry hb11
    clear FU FF FA FW hU10 hF10 hW10 hA10 hb11 HB10
    have FU := hU11.facts8
    have FW := hW11.facts8
    go_wp2_with fail
    go_ret
    exact ⟨by first | rfl | (simp; done), HB11.out⟩
  · obtain rfl : nd = 0 := by omega
    have hbz : ∀ o o', Below w.heap.size w ((w4.alloc o).alloc o') := fun o o' => (HB4.out.alloc HB4.out.size o).alloc (HB4.out.alloc HB4.out.size o).size o'
    go_wp2_with fail
    refine (senderTells_any _).mono ?_
    rintro e5 w5 ⟨rfl, hb5⟩
    have hb6 := (hbz _ _).trans (hb5.mono (hbz _ _).size)
    go_wp2_with fail
    go_ret
    exact ⟨by first | rfl | (simp; done), hb6⟩
end Go.Proofs.Ytoonohhjcfceeaa
