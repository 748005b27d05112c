/- The walk of the law PrefixBack. -/
import Derived.Test.YteajdkbilbopoaaPEncWalk
import Derived.Test.YteajdkbilbopoaaPDecWalk
import Derived.Deep.RegionWith
import Derived.BigRegion
import Derived.Deep.QuietTactic
import Derived.BigQuiet
namespace Go.Proofs.Yteajdkbilbopoaa
open Go.ChangeShapes Go.WideShapes Go.ChangeAt Go.RowKit
set_option linter.unusedVariables false

theorem andNot_all (v : Nat) (h1 : 1 ≤ v) (h8 : v ≤ 8) : ∀ n : Nat, n < 256 → bits .andNot .u8 (n : Int) (IntKind.u8.wrap (IntKind.u8.wrap (2 ^ v) - 1)) = ((n - n % 2 ^ v : Nat) : Int) := by
  have : v = 1 ∨ v = 2 ∨ v = 3 ∨ v = 4 ∨ v = 5 ∨ v = 6 ∨ v = 7 ∨ v = 8 := by omega
  rcases this with rfl | rfl | rfl | rfl | rfl | rfl | rfl | rfl <;> decide +kernel
theorem wrap_top (v : Nat) (h1 : 1 ≤ v) (h8 : v ≤ 8) : IntKind.u8.wrap (IntKind.u8.wrap (2 ^ v) - 1) = (2 ^ v - 1) % 256 := by
  have : v = 1 ∨ v = 2 ∨ v = 3 ∨ v = 4 ∨ v = 5 ∨ v = 6 ∨ v = 7 ∨ v = 8 := by omega
  rcases this with rfl | rfl | rfl | rfl | rfl | rfl | rfl | rfl <;> decide
theorem andNot_w (x : Int) (v : Nat) (x0 : 0 ≤ x) (x1 : x < 256) (h1 : 1 ≤ v) (h8 : v ≤ 8) :
    ∃ c : UInt8, bits .andNot .u8 (IntKind.u8.wrap x) (IntKind.u8.wrap (IntKind.u8.wrap (2 ^ v) - 1)) = (c.toNat : Int) ∧ c.toNat % 2 ^ v = 0 := by
  obtain ⟨n, rfl⟩ := Int.eq_ofNat_of_zero_le x0
  have hw : IntKind.u8.wrap (n : Int) = (n : Int) := by rw [IntKind.wrap_u8]; omega
  rw [hw, andNot_all v h1 h8 n (by omega)]
  refine ⟨UInt8.ofNat (n - n % 2 ^ v), ?_, ?_⟩
  · rw [ofNat_lt _ (by omega)]
  · rw [ofNat_lt _ (by omega)]
    have := Nat.div_add_mod n (2 ^ v)
    rw [show n - n % 2 ^ v = 2 ^ v * (n / 2 ^ v) from by omega]
    exact Nat.mul_mod_right _ _
theorem pEnc_first (v : Nat) (h1 : 1 ≤ v) (h8 : v ≤ 8) (c : UInt8) (hc : c.toNat % 2 ^ v = 0) (m : Nat) : ∃ b0 : UInt8, (pEnc v c m).getD 0 0 = b0 ∧ b0.toNat - b0.toNat % 2 ^ v = c.toNat := by
  have hp := pow_w v h1 h8
  have key : ∀ k, k < 2 ^ v → (UInt8.ofNat (c.toNat + k)).toNat - (UInt8.ofNat (c.toNat + k)).toNat % 2 ^ v = c.toNat := fun k hk => by
    rw [ofNat_lt _ (fits_byte _ _ _ hp.2 (pow_dvd v h8) hc c.toNat_lt hk), low_bits _ _ _ hc hk]; omega
  refine ⟨_, rfl, ?_⟩
  unfold pEnc
  split
  · exact key _ (by omega)
  · exact key _ (by omega)

set_option maxRecDepth 100000 in
theorem prefixBack_walk (first width n : Int) (a : Option Addr) (len cap : Nat) (zs : List Int) (at_ : Int) (w : World) (hf : (Lit.int .i64 first).wf = true) (hwd : (Lit.int .i64 width).wf = true) (hn : (Lit.int .i64 n).wf = true) (h : IsRow .u8 w a len cap zs) (hcap : cap * 1 ≤ 140737488351232) (hat : (Lit.int .i64 at_).wf = true) :
    Calls Try.prog 17 #[.int .i64 first, .int .i64 width, .int .i64 n, .slice a len cap, .int .i64 at_] w fun e w' => e = .returned (.bool true) ∧ Below w.heap.size w w' := by
  obtain ⟨more, hl, hr, hc, hm⟩ := h.bytes
  have ra := numN_le n
  have rat := i64_bounds hat
  have rf := i64_bounds hf
  have rw := i64_bounds hwd
  have rn := i64_bounds hn
  clear hf hwd hn hat h
  go_enter Try.func17, Try.ntmps17
  go_wp2_with fail
  refine (picked_ex _ _ rw.1 rw.2 (by omega) (by omega) _).mono ?_
  rintro e w' ⟨y, y0, y1, rfl, rfl⟩
  obtain ⟨v, hv⟩ : ∃ v : Nat, 1 + y = (v : Int) := ⟨(1 + y).toNat, by omega⟩
  go_wp2_with fail
  refine (number_nat _ _).mono ?_
  rintro e w' ⟨rfl, rfl⟩
  generalize numN n = m at *
  go_wp2_with fail
  refine (picked_ex _ _ rf.1 rf.2 (by omega) (by omega) _).mono ?_
  rintro e w' ⟨z, z0, z1, rfl, rfl⟩
  go_wp2_with fail
  all_goals first
    | (refine (picked_ex _ _ rn.1 rn.2 (by omega) (by omega) _).mono ?_
       rintro e w' ⟨q, q0, q1, rfl, rfl⟩
       obtain ⟨m, rfl⟩ := Int.eq_ofNat_of_zero_le q0
       clear ra
       have ra : (m : Int) ≤ 4611686018427387903 := by omega
       go_wp2_with fail)
    | skip
  all_goals
    go_region_with (go_at_call 26; refine (picked_ex _ _ rf.1 rf.2 (by omega) (by omega) _).mono ?_; rintro e w' ⟨x, x0, x1, rfl, rfl⟩)
    obtain ⟨c, hcv, hcm⟩ := andNot_w x v x0 x1 (by omega) (by omega)
    rw [hcv]
    clear hcv
    have v1 : 1 ≤ v := by omega
    have v8 : v ≤ 8 := by omega
    obtain ⟨L, hL⟩ : ∃ L, (pEnc v c m).length = L := ⟨_, rfl⟩
    have hLb := pEnc_len v c m
    have HB : Hid (∀ more, pDec v (pEnc v c m ++ more) = ((m : Int), ((pEnc v c m).length : Int), 0)) := fun more => pDec_back v v1 v8 c hcm m ra more
    have HCUT : Hid (∀ j, j < (pEnc v c m).length → pDec v ((pEnc v c m).take j) = (0, 0, 4)) := fun j hj => pDec_cut v v1 v8 c hcm m ra j hj
    have HFI : Hid (∃ b0 : UInt8, (pEnc v c m).getD 0 0 = b0 ∧ b0.toNat - b0.toNat % 2 ^ v = c.toNat) := pEnc_first v v1 v8 c hcm m
    have HPE : Hid (∀ W, Calls Try.prog 40 #[.int .u8 (c.toNat : Int), .int .i64 v, .int .i64 m] W fun e w' =>
      ∃ A c', e = .returned (.tuple #[.slice A L c', .int .i64 0]) ∧ OwnB w' W.heap.size 5 A c' (pEnc v c m) ∧ c' ≤ 9223372036854775807 ∧ Below W.heap.size W w') := penc_any v v1 v8 c hcm m ra L hL
    have HPB : Hid (∀ W, Calls Try.prog 40 #[.int .u8 255, .int .i64 v, .int .i64 m] W fun e w' => e = .returned (.tuple #[.slice none 0 0, .int .i64 3]) ∧ W = w') := penc_bad v m v1 v8 (by omega) ra
    rw [hL] at HB HCUT hLb
    generalize pEnc v c m = E at *
    have HLL := Lib.hid hL
    have HCM := Lib.hid hcm
    have HLM := Lib.hid hl
    have hrd := hr.below (w' := w.drew) (Below.refl _ _).drew
    have hbd : Below w.heap.size w w.drew := (Below.refl _ _).drew
    clear hL hcm hl hr
    go_wp2_with fail
    refine (HPE.out _).mono ?_
    rintro e w1 ⟨A0, c0, rfl, hO0, hc0, hb1⟩
    have hr1 := hrd.below hb1
    have hb01 : Below w.heap.size w w1 := hbd.trans (hb1.mono hbd.size)
    have hEr := hO0.rd
    have hb0 : Below w.heap.size w (w1.alloc (.cells #[] 5)) := hb01.alloc hb01.size _
    have hb0' : Below w1.heap.size w1 (w1.alloc (.cells #[] 5)) := (Below.refl _ _).alloc (Nat.le_refl _) _
    have hcL := hO0.cap
    rw [HLL.out] at hcL
    go_wp2_with (first
      | (at_builtin
         refine wpList_appB _ rfl (.tmp 49) (.tmp 50) _ rfl w1.heap.size 5 Try.underlying36 u8_infoP (some ⟨w1.heap.size, 0, none⟩) 0 0 [] rfl rfl (OwnB.made w1 _ _ (Nat.le_refl _)) A0 L c0 E rfl HLL.out (hEr.below hb0') E rfl L (by omega) (by omega) (by simp) ?_
         intro A1 c1 w2 hO1 hc1 hc1' hb2
         have hz2 : w1.heap.size ≤ w2.heap.size := by have := hb2.size; simp at this; omega)
      | (at_builtin
         refine wpList_appB _ rfl (.tmp 51) (.tmp 52) _ rfl w1.heap.size 5 Try.underlying36 u8_infoP A1 L c1 E rfl HLL.out hO1 a len cap more rfl HLM.out (hr1.below (hb0'.trans hb2)) (E ++ more) rfl _ rfl (by omega) (by omega) ?_
         intro A2 c2 w3 hO2 hc2 hc2' hb3))
    refine (pdec_any v v1 v8 A2 (E ++ more) (L + len) c2 (by rw [List.length_append, HLL.out, HLM.out]) hc2 hc2' _ hO2.rd).mono ?_
    rw [HB.out more]
    rintro e w' ⟨rfl, rfl⟩
    have hb3' := hb0'.trans (hb2.trans hb3)
    have hr3 := hEr.below hb3'
    have fin := hb01.trans (hb3'.mono hb01.size)
    clear hO1 hc1 hc1' hb2 hO2 hc2 hc2' hb3 hb0 hb0' hb1 hr1 hrd hbd hz2 hb3' hb01 hEr hO0 HPE HB
    go_wp2_with fail
    refine (picked_ex _ _ rat.1 rat.2 (by omega) (by omega) _).mono ?_
    rintro e w' ⟨k, k0, k1, rfl, rfl⟩
    obtain ⟨k, rfl⟩ := Int.eq_ofNat_of_zero_le k0
    have hkl : k < L := by omega
    have hl : (E.take k).length = k := by rw [List.length_take, HLL.out]; omega
    have HL := Lib.hid hl
    have hfr := hr3.front (k := k) (by rw [HLL.out]; omega)
    clear hl
    go_wp2_with fail
    refine (pdec_any v v1 v8 A0 (E.take k) k c0 HL.out (by omega) hc0 _ hfr).mono ?_
    rw [HCUT.out k hkl]
    rintro e w' ⟨rfl, rfl⟩
    clear hfr HL hkl HCUT
    go_wp2_with fail
    refine (HPB.out _).mono ?_
    rintro e w' ⟨rfl, rfl⟩
    clear HPB
    obtain ⟨b0, hb0, hbc⟩ := HFI.out
    obtain ⟨b, off, rfl, hcell⟩ := hr3.cell (by rw [HLL.out]; omega)
    have hc1 := hcell 0 (by rw [HLL.out]; omega)
    rw [hb0, Nat.add_zero] at hc1
    have hc2 : w3.drew.cell? ⟨b, off, none⟩ = some (.int .u8 (b0.toNat : Int)) := hc1
    have hN := andNot_all v v1 v8 b0.toNat b0.toNat_lt
    rw [hbc] at hN
    have hN2 : bits .andNot .u8 (b0.toNat : Int) ((2 ^ v - 1) % 256) = (c.toNat : Int) := by rw [← wrap_top v v1 v8]; exact hN
    clear hcell hb0 hbc hr3 HFI
    go_wp2_with fail
    go_quiet (fail)
    go_wp2_with fail
    go_ret
    exact ⟨by simp, ⟨fin.os, fin.tape, fin.output, fin.size, fin.block⟩⟩
end Go.Proofs.Yteajdkbilbopoaa
