/- The walk of the law FieldsKnown: a field that all know takes a byte; whatever is read may be. -/
import Derived.Test.YtdmonacekjcedaaFTell
import Derived.Test.YtdmonacekjcedaaTableOfWalk
import Derived.Test.YtdmonacekjcedaaPickAt
import Derived.Test.YtdmonacekjcedaaRawOpen
namespace Go.Proofs.Ytdmonacekjcedaa
open Go.ChangeShapes Go.WideShapes Go.ChangeAt Go.RowKit
set_option linter.unusedVariables false

theorem known_at (j : Nat) (hj : j < 11) : knownR (knownL.getD j fnil) = (j, true, true) := by
  have h : ∀ k : Fin 11, knownR (knownL.getD k.val fnil) = (k.val, true, true) := by decide +kernel
  exact h ⟨j, hj⟩
theorem known_len (x y : ByteArray) (j : Nat) (hj : j < 11) : (enc1 x y j true).length = 2 := by
  have h1 : (pEnc 6 192 j).length = 1 := by unfold pEnc; rw [if_pos (by omega)]; rfl
  have h2 : (pEnc 8 0 0).length = 1 := by unfold pEnc; rw [if_pos (by decide)]; rfl
  unfold enc1
  rw [if_pos rfl, List.length_append, h1, h2]

set_option maxRecDepth 100000 in
set_option maxHeartbeats 8000000 in
theorem fieldsKnown_walk (nn : Int) (BA : Option Addr) (bl bc : Nat) (zs : List Int) (room : Int) (RA : Option Addr) (len cap : Nat) (rs : List RawD) (w : World) (hn : (Lit.int .i64 nn).wf = true) (hb : IsRow .u8 w BA bl bc zs) (hrm : (Lit.int .i64 room).wf = true) (h : IsRaws w RA len cap rs) :
    Calls Try.prog 4 #[.int .i64 nn, .slice BA bl bc, .int .i64 room, .slice RA len cap] w fun e w' => e = .returned (.bool true) ∧ Below w.heap.size w w' := by
  obtain ⟨nn0, nn1⟩ := i64_bounds' hn
  obtain ⟨rr0, rr1⟩ := i64_bounds' hrm
  obtain ⟨bs, hbl, hbr, hbc, hbm⟩ := IsRow.bytes hb
  have HRS := Lib.hid h
  have HBR := Lib.hid hbr
  have HBL := Lib.hid hbl
  clear hn hrm h hb hbr hbl
  obtain ⟨j_, HJ, j0, j1⟩ := mod_ex nn 11 (by decide)
  obtain ⟨j, rfl⟩ := Int.eq_ofNat_of_zero_le j0
  have hj : j < 11 := by omega
  go_enter Try.func4, Try.ntmps4
  go_wp2_with fail
  refine (fKnown_blk _).mono ?_
  rintro e w1 ⟨rfl, hK1, hb1⟩
  have HB1 := Lib.hid hb1
  obtain ⟨b, off, hA, hcell⟩ := (known_rd hK1).fcell (by decide)
  obtain ⟨c0, c1⟩ := hcell j (by rw [knownL_len]; exact hj)
  injection hA with hA
  injection hA with hA1 hA2
  subst hA1
  subst hA2
  obtain ⟨⟨x, y⟩, hxy⟩ : ∃ f, knownL.getD j fnil = f := ⟨_, rfl⟩
  have hfo : FOk (x, y) := by rw [← hxy]; exact knownL_ok _ (getD_inF _ _ _ (by rw [knownL_len]; exact hj))
  have hkn := known_at j hj
  rw [hxy] at c0 c1 hkn
  rw [Nat.zero_add] at c0 c1
  dsimp only at c0 c1
  have hj0 : (0 : Int) ≤ (j : Int) := by omega
  have hj1 : (j : Int) < 11 := by omega
  have HKN := Lib.hid hkn
  have HFO := Lib.hid hfo
  clear hcell hxy hkn hfo hb1
  go_wp2_with fail
  refine (picked_at nn 11 (j : Int) nn0 nn1 (by decide) (by decide) HJ _).mono ?_
  rintro e w' ⟨rfl, rfl⟩
  go_upto_region 5 with (fail)
  refine wp_world (fun w' => Blk w' w1.heap.size 39 #[.string x, .string y] ∧ Below w1.heap.size w1 w') ⟨Blk.new _ _ _, (Below.refl _ _).alloc (Nat.le_refl _) _⟩ ?_
  rintro w2 ⟨hF2, hb2⟩
  have HB2 := Lib.hid (HB1.out.trans (hb2.mono HB1.out.size))
  have FF := hF2.two
  have HRW := Lib.hid (show RdX fcells 2 (w2.alloc (.cells #[.string x, .string y] 39)) (some ⟨w2.heap.size, 0, none⟩) [(x, y)] from Rd.of_blk (size := 2) (n := 1) (Blk.new _ _ _) rfl)
  clear c0 c1 hK1 hb2 HB1 hF2
  go_wp2_with fail
  refine (fEncode_one _ 100 (by decide) x y HFO.out true j true true HKN.out (.inl rfl) (by omega) _ 1 (Nat.le_refl _) (by decide) HRW.out).mono ?_
  rintro e w3 ⟨A', c', A2, n2, c2, rfl, hn2, hc2, hm2, hr2, hb3⟩
  obtain rfl : n2 = 2 := by rw [← hn2]; exact known_len x y j hj
  have HB3 := Lib.hid ((HB2.out.alloc HB2.out.size _).trans (hb3.mono (HB2.out.alloc HB2.out.size _).size))
  clear FF HRW HB2 hr2 hn2 hb3 HFO HKN
  go_upto_region 6 with (fail)
  refine wp_world (fun w' => Below w3.heap.size w3 w') ((Below.refl _ _).alloc (Nat.le_refl _) _) ?_
  intro w4 hb4
  have HB4 := Lib.hid (HB3.out.trans (hb4.mono HB3.out.size))
  clear hb4 HB3
  go_wp2_with fail
  refine (tableOf_any room RA len cap rs _ rr0 rr1 (HRS.out.keep HB4.out)).mono ?_
  rintro e w5 ⟨r, A5, n5, c5, B5, m5, d5, al, R, rfl, hb5, hr40, hr160, hRn, hnc5, hcm5, halm, hmd, hdm, hm12, hTab, hrR, hral⟩
  have HB5 := Lib.hid (HB4.out.trans (hb5.mono HB4.out.size))
  have hlen := hTab.len
  have HTV := Lib.hid (show TabV w5 (r : Int) (m5 : Int) A5 n5 c5 R from ⟨hRn, hnc5, hcm5, by omega, by omega, by omega, by omega, hTab.mem, by have := hTab.2.1; omega, hrR⟩)
  clear hb5 hrR hral hTab hRn HB4 hlen halm
  go_upto_region 7 with (fail)
  refine wp_world (fun w' => Blk w' w5.heap.size 25 #[.int .i64 (r : Int), .int .i64 (m5 : Int), .slice A5 n5 c5] ∧ Below w5.heap.size w5 w') ⟨Blk.new _ _ _, (Below.refl _ _).alloc (Nat.le_refl _) _⟩ ?_
  rintro w6 ⟨hT6, hb6⟩
  have HB6 := Lib.hid (HB5.out.trans (hb6.mono HB5.out.size))
  have HTV6 := Lib.hid (HTV.out.below hb6)
  have FT := hT6.facts3
  clear hb6 HB5 HTV hT6
  obtain ⟨out, E, hdec⟩ : ∃ out E, fdecR (m5 : Int) R bs = (out, E) := ⟨_, _, rfl⟩
  have hok := fdecR_ok (m5 : Int) R bs
  rw [hdec] at hok
  have HDEC := Lib.hid hdec
  have HOK := Lib.hid hok
  clear hdec hok
  go_wp2_with fail
  refine (fDecode_any _ (r : Int) (m5 : Int) A5 n5 c5 R HTV6.out BA bs bl bc HBL.out hbc (by unfold maxLen at hbm; omega) (HBR.out.below HB6.out) out E HDEC.out).mono ?_
  rintro e w7 ⟨B7, m7, d7, rfl, hm7, hmd7, hdm7, hr7, hb7⟩
  have HB7 := Lib.hid (HB6.out.trans (hb7.mono HB6.out.size))
  have HR7 := Lib.hid hr7
  have HM7 := Lib.hid hm7
  clear hb7 hr7 hm7 FT HB6 HTV6 HDEC
  go_wp2_with fail
  refine (fieldsTell_any _).mono ?_
  rintro e w8 ⟨rfl, hb8⟩
  have HB8 := Lib.hid (HB7.out.trans (hb8.mono HB7.out.size))
  have HR8 := Lib.hid (RdX.below HR7.out hb8)
  clear hb8 HB7 HR7
  by_cases hE : E = 0
  · subst hE
    go_wp2_with fail
    refine (fCheck_any B7 m7 d7 out HM7.out hmd7 hdm7 _ HR8.out 0 (HOK.out.1 (by first | rfl | trivial | simp))).mono ?_
    rintro e w9 ⟨rfl, hb9⟩
    have HB9 := Lib.hid (HB8.out.trans (hb9.mono HB8.out.size))
    clear hb9 HB8
    go_wp2_with fail
    go_ret
    exact ⟨by first | rfl | (simp; done), HB9.out⟩
  · have hne : (E == 0) = false := by simp [hE]
    have hne2 : (E != 0) = true := by simp [hE]
    obtain rfl : m7 = 0 := by rw [← HM7.out, HOK.out.2 hE]; rfl
    go_wp2_with fail
    go_ret
    exact ⟨by first | rfl | (simp; done), HB8.out⟩
end Go.Proofs.Ytdmonacekjcedaa
