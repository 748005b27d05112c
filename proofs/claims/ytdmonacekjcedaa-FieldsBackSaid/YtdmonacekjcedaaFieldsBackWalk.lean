/- The walk of the law FieldsBack: fields are read as they were written, by whoever has the same table, once what was told ahead has come. -/
import Derived.Test.YtdmonacekjcedaaFTell
import Derived.Test.YtdmonacekjcedaaTableOfWalk
import Derived.Test.YtdmonacekjcedaaFieldsOfWalk
import Derived.Test.YtdmonacekjcedaaEncWalk
import Derived.Test.YtdmonacekjcedaaApplyWalk
import Derived.Test.YtdmonacekjcedaaRawOpen
namespace Go.Proofs.Ytdmonacekjcedaa
open Go.ChangeShapes Go.WideShapes Go.ChangeAt Go.RowKit
set_option linter.unusedVariables false

set_option maxRecDepth 100000 in
set_option maxHeartbeats 8000000 in
theorem fieldsBack_walk (room : Int) (RA : Option Addr) (len cap : Nat) (rs : List RawD) (MA : Option Addr) (mlen mcap : Nat) (ms : List RawD) (ah : Bool) (w : World) (hrm : (Lit.int .i64 room).wf = true) (h : IsRaws w RA len cap rs) (hm : IsRaws w MA mlen mcap ms) :
    Calls Try.prog 5 #[.int .i64 room, .slice RA len cap, .slice MA mlen mcap, .bool ah] w fun e w' => e = .returned (.bool true) ∧ Below w.heap.size w w' := by
  obtain ⟨rr0, rr1⟩ := i64_bounds' hrm
  have HRS := Lib.hid h
  have HMS := Lib.hid hm
  clear hrm h hm
  go_enter Try.func5, Try.ntmps5
  go_wp2_with fail
  refine (tableOf_any room RA len cap rs _ rr0 rr1 HRS.out).mono ?_
  rintro e w5 ⟨r, A5, n5, c5, B5, m5, d5, al, R, rfl, hb5, hr40, hr160, hRn, hnc5, hcm5, halm, hmd, hdm, hm12, hTab, hrR, hral⟩
  have HB5 := Lib.hid hb5
  have hlen := hTab.len
  have HTV := Lib.hid (show TabV w5 (r : Int) (m5 : Int) A5 n5 c5 R from ⟨hRn, hnc5, hcm5, by omega, by omega, by omega, by omega, hTab.mem, by have := hTab.2.1; omega, hrR⟩)
  clear hb5 hrR hral hTab hRn hlen halm
  go_upto_region 2 with (fail)
  refine wp_world (fun w' => Blk w' w5.heap.size 25 #[.int .i64 (r : Int), .int .i64 (m5 : Int), .slice A5 n5 c5] ∧ TabV w' (r : Int) (m5 : Int) A5 n5 c5 R ∧ Below w.heap.size w w') ⟨Blk.newQ rfl, HTV.out.below ((Below.refl _ _).alloc (Nat.le_refl _) _), HB5.out.alloc HB5.out.size _⟩ ?_
  clear HTV HB5
  rintro w6 ⟨hT6, hV6, hb6⟩
  have HT6 := Lib.hid hT6
  have HV6 := Lib.hid hV6
  have HB6 := Lib.hid hb6
  clear hT6 hV6 hb6
  go_wp2_with fail
  refine (fieldsOf_any MA mlen mcap ms _ (HMS.out.keep HB6.out)).mono ?_
  rintro e w7 ⟨L, m, cL, fs, rfl, hfn, hm8, hmc, hcL, hfo, hrf, hb7⟩
  have HT7 := Lib.hid (HT6.out.carry hb7)
  have HV7 := Lib.hid (HV6.out.below hb7)
  have HB7 := Lib.hid (HB6.out.trans (hb7.mono HB6.out.size))
  have HFN := Lib.hid hfn
  have HFO := Lib.hid hfo
  have HRF := Lib.hid hrf
  have FT := HT7.out.facts3
  clear hfn hfo hrf hb7 HT6 HV6 HB6
  go_wp2_with fail
  refine (fEncode_any _ r (m5 : Int) A5 n5 c5 R HV7.out ah L m cL fs HFN.out hmc hcL HRF.out HFO.out hm8).mono ?_
  rintro e w8 ⟨A, n, c, A1, n1, c1, A2, n2, c2, told, need, ps, rfl, hQ, hV8, hB1, hB2, hb8⟩
  have HT8 := Lib.hid (HT7.out.carry hb8)
  have HV8 := Lib.hid (HV7.out.below hb8)
  have HB8 := Lib.hid (HB7.out.trans (hb8.mono HB7.out.size))
  have HRF8 := Lib.hid (RdX.below HRF.out hb8)
  have HQ := Lib.hid hQ
  have HU8 := Lib.hid hV8
  have HB1 := Lib.hid hB1
  have HB2 := Lib.hid hB2
  clear HT7 HV7 HB7 HRF hb8 hV8 hB1 hB2 FT hQ
  go_upto_region 4 with (fail)
  refine wp_world (fun w' => Blk w' w8.heap.size 25 #[.int .i64 (r : Int), .int .i64 ((m5 : Int) + told.length), .slice A n c] ∧ Below w8.heap.size w8 w') ⟨Blk.newQ rfl, (Below.refl _ _).alloc (Nat.le_refl _) _⟩ ?_
  rintro w9 ⟨hU9, hb9⟩
  have HT9 := Lib.hid (HT8.out.carry hb9)
  have HV9 := Lib.hid (HV8.out.below hb9)
  have HB9 := Lib.hid (HB8.out.trans (hb9.mono HB8.out.size))
  have HRF9 := Lib.hid (RdX.below HRF8.out hb9)
  have HUV9 := Lib.hid (HU8.out.below hb9)
  have HU9 := Lib.hid hU9
  have HB19 := Lib.hid (HB1.out.below hb9)
  have HB29 := Lib.hid (HB2.out.below hb9)
  clear HT8 HV8 HB8 HRF8 HU8 HB1 HB2 hb9 hU9
  have FT := HT9.out.facts3
  have hn1 := HB19.out.hn
  have hB1 : BV w9 A1 n1 c1 ((tellB told).take n1) := by rw [List.take_of_length_le (by omega)]; exact HB19.out
  have HB1 := Lib.hid hB1
  clear hB1
  go_wp2_with fail
  refine (fApply_any _ r (m5 : Int) A5 n5 c5 R HV9.out told HQ.out.fok HQ.out.sz HQ.out.fit n1 (by omega) A1 n1 c1 HB1.out told.length (by rw [← hn1]; exact fitsN_whole told)).mono ?_
  rintro e w10 ⟨A3, n3, c3, rfl, hV10, hb10⟩
  rw [List.take_length] at hV10 ⊢
  rw [hn1]
  have HU10 := Lib.hid (HU9.out.carry hb10)
  have HUV10 := Lib.hid (HUV9.out.below hb10)
  have HB10 := Lib.hid (HB9.out.trans (hb10.mono HB9.out.size))
  have HRF10 := Lib.hid (RdX.below HRF9.out hb10)
  have HB210 := Lib.hid (HB29.out.below hb10)
  have HW10 := Lib.hid hV10
  clear HT9 HV9 HB9 HRF9 HUV9 HU9 HB19 HB29 HB1 FT hV10 hb10
  go_upto_region 5 with (fail)
  refine wp_world (fun w' => Blk w' w10.heap.size 25 #[.int .i64 (r : Int), .int .i64 ((m5 : Int) + told.length), .slice A3 n3 c3] ∧ Below w10.heap.size w10 w') ⟨Blk.newQ rfl, (Below.refl _ _).alloc (Nat.le_refl _) _⟩ ?_
  rintro w11 ⟨hW11, hb11⟩
  have HU11 := Lib.hid (HU10.out.carry hb11)
  have HUV11 := Lib.hid (HUV10.out.below hb11)
  have HB11 := Lib.hid (HB10.out.trans (hb11.mono HB10.out.size))
  have HRF11 := Lib.hid (RdX.below HRF10.out hb11)
  have HB211 := Lib.hid (HB210.out.below hb11)
  have HWV11 := Lib.hid (HW10.out.below hb11)
  have HW11 := Lib.hid hW11
  have FT := hW11.facts3
  have hdec : fdecR ((m5 : Int) + told.length) (R ++ told) (secB need ps) = (fs, 0) := by
    have hps : ps.length ≤ 8 := by
      have h1 : ps.length = fs.length := by rw [← HQ.out.fst, List.length_map]
      have h2 := HFN.out
      omega
    have h := fdec_back ((m5 : Int) + told.length) (R ++ told) need HQ.out.nd HQ.out.fit ps hps HQ.out.ok
    rw [HQ.out.fst] at h
    exact h
  have HDEC := Lib.hid hdec
  clear HU10 HUV10 HB10 HRF10 HB210 HW10 hb11 hW11 hdec
  go_wp2_with fail
  refine (fDecode_any _ (r : Int) _ A3 n3 c3 _ HWV11.out A2 _ n2 c2 HB211.out.hn HB211.out.hnc HB211.out.hcm HB211.out.rd fs 0 HDEC.out).mono ?_
  rintro e w12 ⟨B7, m7, d7, rfl, hm7, hmd7, hdm7, hr7, hb12⟩
  obtain rfl : m7 = m := by rw [← hm7]; exact HFN.out
  have HU12 := Lib.hid (HU11.out.carry hb12)
  have HUV12 := Lib.hid (HUV11.out.below hb12)
  have HB12 := Lib.hid (HB11.out.trans (hb12.mono HB11.out.size))
  have HRF12 := Lib.hid (RdX.below HRF11.out hb12)
  have HWV12 := Lib.hid (HWV11.out.below hb12)
  have HW12 := Lib.hid (HW11.out.carry hb12)
  have HR7 := Lib.hid hr7
  clear HU11 HUV11 HB11 HRF11 HB211 HWV11 HW11 FT hr7 hb12 hm7
  go_wp2_with fail
  refine (fieldsTell_any _).mono ?_
  rintro e w13 ⟨rfl, hb13⟩
  have HU13 := Lib.hid (HU12.out.carry hb13)
  have HUV13 := Lib.hid (HUV12.out.below hb13)
  have HB13 := Lib.hid (HB12.out.trans (hb13.mono HB12.out.size))
  have HRF13 := Lib.hid (RdX.below HRF12.out hb13)
  have HWV13 := Lib.hid (HWV12.out.below hb13)
  have HW13 := Lib.hid (HW12.out.carry hb13)
  have HR13 := Lib.hid (RdX.below HR7.out hb13)
  have FU := HU13.out.facts3
  have FW := HW13.out.facts3
  clear HU12 HUV12 HB12 HRF12 HWV12 HW12 HR7 hb13
  have e3 : n3 = n := by rw [← HWV13.out.hn]; exact HUV13.out.hn
  subst e3
  go_wp2_with fail
  refine (sameFields_eq A A3 n3 c c3 (R ++ told) HUV13.out.hn HUV13.out.hnc HWV13.out.hnc HUV13.out.hcm HWV13.out.hcm _ HUV13.out.hr HWV13.out.hr).mono ?_
  rintro e w14 ⟨rfl, hb14⟩
  have HB14 := Lib.hid (HB13.out.trans (hb14.mono HB13.out.size))
  have HRF14 := Lib.hid (RdX.below HRF13.out hb14)
  have HR14 := Lib.hid (RdX.below HR13.out hb14)
  clear HU13 HUV13 HB13 HRF13 HWV13 HW13 HR13 FU FW hb14
  go_wp2_with fail
  refine (sameFields_eq B7 L m7 d7 cL fs HFN.out hmd7 hmc hdm7 hcL _ HR14.out HRF14.out).mono ?_
  rintro e w15 ⟨rfl, hb15⟩
  have HB15 := Lib.hid (HB14.out.trans (hb15.mono HB14.out.size))
  clear HB14 HRF14 HR14 hb15
  go_wp2_with fail
  go_ret
  exact ⟨by first | rfl | (simp; done), HB15.out⟩
end Go.Proofs.Ytdmonacekjcedaa
