/- The walk of the law HeadAny. -/
import Derived.Test.YtenlgfeldkfmiaaHeadBackWalk
namespace Go.Proofs.Ytenlgfeldkfmiaa
open Go.ChangeShapes Go.WideShapes Go.ChangeAt Go.RowKit
set_option linter.unusedVariables false

set_option maxRecDepth 100000 in
set_option maxHeartbeats 2000000 in
theorem headAny_bad (A : Option Addr) (bs : List UInt8) (n c : Nat) (w : World) (hn : bs.length = n) (h : RdB w A bs) (hc : n ≤ c) (hm : c ≤ 9223372036854775807) (E : Int) (hE : hdec bs = (hnil, 0, E)) (h0 : E ≠ 0) (w : World) (h : RdB w A bs) :
    Calls Try.prog 4 #[.slice A n c] w fun e w' => e = .returned (.bool true) ∧ Below w.heap.size w w' := by
  have hDA := fun W hW => hDec_any A bs n c W hn hW hc hm
  rw [hE] at hDA
  have HDA := Lib.hid hDA
  have HDN := Lib.hid (fun W => hDec_any none [] 0 0 W rfl Rd.nil (Nat.le_refl _) (by decide))
  have HR := Lib.hid h
  have he0 : (E == 0) = false := by simp [h0]
  clear hDA h hE hn
  go_enter Try.func4, Try.ntmps4
  go_wp2_with fail
  refine (HDA.out _ HR.out).mono ?_
  rintro e w1 ⟨T1, d1, rfl, _, _, _, hb1⟩
  simp only [hcells]
  go_wp2_with fail
  refine (HDN.out _).mono ?_
  rintro e w2 ⟨T2, d2, rfl, _, _, _, hb2⟩
  have hbz : ∀ o, Below w.heap.size w (w2.alloc o) := fun o => by
    have h1 := hb1.alloc hb1.size (.cells #[.int .i64 hnil.kind, .int .i64 hnil.to, .int .i64 hnil.from_, .slice T1 hnil.tok.length d1, .int .i64 hnil.number, .int .i64 hnil.size] 26)
    have h2 := h1.trans (hb2.mono h1.size)
    exact h2.alloc h2.size _
  simp only [hcells, hdec, List.length_nil, if_pos]
  go_wp2_with fail
  go_ret
  exact ⟨by first | rfl | simp, hbz _⟩

set_option maxRecDepth 100000 in
set_option maxHeartbeats 2000000 in
theorem headAny_good (A : Option Addr) (bs : List UInt8) (n c : Nat) (hn : bs.length = n) (hc : n ≤ c) (hm : c ≤ 9223372036854775807) (H : HeadD) (u : Nat) (hE : hdec bs = (H, u, 0)) (w : World) (h : RdB w A bs) :
    Calls Try.prog 4 #[.slice A n c] w fun e w' => e = .returned (.bool true) ∧ Below w.heap.size w w' := by
  obtain ⟨ok, hu, hun⟩ := hdec_ok hE
  rw [hn] at hun
  obtain ⟨k, hk⟩ : ∃ k, (henc H).length = k := ⟨_, rfl⟩
  rw [hk] at hu
  have hDA := fun W hW => hDec_any A bs n c W hn hW hc hm
  rw [hE] at hDA
  have hDB := fun A' c' W hW h1 h2 => hDec_any A' (henc H ++ []) k c' W (by rw [List.append_nil, hk]) hW h1 h2
  rw [hdec_back H ok [], hk] at hDB
  simp only [List.append_nil] at hDB
  have HDA := Lib.hid hDA
  have HDB := Lib.hid hDB
  have HDN := Lib.hid (fun W => hDec_any none [] 0 0 W rfl Rd.nil (Nat.le_refl _) (by decide))
  have HR := Lib.hid h
  have HK := Lib.hid hk
  have OK := Lib.hid ok
  clear hDA hDB h hE hn hk ok
  go_enter Try.func4, Try.ntmps4
  go_wp2_with fail
  refine (HDA.out _ HR.out).mono ?_
  rintro e w1 ⟨T, d, rfl, hT, hTd, hd, hb1⟩
  simp only [hcells]
  go_upto_region 2 with (fail)
  refine wp_world (fun w' => Blk w' w1.heap.size 26 #[.int .i64 H.kind, .int .i64 H.to, .int .i64 H.from_, .slice T H.tok.length d, .int .i64 H.number, .int .i64 H.size] ∧ RdB w' T H.tok ∧ Below w.heap.size w w') ⟨Blk.new _ _ _, Rd.alloc hT _, hb1.alloc hb1.size _⟩ ?_
  clear hT hb1
  rintro w2 ⟨hG, hT, hb⟩
  have HG := Lib.hid hG
  have HT := Lib.hid hT
  have HB := Lib.hid hb
  clear hG hT hb
  go_wp2_with fail
  refine (HDN.out _).mono ?_
  rintro e w3 ⟨T3, d3, rfl, _, _, _, hb3⟩
  simp only [hcells, hdec, List.length_nil, if_pos]
  go_upto_region 3 with (fail)
  refine wp_world (fun w' => Blk w' w1.heap.size 26 #[.int .i64 H.kind, .int .i64 H.to, .int .i64 H.from_, .slice T H.tok.length d, .int .i64 H.number, .int .i64 H.size] ∧ RdB w' T H.tok ∧ Below w.heap.size w w') ⟨(HG.out.carry hb3).alloc _, Rd.alloc (HT.out.below hb3) _, (HB.out.trans (hb3.mono HB.out.size)).alloc (HB.out.trans (hb3.mono HB.out.size)).size _⟩ ?_
  clear HG HT HB hb3
  rintro w4 ⟨hG, hT, hb⟩
  have FG := hG.facts6
  have HG := Lib.hid hG
  have HT := Lib.hid hT
  have HB := Lib.hid hb
  clear hG hT hb
  go_wp2_with fail
  refine (hEnc_any H OK.out T d _ HT.out).mono ?_
  rintro e w5 ⟨A5, k', c5, rfl, hk', hO5, hc5, hm5, hb5⟩
  obtain rfl : k = k' := by rw [← hk', HK.out]
  have HG5 := Lib.hid (HG.out.carry hb5)
  have HT5 := Lib.hid (HT.out.below hb5)
  have HB5 := Lib.hid (HB.out.trans (hb5.mono HB.out.size))
  have HR5 := Lib.hid hO5.rd
  clear HG HT HB hb5 hO5 hk' FG
  go_wp2_with fail
  refine (HDB.out A5 c5 _ HR5.out hc5 hm5).mono ?_
  rintro e w6 ⟨T6, d6, rfl, hT6, hTd6, hd6, hb6⟩
  simp only [hcells]
  go_upto_region 7 with (fail)
  refine wp_world (fun w' => Blk w' w1.heap.size 26 #[.int .i64 H.kind, .int .i64 H.to, .int .i64 H.from_, .slice T H.tok.length d, .int .i64 H.number, .int .i64 H.size] ∧ Blk w' w6.heap.size 26 #[.int .i64 H.kind, .int .i64 H.to, .int .i64 H.from_, .slice T6 H.tok.length d6, .int .i64 H.number, .int .i64 H.size] ∧ RdB w' T H.tok ∧ RdB w' T6 H.tok ∧ Below w.heap.size w w')
    ⟨(HG5.out.carry hb6).alloc _, Blk.new _ _ _, Rd.alloc (HT5.out.below hb6) _, Rd.alloc hT6 _, (HB5.out.trans (hb6.mono HB5.out.size)).alloc (HB5.out.trans (hb6.mono HB5.out.size)).size _⟩ ?_
  clear HG5 HT5 HB5 HR5 hb6 hT6
  rintro w9 ⟨hG, hG6, hT, hT6, hb⟩
  have FG := hG.facts6
  have HG := Lib.hid hG
  have HG6 := Lib.hid hG6
  have HT := Lib.hid hT
  have HT6 := Lib.hid hT6
  have HB := Lib.hid hb
  clear hG hG6 hT hT6 hb
  go_wp2_with fail
  refine (hCheck_ok H OK.out T d _).mono ?_
  rintro e wa ⟨rfl, hba⟩
  have hGa := HG.out.carry hba
  have hG6a := HG6.out.carry hba
  have hTa := HT.out.below hba
  have hT6a := HT6.out.below hba
  clear FG
  have FG := hGa.facts6
  have FG6 := hG6a.facts6
  have hke : ((k : Int) == (k : Int)) = true := by simp
  have hku := decide_eq_true (show (k : Int) ≤ (u : Int) by omega)
  have hunI := decide_eq_true (show (u : Int) ≤ (n : Int) by omega)
  have HTA := Lib.hid hTa
  have HT6A := Lib.hid hT6a
  have HBA := Lib.hid (HB.out.trans (hba.mono HB.out.size))
  clear hGa hG6a hTa hT6a hba HG HG6 HT HT6 HB
  go_wp2_with fail
  refine (sameHead_eq H T T6 d d6 _ HTA.out HT6A.out).mono ?_
  rintro e wb ⟨rfl, hbb⟩
  go_wp2_with fail
  go_ret
  exact ⟨by first | rfl | simp, HBA.out.trans (hbb.mono HBA.out.size)⟩

theorem headAny_walk (a : Option Addr) (len cap : Nat) (zs : List Int) (w : World) (h : IsRow .u8 w a len cap zs) :
    Calls Try.prog 4 #[.slice a len cap] w fun e w' => e = .returned (.bool true) ∧ Below w.heap.size w w' := by
  obtain ⟨bs, hl, hr, hc, hm⟩ := h.bytes
  unfold maxLen at hm
  by_cases he : (hdec bs).2.2 = 0
  · exact headAny_good a bs len cap hl hc (by omega) (hdec bs).1 (hdec bs).2.1 (by rw [← he]) w hr
  · obtain ⟨h1, h2⟩ := hdec_bad he
    exact headAny_bad a bs len cap w hl hr hc (by omega) (hdec bs).2.2 (by rw [← h1, ← h2]) he w hr
end Go.Proofs.Ytenlgfeldkfmiaa
