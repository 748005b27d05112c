/- The walk of the law FrameAny. -/
import Derived.Test.YtenlgfeldkfmiaaFrameBackWalk
namespace Go.Proofs.Ytenlgfeldkfmiaa
open Go.ChangeShapes Go.WideShapes Go.ChangeAt Go.RowKit
set_option linter.unusedVariables false

theorem fdec_nil : fdec [] = (fnil, 0, 4) := by
  have h : decR [] = (0, 0, 4) := by
    rcases decR_cases [] with ⟨h, _⟩ | ⟨n, K, _, e1, e2, e3, e4, _⟩
    · exact h
    · simp at e3; omega
  unfold fdec yNum
  simp [h]

set_option maxRecDepth 100000 in
set_option maxHeartbeats 2000000 in
theorem frameAny_bad (A : Option Addr) (bs : List UInt8) (n c : Nat) (hn : bs.length = n) (hc : n ≤ c) (hm : c ≤ 9223372036854775807) (hN : n ≤ 140737488355328) (E : Int) (hE : fdec bs = (fnil, 0, E)) (h0 : E ≠ 0) (w : World) (h : RdB w A bs) :
    Calls Try.prog 7 #[.slice A n c] w fun e w' => e = .returned (.bool true) ∧ Below w.heap.size w w' := by
  have hDA := fun W hW => fDec_any A bs n c W hn hW hc hm hN
  rw [hE] at hDA
  have hDN := fun W => fDec_any none [] 0 0 W rfl Rd.nil (Nat.le_refl _) (by decide) (by decide)
  rw [fdec_nil] at hDN
  have HDA := Lib.hid hDA
  have HDN := Lib.hid hDN
  have HR := Lib.hid h
  have he0 : (E == 0) = false := by simp [h0]
  clear hDA hDN h hE hn
  go_enter Try.func7, Try.ntmps7
  go_wp2_with fail
  refine (HDA.out _ HR.out).mono ?_
  rintro e w1 ⟨A1, ca1, T1, d1, rfl, _, _, _, _, _, _, hb1⟩
  simp only [frcells]
  go_upto_region 2 with (fail)
  refine wp_world (fun w' => Below w.heap.size w w') (hb1.alloc hb1.size _) ?_
  clear hb1
  intro w2 hb2
  go_wp2_with fail
  refine (HDN.out _).mono ?_
  rintro e w3 ⟨A2, ca2, T2, d2, rfl, _, _, _, _, _, _, hb3⟩
  have hbz : ∀ o, Below w.heap.size w (w3.alloc o) := fun o => by
    have h2 := hb2.trans (hb3.mono hb2.size)
    exact h2.alloc h2.size _
  simp only [frcells]
  go_wp2_with fail
  go_ret
  exact ⟨by first | rfl | simp, hbz _⟩

set_option maxRecDepth 100000 in
set_option maxHeartbeats 4000000 in
theorem frameAny_good (A : Option Addr) (bs : List UInt8) (n c : Nat) (hn : bs.length = n) (hc : n ≤ c) (hm : c ≤ 9223372036854775807) (hN : n ≤ 140737488355328) (f : FrD) (u : Nat) (hE : fdec bs = (f, u, 0)) (w : World) (h : RdB w A bs) :
    Calls Try.prog 7 #[.slice A n c] w fun e w' => e = .returned (.bool true) ∧ Below w.heap.size w w' := by
  obtain ⟨ok, hu, hun⟩ := fdec_ok (bs := bs) (by rw [hE])
  rw [hE] at ok hu hun
  simp only at ok hu hun
  rw [hn] at hun
  obtain ⟨k, hk⟩ : ∃ k, (fenc f).length = k := ⟨_, rfl⟩
  rw [hk] at hu
  have hDA := fun W hW => fDec_any A bs n c W hn hW hc hm hN
  rw [hE] at hDA
  have hDB := fun A' c' W hW h1 h2 => fDec_any A' (fenc f ++ []) k c' W (by rw [List.append_nil, hk]) hW h1 h2 (by omega)
  rw [fdec_back f ok [], hk] at hDB
  simp only [List.append_nil] at hDB
  have hDN := fun W => fDec_any none [] 0 0 W rfl Rd.nil (Nat.le_refl _) (by decide) (by decide)
  rw [fdec_nil] at hDN
  have HDA := Lib.hid hDA
  have HDB := Lib.hid hDB
  have HDN := Lib.hid hDN
  have HR := Lib.hid h
  have HK := Lib.hid hk
  have OK := Lib.hid ok
  clear hDA hDB hDN h hE hn hk ok
  go_enter Try.func7, Try.ntmps7
  go_wp2_with fail
  refine (HDA.out _ HR.out).mono ?_
  rintro e w1 ⟨A1, ca, T, d, rfl, hA, hT, hca, hcam, hTd, hd, hb1⟩
  simp only [frcells]
  go_upto_region 2 with (fail)
  refine wp_world (fun w' => Blk w' w1.heap.size 40 #[.int .i64 f.kind, .int .i64 f.id, .int .i64 f.off, .bool f.fin, .int .i64 f.code, .slice A1 f.rngs.length ca, .slice T f.data.length d] ∧ RdX rcells 2 w' A1 f.rngs ∧ RdB w' T f.data ∧ Below w.heap.size w w') ⟨Blk.new _ _ _, Rd.alloc hA _, Rd.alloc hT _, hb1.alloc hb1.size _⟩ ?_
  clear hA hT hb1
  rintro w2 ⟨hG, hA, hT, hb⟩
  have HG := Lib.hid hG
  have HA := Lib.hid hA
  have HT := Lib.hid hT
  have HB := Lib.hid hb
  clear hG hA hT hb
  go_wp2_with fail
  refine (HDN.out _).mono ?_
  rintro e w3 ⟨A3, ca3, T3, d3, rfl, _, _, _, _, _, _, hb3⟩
  simp only [frcells]
  go_upto_region 3 with (fail)
  refine wp_world (fun w' => Blk w' w1.heap.size 40 #[.int .i64 f.kind, .int .i64 f.id, .int .i64 f.off, .bool f.fin, .int .i64 f.code, .slice A1 f.rngs.length ca, .slice T f.data.length d] ∧ RdX rcells 2 w' A1 f.rngs ∧ RdB w' T f.data ∧ Below w.heap.size w w') ⟨(HG.out.carry hb3).alloc _, Rd.alloc (RdX.below HA.out hb3) _, Rd.alloc (HT.out.below hb3) _, (HB.out.trans (hb3.mono HB.out.size)).alloc (HB.out.trans (hb3.mono HB.out.size)).size _⟩ ?_
  clear HG HA HT HB hb3
  rintro w4 ⟨hG, hA, hT, hb⟩
  have FG := Blk.factsD hG
  have HG := Lib.hid hG
  have HA := Lib.hid hA
  have HT := Lib.hid hT
  have HB := Lib.hid hb
  clear hG hA hT hb
  go_wp2_with fail
  refine (fEnc_any f OK.out A1 ca T d _ HA.out HT.out hca hcam).mono ?_
  rintro e w5 ⟨A5, k', c5, rfl, hk', hO5, hc5, hm5, hb5⟩
  obtain rfl : k = k' := by rw [← hk', HK.out]
  have HG5 := Lib.hid (HG.out.carry hb5)
  have HA5 := Lib.hid (RdX.below HA.out hb5)
  have HT5 := Lib.hid (HT.out.below hb5)
  have HB5 := Lib.hid (HB.out.trans (hb5.mono HB.out.size))
  have HR5 := Lib.hid hO5.rd
  clear HG HA HT HB hb5 hO5 hk' FG
  go_wp2_with fail
  refine (HDB.out A5 c5 _ HR5.out hc5 hm5).mono ?_
  rintro e w6 ⟨A6, ca6, T6, d6, rfl, hA6, hT6, hca6, hcam6, hTd6, hd6, hb6⟩
  simp only [frcells]
  go_upto_region 7 with (fail)
  refine wp_world (fun w' => Blk w' w1.heap.size 40 #[.int .i64 f.kind, .int .i64 f.id, .int .i64 f.off, .bool f.fin, .int .i64 f.code, .slice A1 f.rngs.length ca, .slice T f.data.length d] ∧ Blk w' w6.heap.size 40 #[.int .i64 f.kind, .int .i64 f.id, .int .i64 f.off, .bool f.fin, .int .i64 f.code, .slice A6 f.rngs.length ca6, .slice T6 f.data.length d6] ∧ RdX rcells 2 w' A1 f.rngs ∧ RdB w' T f.data ∧ RdX rcells 2 w' A6 f.rngs ∧ RdB w' T6 f.data ∧ Below w.heap.size w w')
    ⟨(HG5.out.carry hb6).alloc _, Blk.new _ _ _, Rd.alloc (RdX.below HA5.out hb6) _, Rd.alloc (HT5.out.below hb6) _, Rd.alloc hA6 _, Rd.alloc hT6 _, (HB5.out.trans (hb6.mono HB5.out.size)).alloc (HB5.out.trans (hb6.mono HB5.out.size)).size _⟩ ?_
  clear HG5 HA5 HT5 HB5 HR5 hb6 hA6 hT6
  rintro w9 ⟨hG, hG6, hA, hT, hA6, hT6, hb⟩
  have FG := Blk.factsD hG
  have HG := Lib.hid hG
  have HG6 := Lib.hid hG6
  have HA := Lib.hid hA
  have HT := Lib.hid hT
  have HA6 := Lib.hid hA6
  have HT6 := Lib.hid hT6
  have HB := Lib.hid hb
  clear hG hG6 hA hT hA6 hT6 hb
  go_wp2_with fail
  refine (fCheck_ok f OK.out A1 ca T d _ HA.out hca hcam).mono ?_
  rintro e wa ⟨rfl, hba⟩
  have hGa := HG.out.carry hba
  have hG6a := HG6.out.carry hba
  clear FG
  have FG := Blk.factsD hGa
  have FG6 := Blk.factsD hG6a
  have hke : ((k : Int) == (k : Int)) = true := by simp
  have hku := decide_eq_true (show (k : Int) ≤ (u : Int) by omega)
  have hunI := decide_eq_true (show (u : Int) ≤ (n : Int) by omega)
  have HSF := Lib.hid (sameFrame_any f f A1 ca T d A6 ca6 T6 d6 wa (by have := OK.out.many; omega) (RdX.below HA.out hba) (HT.out.below hba) (RdX.below HA6.out hba) (HT6.out.below hba))
  have HBA := Lib.hid (HB.out.trans (hba.mono HB.out.size))
  clear hGa hG6a hba HG HG6 HT HT6 HA HA6 HB
  rw [sameF_refl] at HSF
  go_wp2_with fail
  refine HSF.out.mono ?_
  rintro e wb ⟨rfl, hbb⟩
  go_wp2_with fail
  go_ret
  exact ⟨by first | rfl | simp, HBA.out.trans (hbb.mono HBA.out.size)⟩

theorem frameAny_walk (a : Option Addr) (len cap : Nat) (zs : List Int) (w : World) (h : IsRow .u8 w a len cap zs) (hcap : cap * 1 ≤ 140737488351232) :
    Calls Try.prog 7 #[.slice a len cap] w fun e w' => e = .returned (.bool true) ∧ Below w.heap.size w w' := by
  obtain ⟨bs, hl, hr, hc, hm⟩ := h.bytes
  unfold maxLen at hm
  by_cases he : (fdec bs).2.2 = 0
  · exact frameAny_good a bs len cap hl hc (by omega) (by omega) (fdec bs).1 (fdec bs).2.1 (by rw [← he]) w hr
  · obtain ⟨h1, h2⟩ := fdec_used he
    exact frameAny_bad a bs len cap hl hc (by omega) (by omega) (fdec bs).2.2 (by rw [← h1, ← h2]) he w hr
end Go.Proofs.Ytenlgfeldkfmiaa
