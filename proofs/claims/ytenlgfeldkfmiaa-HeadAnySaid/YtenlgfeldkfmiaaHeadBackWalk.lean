/- The walk of the law HeadBack. -/
import Derived.Test.YtenlgfeldkfmiaaHeadDec3Walk
import Derived.Test.YtenlgfeldkfmiaaHeadOfWalk
import Derived.Test.YtenlgfeldkfmiaaRawArg
namespace Go.Proofs.Ytenlgfeldkfmiaa
open Go.ChangeShapes Go.WideShapes Go.ChangeAt Go.RowKit
set_option linter.unusedVariables false

set_option maxHeartbeats 1000000 in
theorem sameHead_cells (k t f n m s c d : Nat) (A B : Option Addr) (tk : List UInt8) (hn : tk.length = n) (w : World) (hA : RdB w A tk) (hB : RdB w B tk) :
    Calls Try.prog 14 #[.agg #[.int .i64 k, .int .i64 t, .int .i64 f, .slice A n c, .int .i64 m, .int .i64 s], .agg #[.int .i64 k, .int .i64 t, .int .i64 f, .slice B n d, .int .i64 m, .int .i64 s]] w fun e w' => e = .returned (.bool true) ∧ Below w.heap.size w w' := by
  have s1 : ∀ o1 o2, (convert 24 9 (.slice A n c)).run Try.prog ((w.alloc o1).alloc o2) = .ok (.string (byt tk)) ((w.alloc o1).alloc o2) := fun o1 o2 => by
    subst hn; exact RdB.str (Rd.alloc (Rd.alloc hA o1) o2) 24 9 5 c Try.underlying24 Try.underlying5 Try.underlying9
  have s2 : ∀ o1 o2, (convert 24 9 (.slice B n d)).run Try.prog ((w.alloc o1).alloc o2) = .ok (.string (byt tk)) ((w.alloc o1).alloc o2) := fun o1 o2 => by
    subst hn; exact RdB.str (Rd.alloc (Rd.alloc hB o1) o2) 24 9 5 d Try.underlying24 Try.underlying5 Try.underlying9
  have hbz : ∀ o1 o2, Below w.heap.size w ((w.alloc o1).alloc o2) := fun o1 o2 => ((Below.refl _ _).alloc (Nat.le_refl _) _).alloc (by simp) _
  have HBZ := Lib.hid hbz
  generalize byt tk = st at *
  clear hA hB hn hbz
  go_enter Try.func14, Try.ntmps14
  go_wp2_with fail
  go_ret
  exact ⟨by first | rfl | simp, HBZ.out _ _⟩
theorem sameHead_eq (H : HeadD) (A B : Option Addr) (c d : Nat) (w : World) (hA : RdB w A H.tok) (hB : RdB w B H.tok) :
    Calls Try.prog 14 #[.agg (hcells H A c), .agg (hcells H B d)] w fun e w' => e = .returned (.bool true) ∧ Below w.heap.size w w' :=
  sameHead_cells H.kind H.to H.from_ _ H.number H.size c d A B H.tok rfl w hA hB
theorem hfront_pos (h : HeadD) : 1 ≤ (hfront h).length := by
  unfold hfront; split <;> simp
theorem henc_pos (h : HeadD) : 1 ≤ (henc h).length := by
  have := hfront_pos h; rw [henc_length]; omega
theorem henc_len (h : HeadD) (ok : HeadOk h) : (henc h).length ≤ 140 := by
  obtain ⟨h1, h2, h3, h4, h5, h6, h7, h8⟩ := ok
  have hs : h.size ≤ 4 := by
    by_cases hk : h.kind = 1
    · have := h5 hk; omega
    · exact (h6 hk).2
  have he := (encB_pos h.tok.length (by omega)).2
  rw [henc_length]
  unfold hfront
  split
  · simp; omega
  · simp only [List.length_append, List.length_cons, List.length_nil]; omega

set_option maxRecDepth 100000 in
set_option maxHeartbeats 2000000 in
theorem headBack_walk (r : RawD) (a : Option Addr) (len cap : Nat) (zs : List Int) (at_ : Int) (w : World) (hr : RawOk r) (h : IsRow .u8 w a len cap zs) (hcap : cap * 1 ≤ 140737488351232) (hat : (Lit.int .i64 at_).wf = true) :
    Calls Try.prog 3 #[rawV r, .slice a len cap, .int .i64 at_] w fun e w' => e = .returned (.bool true) ∧ Below w.heap.size w w' := by
  obtain ⟨more, hml, hmr, hc, hm⟩ := h.bytes
  have rat := i64_bounds' hat
  clear h hat
  unfold rawV
  have HML := Lib.hid hml
  have HMR := Lib.hid hmr
  clear hml hmr
  go_enter Try.func3, Try.ntmps3
  go_wp2_with fail
  refine (headOf_any r hr _).mono ?_
  rintro e w1 ⟨H, T, d, ok, rfl, hT, hTd, hd, hb1⟩
  have hmr1 := ((HMR.out.below ((Below.refl _ _).alloc (Nat.le_refl _) _)).below hb1)
  have hb01 : Below w.heap.size w w1 := ((Below.refl _ _).alloc (Nat.le_refl _) _).trans (hb1.mono (by simp))
  have OK := Lib.hid ok
  clear ok hr
  obtain ⟨HA, hHA⟩ : ∃ HA, hcells H T d = HA := ⟨_, rfl⟩
  have HHA := Lib.hid hHA
  rw [hHA]
  unfold hcells at hHA
  subst hHA
  go_upto_region 2 with (fail)
  refine wp_world (fun w' => Blk w' w1.heap.size 26 #[.int .i64 H.kind, .int .i64 H.to, .int .i64 H.from_, .slice T H.tok.length d, .int .i64 H.number, .int .i64 H.size] ∧ RdB w' T H.tok ∧ RdB w' a more ∧ Below w.heap.size w w') ⟨Blk.new _ _ _, hT.below ((Below.refl _ _).alloc (Nat.le_refl _) _), hmr1.below ((Below.refl _ _).alloc (Nat.le_refl _) _), hb01.alloc hb01.size _⟩ ?_
  clear hT hmr1 hb01 hb1 HMR
  rintro w2 ⟨hG, hT, hmr, hb⟩
  have FG := hG.facts6
  have HG := Lib.hid hG
  have HT := Lib.hid hT
  have HMR := Lib.hid hmr
  have HB := Lib.hid hb
  clear hG hT hmr hb
  go_wp2_with fail
  refine (hEnc_any H OK.out T d _ HT.out).mono ?_
  rintro e w3 ⟨A3, k, c3, rfl, hk, hO3, hc3, hm3, hb3⟩
  have hk1 : 1 ≤ k := by rw [← hk]; exact henc_pos H
  have hk140 : k ≤ 140 := by rw [← hk]; exact henc_len H OK.out
  have hgb : Below w3.heap.size w3 (w3.alloc (.cells #[] 5)) := (Below.refl _ _).alloc (Nat.le_refl _) _
  have hcapm : cap ≤ 9223372036854775807 := by unfold maxLen at hm; omega
  have HK := Lib.hid hk
  have HR3 := Lib.hid hO3.rd
  have HM3 := Lib.hid (HMR.out.below hb3)
  have HG3 := Lib.hid (HG.out.carry hb3)
  have HT3 := Lib.hid (HT.out.below hb3)
  have HB3 := Lib.hid (HB.out.trans (hb3.mono HB.out.size))
  clear hk hO3 HG HT HMR HB hb3 FG
  go_wp2_with (first
    | (at_builtin; refine wpList_appB _ rfl (.tmp 24) (.tmp 25) _ rfl w3.heap.size 5 Try.underlying24 u8_info (some ⟨w3.heap.size, 0, none⟩) 0 0 [] rfl rfl (OwnB.made w3 _ _ (Nat.le_refl _)) A3 k c3 (henc H) rfl HK.out (HR3.out.below hgb) (henc H) rfl k (by omega) (by omega) (by simp) ?_; intro A4 c4 w4 hO4 hc4 hm4 hb4; have hz4 : w3.heap.size ≤ w4.heap.size := by have := hb4.size; simp at this; omega)
    | (at_builtin; refine wpList_appB _ rfl (.tmp 26) (.tmp 27) _ rfl w3.heap.size 5 Try.underlying24 u8_info A4 k c4 (henc H) rfl HK.out hO4 a len cap more rfl HML.out (HM3.out.below (hgb.trans hb4)) (henc H ++ more) rfl (k + len) rfl (by omega) hz4 ?_; intro A5 c5 w5 hO5 hc5 hm5 hb5))
  have hb35 := hgb.trans (hb4.trans hb5)
  have hDB := hdec_back H OK.out more
  have hDA := hDec_any A5 (henc H ++ more) (k + len) c5 w5 (by rw [List.length_append, HK.out, HML.out]) hO5.rd hc5 hm5
  rw [hDB, HK.out] at hDA
  refine hDA.mono ?_
  rintro e w6 ⟨T6, d6, rfl, hT6, hTd6, hd6, hb6⟩
  have hb36 := hb35.trans (hb6.mono hb35.size)
  have hG6 := HG3.out.carry hb36
  have hT36 := HT3.out.below hb36
  have hR36 := HR3.out.below hb36
  have hbz := HB3.out.trans (hb36.mono HB3.out.size)
  clear hDB hDA hO4 hc4 hm4 hb4 hz4 hO5 hc5 hm5 hb5 hb35 hb6 hb36 hgb HG3 HT3 HR3 HB3 HM3
  simp only [hcells]
  go_upto_region 4 with (fail)
  refine wp_world (fun w' => Blk w' w1.heap.size 26 #[.int .i64 H.kind, .int .i64 H.to, .int .i64 H.from_, .slice T H.tok.length d, .int .i64 H.number, .int .i64 H.size] ∧ Blk w' w6.heap.size 26 #[.int .i64 H.kind, .int .i64 H.to, .int .i64 H.from_, .slice T6 H.tok.length d6, .int .i64 H.number, .int .i64 H.size] ∧ RdB w' T H.tok ∧ RdB w' T6 H.tok ∧ RdB w' A3 (henc H) ∧ Below w.heap.size w w')
    ⟨hG6.alloc _, Blk.new _ _ _, Rd.alloc hT36 _, Rd.alloc hT6 _, Rd.alloc hR36 _, hbz.alloc hbz.size _⟩ ?_
  clear hG6 hT36 hR36 hbz hT6
  rintro w7 ⟨hG, hG6, hT, hT6, hR, hb⟩
  have HG := Lib.hid hG
  have HG6 := Lib.hid hG6
  have HT := Lib.hid hT
  have HT6 := Lib.hid hT6
  have HR := Lib.hid hR
  have HB := Lib.hid hb
  clear hG hG6 hT hT6 hR hb
  have hmx : (if (1 : Int) < (k : Int) then (k : Int) else 1) = (k : Int) := by split <;> omega
  have hmx2 : (if (k : Int) < 1 then (1 : Int) else (k : Int)) = (k : Int) := by split <;> omega
  obtain ⟨j, HJ, j0, j1⟩ := mod_ex at_ (k : Int) (by omega)
  obtain ⟨j, rfl⟩ := Int.eq_ofNat_of_zero_le j0
  go_wp2_with fail
  refine (picked_at at_ (k : Int) (j : Int) rat.1 rat.2 (by omega) (by omega) HJ _).mono ?_
  rintro e w' ⟨rfl, rfl⟩
  have hjk : j < k := by omega
  have hjl : ((henc H).take j).length = j := by rw [List.length_take, HK.out]; omega
  have hjc : (j : Int) ≤ (c3 : Int) := by omega
  have hj0 : (0 : Int) ≤ (j : Int) := by omega
  have hDA2 := hDec_any A3 ((henc H).take j) j c3 w7 hjl (HR.out.front (by rw [HK.out]; omega)) (by omega) hm3
  rw [hdec_cut H OK.out j (by rw [HK.out]; exact hjk)] at hDA2
  have HDA2 := Lib.hid hDA2
  clear hDA2 hjl
  go_wp2_with fail
  refine HDA2.out.mono ?_
  rintro e w8 ⟨T8, d8, rfl, hT8, hTd8, hd8, hb8⟩
  clear HDA2 hT8 hTd8
  have hb79 : ∀ o, Below w7.heap.size w7 (w8.alloc o) := fun o => hb8.alloc hb8.size _
  have HG9 := fun o => HG.out.carry (hb79 o)
  have HG69 := fun o => HG6.out.carry (hb79 o)
  have HT9 := fun o => HT.out.below (hb79 o)
  have HT69 := fun o => HT6.out.below (hb79 o)
  have HB9 := fun o => HB.out.trans ((hb79 o).mono HB.out.size)
  simp only [hcells]
  go_upto_region 5 with (fail)
  refine wp_world (fun w' => Blk w' w1.heap.size 26 #[.int .i64 H.kind, .int .i64 H.to, .int .i64 H.from_, .slice T H.tok.length d, .int .i64 H.number, .int .i64 H.size] ∧ Blk w' w6.heap.size 26 #[.int .i64 H.kind, .int .i64 H.to, .int .i64 H.from_, .slice T6 H.tok.length d6, .int .i64 H.number, .int .i64 H.size] ∧ RdB w' T H.tok ∧ RdB w' T6 H.tok ∧ Below w.heap.size w w')
    ⟨HG9 _, HG69 _, HT9 _, HT69 _, HB9 _⟩ ?_
  clear HG9 HG69 HT9 HT69 HB9 hb79 hb8 HG HG6 HT HT6 HB HR
  rintro w9 ⟨hG, hG6, hT, hT6, hb⟩
  have FG := hG.facts6
  have HG := Lib.hid hG
  have HG6 := Lib.hid hG6
  have HT := Lib.hid hT
  have HT6 := Lib.hid hT6
  have HB := Lib.hid hb
  clear hG hG6 hT hT6 hb
  go_wp2_with fail
  refine (hCheck_ok H OK.out T d _).mono ?_
  rintro e wa ⟨rfl, hba⟩
  have hGa := HG.out.carry hba
  have hG6a := HG6.out.carry hba
  have hTa := HT.out.below hba
  have hT6a := HT6.out.below hba
  clear FG
  have FG := hGa.facts6
  have FG6 := hG6a.facts6
  have hke : ((k : Int) == (k : Int)) = true := by simp
  have HTA := Lib.hid hTa
  have HT6A := Lib.hid hT6a
  have HBA := Lib.hid (HB.out.trans (hba.mono HB.out.size))
  clear hGa hG6a hTa hT6a hba HG HG6 HT HT6 HB
  go_wp2_with fail
  refine (sameHead_eq H T T6 d d6 _ HTA.out HT6A.out).mono ?_
  rintro e wb ⟨rfl, hbb⟩
  go_wp2_with fail
  go_ret
  exact ⟨by first | rfl | simp, HBA.out.trans (hbb.mono HBA.out.size)⟩
end Go.Proofs.Ytenlgfeldkfmiaa
