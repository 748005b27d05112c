/- The walk of the law FrameBack. -/
import Derived.Test.YtenlgfeldkfmiaaFrameDecWalk
import Derived.Test.YtenlgfeldkfmiaaFrameOfWalk
namespace Go.Proofs.Ytenlgfeldkfmiaa
open Go.ChangeShapes Go.WideShapes Go.ChangeAt Go.RowKit
set_option linter.unusedVariables false

theorem encB_le (n : Nat) : (encB n).length ≤ 8 := by
  rw [encB_length]; unfold sizeI; split <;> (try split) <;> (try split) <;> (try split) <;> decide
theorem encRs_len (p : Int) (l : List Rng) : (encRs p l).length ≤ 16 * l.length := by
  induction l generalizing p with
  | nil => simp [encRs]
  | cons x l ih =>
    have h1 := encB_le (p - x.2 - 2).toNat
    have h2 := encB_le (x.2 - x.1).toNat
    have h3 := ih x.1
    simp only [encRs, List.length_append, List.length_cons]; omega
theorem encRng_len (l : List Rng) : (encRng l).length ≤ 24 + 16 * l.length := by
  cases l with
  | nil => simp [encRng]
  | cons x l =>
    have h1 := encB_le x.2.toNat
    have h2 := encB_le l.length
    have h3 := encB_le (x.2 - x.1).toNat
    have h4 := encRs_len x.1 l
    simp only [encRng, List.length_append, List.length_cons]; omega
theorem fenc_pos (f : FrD) (ok : FrOk f) : 1 ≤ (fenc f).length := by
  unfold fenc; have := (encB_le8 (fkind f) (by have := (fkind_cases f ok).1; omega)).2; simp only [List.length_append]; omega
theorem fenc_len (f : FrD) (ok : FrOk f) : (fenc f).length ≤ 300 := by
  have h1 := encB_le (fkind f)
  have h2 := encRng_len f.rngs
  have h3 : (encIf (pId f.kind) f.id).length ≤ 8 := by unfold encIf; split; exact encB_le _; simp
  have h4 : (encIf (pOff f.kind) f.off).length ≤ 8 := by unfold encIf; split; exact encB_le _; simp
  have h5 : (encC (pWord f.kind) (pCode f.kind) f.code).length ≤ 8 := by
    unfold encC encIf; split
    · rw [beB_length]; exact Nat.le_refl _
    · split; exact encB_le _; simp
  have h6 : (encD (pData f.kind) f.data).length ≤ 8 + f.data.length := by
    unfold encD; split
    · have := encB_le f.data.length; rw [List.length_append]; omega
    · simp
  have := ok.many
  have := ok.len
  unfold fenc
  simp only [List.length_append]; omega
theorem sameF_refl (f : FrD) : sameF f f = true := (sameF_iff f f).2 rfl

set_option maxRecDepth 100000 in
set_option maxHeartbeats 4000000 in
theorem frameBack_walk (r : RawD) (a : Option Addr) (len cap : Nat) (zs : List Int) (at_ : Int) (w : World) (hr : RawOk r) (h : IsRow .u8 w a len cap zs) (hcap : cap * 1 ≤ 140737488351232) (hat : (Lit.int .i64 at_).wf = true) :
    Calls Try.prog 6 #[rawV r, .slice a len cap, .int .i64 at_] w fun e w' => e = .returned (.bool true) ∧ Below w.heap.size w w' := by
  obtain ⟨more, hml, hmr, hc, hm⟩ := h.bytes
  have rat := i64_bounds' hat
  clear h hat
  obtain ⟨f, okf, cf⟩ := frameOf_any r hr
  have CF := Lib.hid cf
  have OK := Lib.hid okf
  clear cf okf
  unfold rawV at CF ⊢
  have HML := Lib.hid hml
  have HMR := Lib.hid hmr
  clear hml hmr
  go_enter Try.func6, Try.ntmps6
  go_wp2_with fail
  refine (CF.out _).mono ?_
  rintro e w1 ⟨A, ca, T, d, rfl, hA, hT, hca, hcam, hTd, hd, hb1, _, _⟩
  have hmr1 := ((HMR.out.below ((Below.refl _ _).alloc (Nat.le_refl _) _)).below hb1)
  have hb01 : Below w.heap.size w w1 := ((Below.refl _ _).alloc (Nat.le_refl _) _).trans (hb1.mono (by simp))
  clear hr
  unfold frcells
  go_upto_region 2 with (fail)
  refine wp_world (fun w' => Blk w' w1.heap.size 40 #[.int .i64 f.kind, .int .i64 f.id, .int .i64 f.off, .bool f.fin, .int .i64 f.code, .slice A f.rngs.length ca, .slice T f.data.length d] ∧ RdX rcells 2 w' A f.rngs ∧ RdB w' T f.data ∧ RdB w' a more ∧ Below w.heap.size w w') ⟨Blk.new _ _ _, RdX.below hA ((Below.refl _ _).alloc (Nat.le_refl _) _), hT.below ((Below.refl _ _).alloc (Nat.le_refl _) _), hmr1.below ((Below.refl _ _).alloc (Nat.le_refl _) _), hb01.alloc hb01.size _⟩ ?_
  clear hA hT hmr1 hb01 hb1 HMR
  rintro w2 ⟨hG, hA, hT, hmr, hb⟩
  have FG := Blk.factsD hG
  have HG := Lib.hid hG
  have HA := Lib.hid hA
  have HT := Lib.hid hT
  have HMR := Lib.hid hmr
  have HB := Lib.hid hb
  clear hG hA hT hmr hb
  go_wp2_with fail
  refine (fEnc_any f OK.out A ca T d _ HA.out HT.out hca hcam).mono ?_
  rintro e w3 ⟨A3, k, c3, rfl, hk, hO3, hc3, hm3, hb3⟩
  have hk1 : 1 ≤ k := by rw [← hk]; exact fenc_pos f OK.out
  have hk140 : k ≤ 300 := by rw [← hk]; exact fenc_len f OK.out
  have hgb : Below w3.heap.size w3 (w3.alloc (.cells #[] 5)) := (Below.refl _ _).alloc (Nat.le_refl _) _
  have hcapm : cap ≤ 9223372036854775807 := by unfold maxLen at hm; omega
  have HK := Lib.hid hk
  have HR3 := Lib.hid hO3.rd
  have HM3 := Lib.hid (HMR.out.below hb3)
  have HG3 := Lib.hid (HG.out.carry hb3)
  have HA3 := Lib.hid (RdX.below HA.out hb3)
  have HT3 := Lib.hid (HT.out.below hb3)
  have HB3 := Lib.hid (HB.out.trans (hb3.mono HB.out.size))
  clear hk hO3 HG HA HT HMR HB hb3 FG
  go_wp2_with (first
    | (at_builtin; refine wpList_appB _ rfl (.tmp 24) (.tmp 25) _ rfl w3.heap.size 5 Try.underlying24 u8_info (some ⟨w3.heap.size, 0, none⟩) 0 0 [] rfl rfl (OwnB.made w3 _ _ (Nat.le_refl _)) A3 k c3 (fenc f) rfl HK.out (HR3.out.below hgb) (fenc f) rfl k (by omega) (by omega) (by simp) ?_; intro A4 c4 w4 hO4 hc4 hm4 hb4; have hz4 : w3.heap.size ≤ w4.heap.size := by have := hb4.size; simp at this; omega)
    | (at_builtin; refine wpList_appB _ rfl (.tmp 26) (.tmp 27) _ rfl w3.heap.size 5 Try.underlying24 u8_info A4 k c4 (fenc f) rfl HK.out hO4 a len cap more rfl HML.out (HM3.out.below (hgb.trans hb4)) (fenc f ++ more) rfl (k + len) rfl (by omega) hz4 ?_; intro A5 c5 w5 hO5 hc5 hm5 hb5))
  have hb35 := hgb.trans (hb4.trans hb5)
  have hDB := fdec_back f OK.out more
  have hDA := fDec_any A5 (fenc f ++ more) (k + len) c5 w5 (by rw [List.length_append, HK.out, HML.out]) hO5.rd hc5 hm5 (by omega)
  rw [hDB, HK.out] at hDA
  refine hDA.mono ?_
  rintro e w6 ⟨A6, ca6, T6, d6, rfl, hA6, hT6, hca6, hcam6, hTd6, hd6, hb6⟩
  have hb36 := hb35.trans (hb6.mono hb35.size)
  have hG6 := HG3.out.carry hb36
  have hA36 := RdX.below HA3.out hb36
  have hT36 := HT3.out.below hb36
  have hR36 := HR3.out.below hb36
  have hbz := HB3.out.trans (hb36.mono HB3.out.size)
  clear hDB hDA hO4 hc4 hm4 hb4 hz4 hO5 hc5 hm5 hb5 hb35 hb6 hb36 hgb HG3 HA3 HT3 HR3 HB3 HM3
  simp only [frcells]
  go_upto_region 4 with (fail)
  refine wp_world (fun w' => Blk w' w1.heap.size 40 #[.int .i64 f.kind, .int .i64 f.id, .int .i64 f.off, .bool f.fin, .int .i64 f.code, .slice A f.rngs.length ca, .slice T f.data.length d] ∧ Blk w' w6.heap.size 40 #[.int .i64 f.kind, .int .i64 f.id, .int .i64 f.off, .bool f.fin, .int .i64 f.code, .slice A6 f.rngs.length ca6, .slice T6 f.data.length d6] ∧ RdX rcells 2 w' A f.rngs ∧ RdB w' T f.data ∧ RdX rcells 2 w' A6 f.rngs ∧ RdB w' T6 f.data ∧ RdB w' A3 (fenc f) ∧ Below w.heap.size w w')
    ⟨hG6.alloc _, Blk.new _ _ _, Rd.alloc hA36 _, Rd.alloc hT36 _, Rd.alloc hA6 _, Rd.alloc hT6 _, Rd.alloc hR36 _, hbz.alloc hbz.size _⟩ ?_
  clear hG6 hA36 hT36 hR36 hbz hA6 hT6
  rintro w7 ⟨hG, hG6, hA, hT, hA6, hT6, hR, hb⟩
  have HG := Lib.hid hG
  have HG6 := Lib.hid hG6
  have HA := Lib.hid hA
  have HT := Lib.hid hT
  have HA6 := Lib.hid hA6
  have HT6 := Lib.hid hT6
  have HR := Lib.hid hR
  have HB := Lib.hid hb
  clear hG hG6 hA hT hA6 hT6 hR hb
  have hmx : (if (1 : Int) < (k : Int) then (k : Int) else 1) = (k : Int) := by split <;> omega
  have hmx2 : (if (k : Int) < 1 then (1 : Int) else (k : Int)) = (k : Int) := by split <;> omega
  obtain ⟨j, HJ, j0, j1⟩ := mod_ex at_ (k : Int) (by omega)
  obtain ⟨j, rfl⟩ := Int.eq_ofNat_of_zero_le j0
  go_wp2_with fail
  refine (picked_at at_ (k : Int) (j : Int) rat.1 rat.2 (by omega) (by omega) HJ _).mono ?_
  rintro e w' ⟨rfl, rfl⟩
  have hjk : j < k := by omega
  have hjl : ((fenc f).take j).length = j := by rw [List.length_take, HK.out]; omega
  have hjc : (j : Int) ≤ (c3 : Int) := by omega
  have hj0 : (0 : Int) ≤ (j : Int) := by omega
  have hDA2 := fDec_any A3 ((fenc f).take j) j c3 w7 hjl (HR.out.front (by rw [HK.out]; omega)) (by omega) hm3 (by omega)
  rw [fdec_cut f OK.out j (by rw [HK.out]; exact hjk)] at hDA2
  have HDA2 := Lib.hid hDA2
  clear hDA2 hjl
  go_wp2_with fail
  refine HDA2.out.mono ?_
  rintro e w8 ⟨A8, ca8, T8, d8, rfl, hA8, hT8, hca8, hcam8, hTd8, hd8, hb8⟩
  clear HDA2 hT8 hTd8 hA8 hca8
  have hb79 : ∀ o, Below w7.heap.size w7 (w8.alloc o) := fun o => hb8.alloc hb8.size _
  have HG9 := fun o => HG.out.carry (hb79 o)
  have HG69 := fun o => HG6.out.carry (hb79 o)
  have HA9 := fun o => RdX.below HA.out (hb79 o)
  have HT9 := fun o => HT.out.below (hb79 o)
  have HA69 := fun o => RdX.below HA6.out (hb79 o)
  have HT69 := fun o => HT6.out.below (hb79 o)
  have HB9 := fun o => HB.out.trans ((hb79 o).mono HB.out.size)
  simp only [frcells]
  go_upto_region 5 with (fail)
  refine wp_world (fun w' => Blk w' w1.heap.size 40 #[.int .i64 f.kind, .int .i64 f.id, .int .i64 f.off, .bool f.fin, .int .i64 f.code, .slice A f.rngs.length ca, .slice T f.data.length d] ∧ Blk w' w6.heap.size 40 #[.int .i64 f.kind, .int .i64 f.id, .int .i64 f.off, .bool f.fin, .int .i64 f.code, .slice A6 f.rngs.length ca6, .slice T6 f.data.length d6] ∧ RdX rcells 2 w' A f.rngs ∧ RdB w' T f.data ∧ RdX rcells 2 w' A6 f.rngs ∧ RdB w' T6 f.data ∧ Below w.heap.size w w')
    ⟨HG9 _, HG69 _, HA9 _, HT9 _, HA69 _, HT69 _, HB9 _⟩ ?_
  clear HG9 HG69 HA9 HT9 HA69 HT69 HB9 hb79 hb8 HG HG6 HA HT HA6 HT6 HB HR
  rintro w9 ⟨hG, hG6, hA, hT, hA6, hT6, hb⟩
  have FG := Blk.factsD hG
  have HG := Lib.hid hG
  have HG6 := Lib.hid hG6
  have HA := Lib.hid hA
  have HT := Lib.hid hT
  have HA6 := Lib.hid hA6
  have HT6 := Lib.hid hT6
  have HB := Lib.hid hb
  clear hG hG6 hA hT hA6 hT6 hb
  go_wp2_with fail
  refine (fCheck_ok f OK.out A ca T d _ HA.out hca hcam).mono ?_
  rintro e wa ⟨rfl, hba⟩
  have hGa := HG.out.carry hba
  have hG6a := HG6.out.carry hba
  clear FG
  have FG := Blk.factsD hGa
  have FG6 := Blk.factsD hG6a
  have hke : ((k : Int) == (k : Int)) = true := by simp
  have HSF := Lib.hid (sameFrame_any f f A ca T d A6 ca6 T6 d6 wa (by have := OK.out.many; omega) (RdX.below HA.out hba) (HT.out.below hba) (RdX.below HA6.out hba) (HT6.out.below hba))
  have HBA := Lib.hid (HB.out.trans (hba.mono HB.out.size))
  clear hGa hG6a hba HG HG6 HT HT6 HA HA6 HB
  rw [sameF_refl] at HSF
  go_wp2_with fail
  refine HSF.out.mono ?_
  rintro e wb ⟨rfl, hbb⟩
  go_wp2_with fail
  go_ret
  exact ⟨by first | rfl | simp, HBA.out.trans (hbb.mono HBA.out.size)⟩
end Go.Proofs.Ytenlgfeldkfmiaa
