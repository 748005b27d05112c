/- The walk of the law FrameList. -/
import Derived.Test.YtenlgfeldkfmiaaFrameListA
import Derived.Test.YtenlgfeldkfmiaaSomeWalk
namespace Go.Proofs.Ytenlgfeldkfmiaa
open Go.ChangeShapes Go.WideShapes Go.ChangeAt Go.RowKit
set_option linter.unusedVariables false

/-- Behind i rounds: the frames, and their bytes. -/
def LMid (w wr : World) (i : Nat) (Ao : Option Addr) (co : Nat) (Bo : Option Addr) (nb cb : Nat) (xs : List FrM) : Prop :=
  FrRow wr w.heap.size Ao co xs ∧ OwnB wr w.heap.size 5 Bo cb ((xs.map (·.f)).flatMap fenc) ∧ ((xs.map (·.f)).flatMap fenc).length = nb ∧ nb ≤ 300 * i ∧ (∀ x ∈ xs, FrOk x.f ∧ InOff wr (Bo.map (·.block)) x.A ∧ InOff wr (Bo.map (·.block)) x.B) ∧ xs.length = i ∧ Below w.heap.size w wr
theorem LMid.below {w wr w' : World} {i : Nat} {Ao : Option Addr} {co : Nat} {Bo : Option Addr} {nb cb : Nat} {xs : List FrM} (h : LMid w wr i Ao co Bo nb cb xs) (hb : Below wr.heap.size wr w') : LMid w w' i Ao co Bo nb cb xs := by
  obtain ⟨h1, h2, h3, h4, h5, h6, h7⟩ := h
  exact ⟨h1.below hb, own_carry h2 hb, h3, h4, fun x hx => ⟨(h5 x hx).1, (h5 x hx).2.1.keep hb.size, (h5 x hx).2.2.keep hb.size⟩, h6, h7.trans (hb.mono h7.size)⟩

set_option maxRecDepth 100000 in
set_option maxHeartbeats 4000000 in
theorem frameList_walk (A : Option Addr) (len cap : Nat) (rs : List RawD) (w : World) (h : IsRaws w A len cap rs) :
    Calls Try.prog 8 #[.slice A len cap] w fun e w' => e = .returned (.bool true) ∧ Below w.heap.size w w' := by
  have hlc := h.2.2.1
  have hcm := h.2.2.2.1
  unfold maxLen at hcm
  obtain ⟨k, hk⟩ : ∃ k : Nat, min (len : Int) 14 = k := ⟨(min (len : Int) 14).toNat, by omega⟩
  have hk14 : k ≤ 14 := by omega
  have hkl : k ≤ len := by omega
  have HK := Lib.hid (some_any A len cap k 14 hlc hcm (by decide) (by decide) hk)
  have HRS := Lib.hid (h.front k hkl)
  clear h hk
  go_enter Try.func8, Try.ntmps8
  go_wp2_with fail
  refine (HK.out _).mono ?_
  rintro e w' ⟨rfl, rfl⟩
  generalize rs.take k = rs' at *
  clear HK
  go_wp2_with fail
  go_loopw [3, 4, 17] (fun s3 s4 iv wr => ∃ (i : Nat) (Ao : Option Addr) (co : Nat) (Bo : Option Addr) (nb cb : Nat) (xs : List FrM), i ≤ k ∧ iv = .int .i64 (i : Int) ∧ s3 = .slice Ao i co ∧ s4 = .slice Bo nb cb ∧ LMid w wr i Ao co Bo nb cb xs) (fun _ _ iv _ => k - (intOf iv).toNat)
  case atStart => exact ⟨0, none, 0, none, 0, 0, [], Nat.zero_le _, rfl, rfl, rfl, FrRow.nil _ _, OwnB.nil _ _ _, rfl, Nat.le_refl _, fun x hx => absurd hx List.not_mem_nil, rfl, Below.refl _ _⟩
  case round =>
    obtain ⟨i, Ao, co, Bo, nb, cb, xs, hi, rfl, rfl, rfl, hM⟩ := hrel
    have HM := Lib.hid hM
    have hbw := hM.2.2.2.2.2.2
    have hnb := hM.2.2.2.1
    clear hM
    by_cases hlt : i < k
    · obtain ⟨b, off, rfl, hcell⟩ := (HRS.out.keep hbw).at_ (by omega)
      obtain ⟨c0, c1, c2, c3⟩ := hcell i hlt
      have hro := HRS.out.2.2.2.2 i hlt
      generalize rs'.getD i rawNone = r at *
      obtain ⟨f, okf, cf⟩ := frameOf_any r hro
      have CF := Lib.hid cf
      have OK := Lib.hid okf
      unfold rawV at CF
      have hi0 : (0 : Int) ≤ (i : Int) := by omega
      have hik : (i : Int) < (k : Int) := by omega
      clear cf okf hro hcell hbw
      go_upto_region 7 with (fail)
      refine wp_world (fun w' => Blk w' wr.heap.size 23 #[.int .i64 r.kind, .int .i64 r.a, .int .i64 r.b, .string r.text] ∧ LMid w w' i Ao co Bo nb cb xs) ⟨Blk.new _ _ _, HM.out.below ((Below.refl _ _).alloc (Nat.le_refl _) _)⟩ ?_
      generalize wr.heap.size = g1 at *
      clear c0 c1 c2 c3 HM
      rintro w1 ⟨hR, hM⟩
      have FR := hR.facts4
      have HR := Lib.hid hR
      have HM := Lib.hid hM
      clear hR hM
      go_wp2_with fail
      refine (CF.out _).mono ?_
      rintro e w2 ⟨A2, c2, B2, d2, rfl, hA2, hB2, hc2, hcm2, hd2, hdm2, hb2, _, _⟩
      have hR2 := HR.out.carry hb2
      have hM2 := HM.out.below hb2
      have hlt2 := fun q hq => (hM2.1.1.lt (n := i) q (by rw [blk_of]; exact hq)).2
      have HR2 := Lib.hid hR2
      have HM2 := Lib.hid hM2
      have HLT := Lib.hid hlt2
      have HEC := Lib.hid (fEnc_any f OK.out A2 c2 B2 d2 w2 hA2 hB2 hc2 hcm2)
      clear hR2 hM2 hlt2 hA2 hB2 hb2 HR HM FR
      simp only [frcells] at HEC ⊢
      go_wp2_with fail
      refine HEC.out.mono ?_
      rintro e w3 ⟨A3, k3, c3, rfl, hk3, hO3, hc3, hm3, hb3⟩
      have hk31 : 1 ≤ k3 := by rw [← hk3]; exact fenc_pos f OK.out
      have hk33 : k3 ≤ 300 := by rw [← hk3]; exact fenc_len f OK.out
      have HI3 := Lib.hid (InOff.fresh (OwnB.in_ (w' := w3) hO3 (Nat.le_refl _) (Nat.le_refl _)) HLT.out)
      have HK3 := Lib.hid hk3
      have HE3 := Lib.hid hO3.rd
      have HR3 := Lib.hid (HR2.out.carry hb3)
      have HM3 := Lib.hid (HM2.out.below hb3)
      have FR := HR3.out.facts4
      clear hk3 hO3 hb3 HR2 HM2 HLT HEC
      go_wp2_with fail
      refine (CF.out _).mono ?_
      rintro e w4 ⟨A4, c4, B4, d4, rfl, hA4, hB4, hc4, hcm4, hd4, hdm4, hb4, hiA, hiB⟩
      have hM4 := HM3.out.below hb4
      have hltA := fun q hq => (HM3.out.1.1.lt (n := i) q (by rw [blk_of]; exact hq)).2
      have hltB := fun q hq => (own_block_lt HM3.out.2.1 q (by rw [blk_of]; exact hq)).2
      have HX := Lib.hid (show FrX w4 ⟨f, A4, c4, B4, d4⟩ from ⟨hA4, hB4, hc4, hcm4, hd4, hdm4⟩)
      have HIA := Lib.hid (InOff.fresh hiA hltA)
      have HIB := Lib.hid (InOff.fresh hiB hltA)
      have HJA := Lib.hid (InOff.fresh hiA hltB)
      have HJB := Lib.hid (InOff.fresh hiB hltB)
      have HE4 := Lib.hid (HE3.out.below hb4)
      have HI4 := Lib.hid (HI3.out.keep hb4.size)
      have HM4 := Lib.hid hM4
      clear hM4 hltA hltB hA4 hB4 hc4 hcm4 hd4 hdm4 hb4 hiA hiB HE3 HI3 HM3 HR3 FR
      simp only [frcells]
      have hal : ∀ o, Below w4.heap.size w4 (w4.alloc o) := fun o => (Below.refl _ _).alloc (Nat.le_refl _) _
      have HAL := Lib.hid hal
      have hz4 := HM4.out.2.2.2.2.2.2.size
      clear hal
      go_wp2_with (first
        | (at_builtin
           refine wpList_addN fmc 7 88 fmc_len fmc_one rfl (.tmp 29) (.tmp 32) _ rfl 40 _ Try.underlying50 frInfo rfl (by decide) (by decide) w.heap.size Ao i co xs HM4.out.2.2.2.2.2.1 rfl (HM4.out.1.1.alloc _) ⟨f, A4, c4, B4, d4⟩ w4.heap.size 1 rfl (Rd.new _ _ _ 7 rfl) (i + 1) rfl (by omega) (by simp; omega) ?_
           intro g6 c6 w6 hO6 hc6 hm6 hb6 hg6 hl6 hz6
           have hrow6 := (HM4.out.1.below (HAL.out _)).snoc (HX.out.below (HAL.out _)) (HIA.out.keep (HAL.out _).size) (HIB.out.keep (HAL.out _).size) hO6 hg6 hl6 hb6.size
           have hE6 := Rd.grown (HE4.out.below (HAL.out _)) (HI4.out.keep (HAL.out _).size) hg6
           have hY6 := own_grownR (HM4.out.2.1.below (HAL.out _) (Nat.le_refl _)) hg6 (fun q hq => by have h := own_types (HM4.out.2.1) (HM4.out.1.1) (by decide) q hq; rwa [blk_of] at h)
           have hs6 := Nat.le_trans hz4 (Nat.le_trans (HAL.out _).size hb6.size))
        | (at_builtin
           refine wpList_addY rfl (.tmp 34) (.tmp 35) _ rfl 5 Try.underlying24 u8_info w.heap.size Bo nb cb ((xs.map (·.f)).flatMap fenc) ?q1 ?q2 ?q3 A3 k3 c3 (fenc f) ?q4 ?q5 ?q6 ?q7 (nb + k3) rfl ?q8 ?q9 ?_
           case q1 => exact HM4.out.2.2.1
           case q2 => rfl
           case q3 => exact hY6
           case q4 => exact HK3.out
           case q5 => rfl
           case q6 => exact hE6
           case q7 => omega
           case q8 => omega
           case q9 => exact hs6
           intro g7 c7 w7 hO7 hc7 hm7 hb7 hg7 hl7 hz7))
      go_roundw
      case rel =>
        have hfl : ((xs ++ [(⟨f, A4, c4, B4, d4⟩ : FrM)]).map (·.f)).flatMap fenc = (xs.map (·.f)).flatMap fenc ++ fenc f := by rw [List.map_append, List.flatMap_append]; simp
        have hoff6 : ∀ x ∈ xs ++ [(⟨f, A4, c4, B4, d4⟩ : FrM)], FrOk x.f ∧ InOff w6 (Bo.map (·.block)) x.A ∧ InOff w6 (Bo.map (·.block)) x.B := fun x hx => by
          rcases List.mem_append.1 hx with h1 | h1
          · obtain ⟨a1, a2, a3⟩ := HM4.out.2.2.2.2.1 x h1
            exact ⟨a1, (a2.keep (HAL.out _).size).keep hb6.size, (a3.keep (HAL.out _).size).keep hb6.size⟩
          · rw [List.mem_singleton.1 h1]
            exact ⟨OK.out, (HJA.out.keep (HAL.out _).size).keep hb6.size, (HJB.out.keep (HAL.out _).size).keep hb6.size⟩
        refine ⟨i + 1, some ⟨g6, 0, none⟩, c6, some ⟨g7, 0, none⟩, nb + k3, c7, xs ++ [⟨f, A4, c4, B4, d4⟩], by omega, by first | (go_num; done) | rfl, rfl, rfl, ?_, ?_, ?_, by omega, ?_, by rw [List.length_append, HM4.out.2.2.2.2.2.1]; rfl, ?_⟩
        · refine hrow6.other hg7 hb7.size (fun q hq => ?_) (fun x hx => (hoff6 x hx).2)
          have h := own_types hrow6.1 hY6 (by decide) q (by rw [blk_of]; exact hq)
          rwa [blk_of] at h
        · rw [hfl]; exact hO7
        · rw [hfl, List.length_append, HM4.out.2.2.1, HK3.out]
        · intro x hx
          obtain ⟨a1, a2, a3⟩ := hoff6 x hx
          have hbb : ∀ q, (some (⟨g7, 0, none⟩ : Addr)).map (·.block) = some q → Bo.map (·.block) = some q ∨ w6.heap.size ≤ q := fun q hq => by
            have hq : g7 = q := Option.some.inj hq
            subst hq
            rcases hl7 with h1 | h1
            · exact .inl h1
            · exact .inr (by omega)
          exact ⟨a1, a2.grow hb7.size hbb, a3.grow hb7.size hbb⟩
        · have h := HM4.out.2.2.2.2.2.2
          exact ((h.trans ((HAL.out _).mono h.size)).trans hb6).trans hb7
      case measure => first | (simp [intOf]; done) | (simp [intOf]; omega)
    · obtain rfl : i = k := by omega
      have HFA := Lib.hid (fAll_any Bo ((xs.map (·.f)).flatMap fenc) nb cb wr HM.out.2.2.1 (OwnB.rd HM.out.2.1) (by have h := HM.out.2.1.cap; rw [HM.out.2.2.1] at h; exact h.1) (by have h := HM.out.2.1.cap; have := h.2; unfold maxLen at this; omega) (by omega))
      have hfb := fall_back (xs.map (·.f)) (fun g hg => by
        obtain ⟨x, hx, rfl⟩ := List.mem_map.1 hg
        exact (HM.out.2.2.2.2.1 x hx).1)
      rw [List.length_map, HM.out.2.2.2.2.2.1] at hfb
      have HFB := Lib.hid hfb
      clear hfb
      go_wp2_with fail
      refine HFA.out.mono ?_
      rintro e w2 ⟨A2, k2, c2, ys, rfl, hys, hyl, hrow2, hb2⟩
      have HYS := Lib.hid hys
      have HYL := Lib.hid hyl
      have HROW2 := Lib.hid hrow2
      have HM2 := Lib.hid (HM.out.below hb2)
      clear hys hyl hrow2 hb2 HFA HM HRS
      have hal : ∀ o, Below w2.heap.size w2 (w2.alloc o) := fun o => (Below.refl _ _).alloc (Nat.le_refl _) _
      have h3 : RdB (w2.alloc (.cells #[.int .u8 3] 5)) (some ⟨w2.heap.size, 0, none⟩) [3] := RdB.one w2 5 3 3 rfl
      have HFC := Lib.hid (fAll_any (some ⟨w2.heap.size, 0, none⟩) [3] 1 1 _ rfl h3 (Nat.le_refl _) (by decide) (by decide))
      have HAL := Lib.hid hal
      clear h3 hal
      rw [fall_three] at HFC
      go_wp2_with fail
      refine HFC.out.mono ?_
      rintro e w3 ⟨A3, k3, c3, zs, rfl, _, _, _, hb3⟩
      have hb23 := (HAL.out (.cells #[.int .u8 3] 5)).trans (hb3.mono (HAL.out _).size)
      have HM3 := Lib.hid (HM2.out.below hb23)
      have HROW3 := Lib.hid (HROW2.out.below hb23)
      clear HM2 HROW2 HFC HAL hb3 hb23
      by_cases h12 : i ≤ 12
      · have hfb := HFB.out
        rw [if_pos h12] at hfb
        rw [hfb] at HYS ⊢
        have HYS2 : Hid (ys.map (·.f) = xs.map (·.f)) := HYS.out
        have hyi : k2 = i := by
          have h := congrArg List.length HYS2.out
          rw [List.length_map, List.length_map, HYL.out, HM3.out.2.2.2.2.2.1] at h
          exact h
        subst hyi
        have h12' : ¬ (12 : Int) < (k2 : Int) := by omega
        have HSF := Lib.hid (sameFrames_eq A2 Ao k2 c2 co ys xs HYL.out HM3.out.2.2.2.2.2.1 (by omega) HYS2.out (fun x hx => by
          have : x.f ∈ xs.map (·.f) := by rw [← HYS2.out]; exact List.mem_map_of_mem hx
          obtain ⟨y, hy, e⟩ := List.mem_map.1 this
          have := (HM3.out.2.2.2.2.1 y hy).1.many
          rw [← e]; omega) w3 HROW3.out.rd HM3.out.1.rd)
        clear hfb HFB HYS
        go_wp2_with fail
        refine HSF.out.mono ?_
        rintro e w4 ⟨rfl, hb4⟩
        go_wp2_with fail
        go_ret
        exact ⟨by first | rfl | simp, HM3.out.2.2.2.2.2.2.trans (hb4.mono HM3.out.2.2.2.2.2.2.size)⟩
      · have hfb := HFB.out
        rw [if_neg h12] at hfb
        rw [hfb]
        have h12' : (12 : Int) < (i : Int) := by omega
        clear hfb HFB HYS
        go_wp2_with fail
        go_ret
        exact ⟨by first | rfl | simp, HM3.out.2.2.2.2.2.2⟩
end Go.Proofs.Ytenlgfeldkfmiaa
