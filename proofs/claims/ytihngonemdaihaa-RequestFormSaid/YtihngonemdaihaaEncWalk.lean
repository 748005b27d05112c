/- The contract of fields.Encode. -/
import Derived.Test.YtihngonemdaihaaEncSt
import Derived.Test.YtihngonemdaihaaFDec
import Derived.Test.YtihngonemdaihaaFUsed
import Derived.Test.YtihngonemdaihaaFEnc1
import Derived.Test.YtihngonemdaihaaResizeOwn
import Derived.Test.YtihngonemdaihaaInsertWalk
import Derived.BigRegion
import Derived.Deep.RegionHeld3
import Derived.BigQuiet
namespace Go.Proofs.Ytihngonemdaihaa
open Go.ChangeShapes Go.WideShapes Go.ChangeAt Go.RowKit
set_option linter.unusedVariables false

theorem zset (refs : List Int) (i m : Nat) (z : Int) (hl : refs.length = i) (hi : i < m) : (refs ++ List.replicate (m - i) 0).set i z = (refs ++ [z]) ++ List.replicate (m - (i + 1)) 0 := by
  subst hl
  rw [List.set_append_right _ _ (Nat.le_refl _), Nat.sub_self, show m - refs.length = (m - (refs.length + 1)) + 1 by omega, List.replicate_succ]
  simp
theorem zset2 (refs : List Int) (i : Nat) (z z' : Int) (rest : List Int) (hl : refs.length = i) : ((refs ++ [z]) ++ rest).set i z' = (refs ++ [z']) ++ rest := by
  subst hl
  simp
theorem zget2 (refs : List Int) (i : Nat) (z : Int) (rest : List Int) (hl : refs.length = i) : ((refs ++ [z]) ++ rest).getD i 0 = z := by
  subst hl
  simp [List.getD]
theorem zipTake (fs : List Fld) (refs : List Int) (i : Nat) (h1 : i < fs.length) (h2 : i < refs.length) : (fs.zip refs).take (i + 1) = (fs.zip refs).take i ++ [(fs.getD i fnil, refs.getD i 0)] := by
  rw [List.take_succ_eq_append_getElem (by rw [List.length_zip]; omega)]
  simp [List.getD, h1, h2]
theorem lineB_same {need : Nat} {x y : ByteArray} {K : Nat} {t : Bool} {ref : Int} (h : knownR (x, y) = (K, true, t)) : lineB need (x, y) ref = pEnc 6 192 K := by unfold lineB; rw [h]; rfl
theorem lineB_ref {need : Nat} {x y : ByteArray} {K : Nat} {t : Bool} {R : Nat} (h : knownR (x, y) = (K, false, t)) : lineB need (x, y) (R : Int) = pEnc 6 128 (need - 1 - R) := by
  unfold lineB; rw [h, if_neg (by simp), if_pos (by omega)]; simp
theorem lineB_name {need : Nat} {x y : ByteArray} {K : Nat} {ref : Int} (h0 : ¬ 0 ≤ ref) (h : knownR (x, y) = (K, false, true)) : lineB need (x, y) ref = pEnc 4 64 K ++ (pEnc 7 0 y.size ++ bts y) := by
  unfold lineB; rw [h, if_neg (by simp), if_neg h0, if_pos rfl]; rfl
theorem lineB_plain {need : Nat} {x y : ByteArray} {K : Nat} {ref : Int} (h0 : ¬ 0 ≤ ref) (h : knownR (x, y) = (K, false, false)) : lineB need (x, y) ref = (pEnc 3 32 x.size ++ bts x) ++ (pEnc 7 0 y.size ++ bts y) := by
  unfold lineB; rw [h, if_neg (by simp), if_neg h0, if_neg (by simp)]; rfl
theorem EncT.tab {W w : World} {gP gI r : Nat} {put : Int} {R0 : List Fld} {ah : Bool} {fs : List Fld} {i : Nat} {told : List Fld} {refs : List Int} {need : Nat} {A : Option Addr} {n c : Nat} {zs : List Int} {tell : List UInt8} {TA : Option Addr} {tn tc : Nat}
    (h : EncT W w gP gI r (put + told.length) (R0 ++ told) A n c zs tell) (hP : EncP r put R0 ah fs i told refs need) (hV : TabV W (r : Int) put TA tn tc R0) : TabV w (r : Int) (put + told.length) A n c (R0 ++ told) where
  hn := h.hn
  hnc := by have := h.hR.cap; rw [h.hn] at this; exact this.1
  hcm := h.hR.cap.2
  h0 := hV.h0
  h1 := hV.h1
  h2 := by have := h.hn; rw [List.length_append] at this; have := hP.h2; omega
  h3 := hP.fit
  hf := fun f hf => by
    rcases List.mem_append.1 hf with h1 | h1
    · exact hV.hf f h1
    · exact hP.fok f h1
  hs := by have := hP.sz; omega
  hr := h.hR.rd
set_option maxRecDepth 100000 in
set_option maxHeartbeats 16000000 in
theorem fEncode_any (w : World) (r : Nat) (put : Int) (TA : Option Addr) (tn tc : Nat) (R0 : List Fld) (hV : TabV w (r : Int) put TA tn tc R0) (ah : Bool) (L : Option Addr) (m cL : Nat) (fs : List Fld) (hm : fs.length = m) (hc1 : m ≤ cL) (hc2 : cL ≤ 9223372036854775807) (hrd : RdX fcells 2 w L fs) (hok : ∀ f ∈ fs, FOk f) (h8 : m ≤ 8) :
    Calls Try.prog 17 #[.agg #[.int .i64 (r : Int), .int .i64 put, .slice TA tn tc], .slice L m cL, .bool ah] w (FEncOut w r put R0 ah fs) := by
  have HRD := Lib.hid hrd
  have HOK := Lib.hid hok
  have HM := Lib.hid hm
  have HV := Lib.hid hV
  have hr : r ≤ 160 := by have := hV.h1; omega
  have hch : fchkR fs = 0 := fchkR_ok (by omega) (fun j hj => (fokB_iff _).2 (hok _ (getD_inF _ _ _ hj)))
  have HCH := Lib.hid hch
  clear hrd hok hch hm hV
  go_enter Try.func17, Try.ntmps17
  go_upto_region 1 with (fail)
  refine wp_world (fun w' => Blk w' w.heap.size 29 #[.int .i64 (r : Int), .int .i64 put, .slice TA tn tc] ∧ Blk w' (w.heap.size + 1) 29 #[.int .i64 0, .int .i64 0, .slice none 0 0] ∧ Below w.heap.size w w') ⟨(Blk.new _ _ _).alloc _, Blk.new1 _ _ _ _, ((Below.refl _ _).alloc (Nat.le_refl _) _).alloc (by simp) _⟩ ?_
  rintro w1 ⟨hT1, hZ1, hb1⟩
  have FT := hT1.facts3
  go_wp2_with fail
  refine (tCheck_ok (r : Int) put TA tn tc R0 HV.out.hn HV.out.hnc HV.out.hcm HV.out.h0 HV.out.h1 HV.out.h2 HV.out.h3 HV.out.hf HV.out.hs _ (HV.out.below hb1).hr).mono ?_
  rintro e w2 ⟨rfl, hb2⟩
  have hT2 := hT1.carry hb2
  have hZ2 := hZ1.carry hb2
  have hb12 := hb1.trans (hb2.mono hb1.size)
  clear FT hT1 hZ1 hb1 hb2
  have FT := hT2.facts3
  go_wp2_with fail
  refine (fCheck_any L m cL fs HM.out hc1 hc2 _ (RdX.below HRD.out hb12) 0 HCH.out).mono ?_
  rintro e w3 ⟨rfl, hb3⟩
  have hT3 := hT2.carry hb3
  have hZ3 := hZ2.carry hb3
  have hb13 := hb12.trans (hb3.mono hb12.size)
  clear FT hT2 hZ2 hb12 hb3
  have FT := hT3.facts3
  go_wp2_with fail
  refine (tResize_own r put TA tn tc R0 HV.out.hn HV.out.hnc HV.out.hcm hr HV.out.h2 HV.out.h3 HV.out.hf (by have := HV.out.hs; omega) r hr R0 tn (fitR_same _ _ (by have := HV.out.hs; omega)) HV.out.hn _ (HV.out.below hb13).hr).mono ?_
  rintro e w4 ⟨A4, c4, rfl, hc4, hc4', hR4, hb4⟩
  have hT4 := hT3.carry hb4
  have hZ4 := hZ3.carry hb4
  have hb14 := hb13.trans (hb4.mono hb13.size)
  have hz4 := hZ4.lt
  have hz3 : w.heap.size + 1 < w3.heap.size := hZ3.lt
  clear FT hT3 hZ3 hb13 hb4
  have FT := hT4.facts3
  have hmk : ∀ W, (Instr.makeSlice 68 (.int .i64 (m : Int)) (.int .i64 (m : Int))).run Try.prog W = .ok (.slice (some ⟨W.heap.size, 0, none⟩) m m) (W.alloc (.cells (madeCells #[.int .i64 0] m) 3)) :=
    fun W => run_make_row' 68 3 (.int .i64 0) 8 Try.underlying68 intInfoF rfl .i64 .i64 m (by omega) (by omega) W
  rw [zeros_i64] at hmk
  go_upto_region 12 with (fail)
  obtain ⟨gP, hgP⟩ : ∃ q, w4.heap.size = q := ⟨_, rfl⟩
  obtain ⟨gI, hgI⟩ : ∃ q, w4.heap.size + 1 = q := ⟨_, rfl⟩
  have hE0 : EncP r put R0 ah fs 0 [] [] 0 := EncP.zero (by have := HV.out.hs; omega) (by have := HV.out.h2; have := HV.out.hn; omega) HV.out.h3
  refine wp_world (fun w' => EncT w w' gP gI r put R0 A4 tn c4 (List.replicate m 0) []) ⟨?f1, ?f2, ?f3, ?f4, ?f5, ?f6, HV.out.hn, ?f7, ?f8⟩ ?_
  all_goals try rw [← hgP]
  all_goals try rw [← hgI]
  case f1 => exact (((((hT4.set_ 0 _).set_ 1 _).set_ 2 _).as (by rfl)).alloc _).alloc _
  case f2 => exact ((((hZ4.far (p := ⟨w.heap.size, 0, none⟩) (by show w.heap.size + 1 ≠ w.heap.size; omega) _).far (p := ⟨w.heap.size, 1, none⟩) (by show w.heap.size + 1 ≠ w.heap.size; omega) _).far (p := ⟨w.heap.size, 2, none⟩) (by show w.heap.size + 1 ≠ w.heap.size; omega) _).alloc _).alloc _
  case f3 =>
    exact ((KeepO.set ((hT4.set_ 0 _).set_ 1 _) (by decide) 2 _ _ _ _ _ (KeepO.set (hT4.set_ 0 _) (by decide) 1 _ _ _ _ _ (KeepO.set hT4 (by decide) 0 _ _ _ _ _ (hR4.mono (by omega))))).alloc _).alloc _
  case f4 => exact Blk.newQ (by simp)
  case f5 => exact ⟨none, 0, 0, rfl, (Blk.newQ (by simp)).alloc _, OwnB.nil _ _ _⟩
  case f6 =>
    have h := hb14
    (repeat (first | with_reducible exact h | with_reducible refine Below.drew ?_ | (with_reducible refine Below.set4 ?_ ?side _ _ _ _; case side => (first | omega | (simp; omega) | (simp; done))) | (with_reducible refine Below.setCell ?_ ?side _; case side => (first | omega | (simp; omega) | (simp; done))) | (with_reducible refine Below.alloc ?_ ?side _; case side => (first | omega | (simp; omega) | (simp; done)))))
  case f7 => omega
  case f8 => omega
  rintro w5 hE5
  rw [hgI, hgP] at hE5
  have HE5 := Lib.hid hE5
  have HP0 := Lib.hid hE0
  rw [hgI]
  clear FT hT4 hZ4 hb14 hmk hE5 hE0 hR4 hz3
  rw [hgP]
  clear hgP hgI hz4
  go_loopw [14, 55] (fun s14 s55 wr => ∃ (i need : Nat) (told : List Fld) (refs : List Int) (A : Option Addr) (n c : Nat), i ≤ m ∧ s55 = .int .i64 (i : Int) ∧ s14 = .int .i64 (need : Int) ∧ EncP r put R0 ah fs i told refs need ∧ EncT w wr gP gI r (put + told.length) (R0 ++ told) A n c (refs ++ List.replicate (m - i) 0) (tellB told)) (fun _ s55 _ => ((m : Int) - intOf s55).toNat)
  case atStart => exact ⟨0, 0, [], [], A4, tn, c4, Nat.zero_le _, rfl, rfl, HP0.out, by simpa [tellB] using HE5.out⟩
  case round =>
    obtain ⟨i, need, told, refs, A, n, c, him, rfl, rfl, hP, hE⟩ := hrel
    have HP := Lib.hid hP
    have HE := Lib.hid hE
    clear hP hE HP0 HE5
    by_cases hi : i < m
    ·
      -- [[round
      have hi2 : i < fs.length := by rw [HM.out]; exact hi
      obtain ⟨Lb, Lo, hL, hcell⟩ := (RdX.below HRD.out HE.out.hB).fcell (by omega)
      obtain ⟨c0, c1⟩ := hcell i hi2
      obtain ⟨x, y, hxy⟩ : ∃ x y, fs.getD i fnil = (x, y) := ⟨_, _, rfl⟩
      rw [hxy] at c0 c1
      dsimp only at c0 c1
      have HXY := Lib.hid hxy
      have hfok : FOk (x, y) := by have := HOK.out (fs.getD i fnil) (getD_inF _ _ _ hi2); rw [hxy] at this; exact this
      have HFK := Lib.hid hfok
      have hfI := HE.out.hI.frozen i
      have hzl : (refs ++ List.replicate (m - i) 0).length = m := by rw [List.length_append, HP.out.rl]; simp; omega
      have hcI := HE.out.hI.cell i
      rw [i64s_at _ _ (by omega)] at hcI
      have hgl := HE.out.hI.lt
      have HZL := Lib.hid hzl
      subst hL
      clear hxy hfok hzl hcell hi2
      go_upto_region 15 with (fail)
      obtain ⟨gF, hgF⟩ : ∃ q, wr.heap.size = q := ⟨_, rfl⟩
      refine wp_world (fun w' => Blk w' gF 47 #[.string x, .string y] ∧ EncT w w' gP gI r (put + told.length) (R0 ++ told) A n c ((refs ++ [-1]) ++ List.replicate (m - (i + 1)) 0) (tellB told)) ⟨?q1, ?q2⟩ ?_
      case q1 => exact Blk.newQ (by simpa using hgF)
      case q2 =>
        rw [← zset refs i m _ HP.out.rl hi]
        exact (HE.out.setI i (-1)).alloc _
      have hgo : w.heap.size + 1 < gP ∧ gP < gI ∧ gI < gF := ⟨HE.out.g1, HE.out.g2, by omega⟩
      rw [hgF]
      rintro w6 ⟨hF6, hE6⟩
      have HF6 := Lib.hid hF6
      have HE6 := Lib.hid hE6
      have FF := hF6.two
      clear HE hF6 hE6 c0 c1 hfI hcI hgl hgF HZL
      obtain ⟨K, s, t, hK⟩ : ∃ K s t, knownR (x, y) = (K, s, t) := ⟨_, _, _, rfl⟩
      have HKN := Lib.hid hK
      clear hK
      go_wp2_with fail
      refine (fknown_any x y K s t HKN.out _).mono ?_
      rintro e w7 ⟨rfl, hb7⟩
      have HF7 := Lib.hid (HF6.out.carry hb7)
      have HE7 := Lib.hid (HE6.out.carry hb7)
      clear HF6 HE6 FF hb7
      cases s with
      | true =>
        -- [[same
        go_wp2_with fail
        go_roundw
        case rel => exact ⟨i + 1, need, told, refs ++ [-1], A, n, c, hi, by go_num, rfl, HP.out.skip (by rw [HM.out]; exact hi) (by rw [HXY.out]; exact HFK.out), HE7.out⟩
        case measure => simp [intOf]; omega
        -- ]]same
      | false =>
        have hF7 := HF7.out.two
        have FT := HE7.out.hT.facts3
        have HTV := Lib.hid (HE7.out.tab HP.out HV.out)
        go_wp2_with fail
        refine (tFind_any r (put + told.length) A n c (R0 ++ told) HTV.out.hn HTV.out.hnc HTV.out.hcm hr HTV.out.h2 HTV.out.h3 HTV.out.hf (by have := HTV.out.hs; omega) x y _ HTV.out.hr).mono ?_
        rintro e w8 ⟨hor, hb8⟩
        have HF8 := Lib.hid (HF7.out.carry hb8)
        have HE8 := Lib.hid (HE7.out.carry hb8)
        have HTV8 := Lib.hid (HTV.out.below hb8)
        have HN := HTV.out.hn
        have HPB := HTV.out.h3
        have HPC := HTV.out.h2
        clear hF7 FT HF7 HE7 HTV hb8
        have hzl : (refs ++ [-1] ++ List.replicate (m - (i + 1)) 0).length = m := by rw [List.length_append, List.length_append, HP.out.rl]; simp; omega
        have HZL := Lib.hid hzl
        clear hzl
        have hnd := HP.out.nd
        rcases hor with ⟨j, v, hj, rfl, hjx⟩ | hor
        ·
          -- [[found
          have HJX := Lib.hid hjx
          have HNN := Lib.hid HN
          clear hjx HN
          obtain ⟨ref, href⟩ : ∃ ref, put + (told.length : Int) - n + j = ref := ⟨_, rfl⟩
          have hr0 : 0 ≤ ref ∧ ref ≤ 4611686018427387903 := by omega
          rw [href]
          have HREF := Lib.hid href
          clear href HPB HPC
          have hfI := HE8.out.hI.frozen i
          have hcI := HE8.out.hI.cell i
          rw [i64s_at _ _ (by rw [HZL.out]; exact hi)] at hcI
          have hgl := HE8.out.hI.lt
          go_upto_region 25 with (fail)
          refine wp_world (fun w' => EncT w w' gP gI r (put + told.length) (R0 ++ told) A n c ((refs ++ [ref]) ++ List.replicate (m - (i + 1)) 0) (tellB told)) ?q1 ?_
          case q1 =>
            rw [← zset2 refs i (-1) ref _ HP.out.rl]
            exact HE8.out.setI i ref
          rintro w9 hE9
          clear HE8 hfI hcI hgl HTV8 HF8 HZL
          have hfI := hE9.hI.frozen i
          have hzl : (refs ++ [ref] ++ List.replicate (m - (i + 1)) 0).length = m := by rw [List.length_append, List.length_append, HP.out.rl]; simp; omega
          have hcI := hE9.hI.cell i
          rw [i64s_at _ _ (by rw [hzl]; exact hi), zget2 refs i ref _ HP.out.rl] at hcI
          have hgl := hE9.hI.lt
          have HE9 := Lib.hid hE9
          clear hE9 hzl
          go_wp2_with fail
          go_roundw
          case rel =>
            have hmx : (((max (need : Int) (ref + 1)).toNat : Nat) : Int) = max (need : Int) (ref + 1) := by omega
            exact ⟨i + 1, (max (need : Int) (ref + 1)).toNat, told, refs ++ [ref], A, n, c, hi, by go_num, by rw [hmx]; congr 1; split <;> omega, HP.out.found (by rw [HM.out]; exact hi) (by rw [HXY.out]; exact HFK.out) j (by rw [HNN.out]; exact hj) (by rw [HXY.out]; exact HJX.out) ref (by rw [HNN.out]; exact HREF.out.symm) _ hmx, HE9.out⟩
          case measure => simp [intOf]; omega
          -- ]]found
        ·
          have hor2 : ∃ (q E : Int), e = .returned (.tuple #[.int .i64 q, .bool false, .int .i64 E]) ∧ (E = 0 ∨ E = 5) := by
            rcases hor with ⟨j, v, _, h, _⟩ | ⟨h, _⟩
            · exact ⟨_, _, h, .inl rfl⟩
            · exact ⟨_, _, h, .inr rfl⟩
          obtain ⟨q, E, rfl, hE5⟩ := hor2
          clear hor
          obtain ⟨p, hp⟩ : ∃ p, x.size + y.size + 32 = p := ⟨_, rfl⟩
          have hp1 : p ≤ 1000 := by have h1 : x.size ≤ 20 := HFK.out.2.1; have h2 : y.size ≤ 40 := HFK.out.2.2; omega
          obtain ⟨S, hS⟩ : ∃ S, tsz (R0 ++ told) = S := ⟨_, rfl⟩
          have hS1 : S ≤ 160 := by have := HP.out.sz; omega
          have hwr : IntKind.i64.wrap ((S : Int) + (p : Int)) = (S : Int) + (p : Int) := IntWalk.i64_in _ (by omega)
          have HPS := Lib.hid hp
          have HS := Lib.hid hS
          have hfacts : ∀ w', Below w8.heap.size w8 w' → w'.cell? ⟨gF, 0, none⟩ = some (.string x) ∧ w'.cell? ⟨gF, 1, none⟩ = some (.string y) ∧ w'.cell? ⟨w.heap.size, 0, none⟩ = some (.int .i64 (r : Int)) ∧ w'.cell? ⟨w.heap.size, 1, none⟩ = some (.int .i64 (put + told.length)) ∧ w'.cell? ⟨w.heap.size, 2, none⟩ = some (.slice A n c) :=
            fun w' hw' => ⟨(HF8.out.carry hw').two.1, (HF8.out.carry hw').two.2.1, (HE8.out.carry hw').hT.facts3.2.1, (HE8.out.carry hw').hT.facts3.2.2.1, (HE8.out.carry hw').hT.facts3.2.2.2.1⟩
          have HFA := Lib.hid hfacts
          clear hfacts hp hS HN
          cases ah with
          | false =>
            -- [[noah
            rcases hE5 with rfl | rfl
            all_goals
              go_upto_region 20 with (fail)
              refine wp_region_quiet (C := fun w' => Below (w8).heap.size (w8) w') (by kernel_rfl) (by kernel_rfl) (Below.refl _ _).drew ?_
              repeat (
                with_reducible refine wpQuiet_step ?_
                intro K hK
                go_simp
                first
                  | (refine hK _ ?_; clear hK K)
                  | (apply Exists.intro
                     refine ⟨fun w' hw' => ?_, hK _ ?_⟩
                     first
                       | ((first | (go_at_call 27; exact (fUsed_any (r : Int) (put + told.length) A n c (R0 ++ told) HTV8.out.hn HTV8.out.hnc HTV8.out.hcm S HS.out (by omega) w' (HTV8.out.below hw').hr).mono (fun e w'' ⟨he, hb⟩ => ⟨he, hw'.trans (hb.mono hw'.size)⟩)) | (go_at_call 28; exact (tSize_any x y p HPS.out (by omega) w').mono (fun e w'' ⟨he, hb⟩ => ⟨he, hw'.trans (hb.mono hw'.size)⟩))))
                       | (have FF := HFA.out w' hw'; go_simp; done)
                       | (have FF := HFA.out w' hw'; go_simp; exact rfl)
                     clear hK K))
              
              refine wpQuiet_nil ?_
              intro wq hwq
              have hE9 := HE8.out.carry hwq
              clear hwq HFA
              go_upto_region 25 with (fail)
              have hfI := hE9.hI.frozen i
              have hcI := hE9.hI.cell i
              rw [i64s_at _ _ (by rw [HZL.out]; exact hi), zget2 refs i (-1) _ HP.out.rl] at hcI
              have hgl := hE9.hI.lt
              have HE9 := Lib.hid hE9
              clear hE9
              go_wp2_with fail
              go_roundw
              case rel => exact ⟨i + 1, need, told, refs ++ [-1], A, n, c, hi, by go_num, by first | rfl | (congr 1; split <;> omega), HP.out.skip (by rw [HM.out]; exact hi) (by rw [HXY.out]; exact HFK.out), HE9.out⟩
              case measure => simp [intOf]; omega
            -- ]]noah
          | true =>
            by_cases hfit : S + p ≤ r
            · by_cases hpm : put + (told.length : Int) < 4611686018427387903
              ·
                -- [[tell
                have d1 : decide ((S : Int) + (p : Int) ≤ (r : Int)) = true := decide_eq_true (by omega)
                have d1' : decide (S + p ≤ r) = true := decide_eq_true hfit
                have d2 : decide (put + (told.length : Int) < 4611686018427387903) = true := decide_eq_true hpm
                rcases hE5 with rfl | rfl
                all_goals
                  go_upto_region 20 with (fail)
                  refine wp_region_quiet (C := fun w' => Below (w8).heap.size (w8) w') (by kernel_rfl) (by kernel_rfl) (Below.refl _ _).drew ?_
                  repeat (
                    with_reducible refine wpQuiet_step ?_
                    intro K hK
                    go_simp
                    first
                      | (refine hK _ ?_; clear hK K)
                      | (apply Exists.intro
                         refine ⟨fun w' hw' => ?_, hK _ ?_⟩
                         first
                           | ((first | (go_at_call 27; exact (fUsed_any (r : Int) (put + told.length) A n c (R0 ++ told) HTV8.out.hn HTV8.out.hnc HTV8.out.hcm S HS.out (by omega) w' (HTV8.out.below hw').hr).mono (fun e w'' ⟨he, hb⟩ => ⟨he, hw'.trans (hb.mono hw'.size)⟩)) | (go_at_call 28; exact (tSize_any x y p HPS.out (by omega) w').mono (fun e w'' ⟨he, hb⟩ => ⟨he, hw'.trans (hb.mono hw'.size)⟩))))
                           | (have FF := HFA.out w' hw'; go_simp; done)
                           | (have FF := HFA.out w' hw'; go_simp; exact rfl)
                         clear hK K))
                  
                  refine wpQuiet_nil ?_
                  intro wq hwq
                  have HE9 := Lib.hid (HE8.out.carry hwq)
                  have HF9 := Lib.hid (HF8.out.carry hwq)
                  have HTV9 := Lib.hid (HTV8.out.below hwq)
                  have hF9 := HF9.out.two
                  have FT := HE9.out.hT.facts3
                  clear hwq HFA HE8 HF8 HTV8 d1 d1' d2 hwr
                  have htl := HP.out.tl
                  have hub := tellB_le told HP.out.fok
                  have HUB : Hid ((tellB told).length ≤ 1000) := Lib.hid (by omega)
                  clear hub htl
                  go_wp2_with fail
                  refine (tInsert_own r (put + told.length) A n c (R0 ++ told) HTV9.out.hn HTV9.out.hnc HTV9.out.hcm hr HTV9.out.h2 hpm HTV9.out.hf (by have := HTV9.out.hs; omega) x y HFK.out.1 HFK.out.2.1 HFK.out.2.2 p HPS.out (by omega) (R0 ++ told ++ [(x, y)]) (n + 1) (by rw [fitR_same _ _ (by rw [HS.out]; omega)]) (by rw [List.length_append, HTV9.out.hn]; rfl) _ HTV9.out.hr).mono ?_
                  rintro e w10 ⟨A10, c10, rfl, hc10, hc10', hO10, hb10⟩
                  have HE10 := Lib.hid (HE9.out.carry hb10)
                  have HF10 := Lib.hid (HF9.out.carry hb10)
                  have HO10 := Lib.hid hO10
                  have hz9 : w.heap.size ≤ wq.heap.size := by have := HE9.out.hT.lt; omega
                  have hn10 : (R0 ++ told ++ [(x, y)]).length = n + 1 := by rw [List.length_append, HTV9.out.hn]; rfl
                  have HN10 := Lib.hid hn10
                  clear hF9 FT HE9 HF9 HTV9 hb10 hO10 hn10
                  have FT := HE10.out.hT.facts3
                  go_upto_region 22 with (fail)
                  refine wp_world (fun w' => Blk w' gF 47 #[.string x, .string y] ∧ EncT w w' gP gI r (put + told.length + 1) (R0 ++ told ++ [(x, y)]) A10 (n + 1) c10 (refs ++ [-1] ++ List.replicate (m - (i + 1)) 0) (tellB told)) ⟨?q1, ?q2⟩ ?_
                  case q1 => exact ((HF10.out.far (p := ⟨w.heap.size, 0, none⟩) (by show gF ≠ w.heap.size; omega) _).far (p := ⟨w.heap.size, 1, none⟩) (by show gF ≠ w.heap.size; omega) _).far (p := ⟨w.heap.size, 2, none⟩) (by show gF ≠ w.heap.size; omega) _
                  case q2 => exact HE10.out.setT HO10.out hz9 HN10.out _
                  rintro w11 ⟨hF11, hE11⟩
                  have HF11 := Lib.hid hF11
                  have HE11 := Lib.hid hE11
                  have FT := hE11.hT.facts3
                  have hfI := hE11.hI.frozen i
                  have hcI := hE11.hI.cell i
                  rw [i64s_at _ _ (by rw [HZL.out]; exact hi), zget2 refs i (-1) _ HP.out.rl] at hcI
                  have hgl := hE11.hI.lt
                  clear HE10 HF10 HO10 hz9 hF11 hE11
                  have hwr2 : IntKind.i64.wrap (put + (told.length : Int) + 1 - 1) = put + (told.length : Int) := by rw [Int.add_sub_cancel]; exact IntWalk.i64_in _ (by omega)
                  go_upto_region 23 with (fail)
                  refine wp_world (fun w' => Blk w' gF 47 #[.string x, .string y] ∧ EncT w w' gP gI r (put + told.length + 1) (R0 ++ told ++ [(x, y)]) A10 (n + 1) c10 (refs ++ [put + (told.length : Int)] ++ List.replicate (m - (i + 1)) 0) (tellB told)) ⟨?q1, ?q2⟩ ?_
                  case q1 => exact HF11.out.far (p := ⟨gI, i, none⟩) (by show gF ≠ gI; omega) _
                  case q2 =>
                    rw [← zset2 refs i (-1) _ _ HP.out.rl]
                    exact HE11.out.setI i _
                  clear HF11 HE11 hfI hcI hgl hwr2 FT HZL
                  rintro w12 ⟨hF12, hE12⟩
                  have HF12 := Lib.hid hF12
                  have HE12 := Lib.hid hE12
                  have FF := hF12.two
                  clear hF12 hE12
                  go_wp2_with fail
                  refine (fpText_own gP gP (tellB told) 5 (by decide) (by decide) 64 (by decide) x (by have h : x.size ≤ 20 := HFK.out.2.1; omega) (by have := HUB.out; omega) _ (Nat.le_refl _) HE12.out.hP).mono ?_
                  rintro e w13 ⟨rfl, hP13, hk13, hb13, ho13⟩
                  have HF13 := Lib.hid (hk13 _ _ _ (by omega) (by decide) HF12.out)
                  have HE13 := Lib.hid (HE12.out.pen hP13 hk13 hb13 ho13)
                  have FF := HF13.out.two
                  have hl1 : (tellB told ++ (pEnc 5 64 x.size ++ bts x)).length ≤ 20000 := by
                    have h1 := HUB.out
                    have h2 := (pEnc_len 5 64 x.size).2
                    have h : x.size ≤ 20 := HFK.out.2.1
                    rw [List.length_append, List.length_append, bts_len]; omega
                  have HL1 := Lib.hid hl1
                  clear HF12 HE12 hP13 hk13 hb13 ho13 hl1
                  go_wp2_with fail
                  refine (fpText_own gP gP _ 7 (by decide) (by decide) 0 (by decide) y (by have h : y.size ≤ 40 := HFK.out.2.2; omega) HL1.out _ (Nat.le_refl _) HE13.out.hP).mono ?_
                  rintro e w14 ⟨rfl, hP14, hk14, hb14, ho14⟩
                  have hE14 := HE13.out.pen hP14 hk14 hb14 ho14
                  rw [List.append_assoc (tellB told)] at hE14
                  clear HF13 HE13 hP14 hk14 hb14 ho14 FF HL1
                  have hzl : (refs ++ [put + (told.length : Int)] ++ List.replicate (m - (i + 1)) 0).length = m := by rw [List.length_append, List.length_append, HP.out.rl]; simp; omega
                  have hfI := hE14.hI.frozen i
                  have hcI := hE14.hI.cell i
                  rw [i64s_at _ _ (by rw [hzl]; exact hi), zget2 refs i _ _ HP.out.rl] at hcI
                  have hgl := hE14.hI.lt
                  have HE14 := Lib.hid hE14
                  clear hE14 hzl
                  go_wp2_with fail
                  go_roundw
                  case rel =>
                    have hmx : (((max (need : Int) (put + told.length + 1)).toNat : Nat) : Int) = max (need : Int) (put + told.length + 1) := by omega
                    refine ⟨i + 1, (max (need : Int) (put + told.length + 1)).toNat, told ++ [(x, y)], refs ++ [put + (told.length : Int)], A10, n + 1, c10, hi, by go_num, by rw [hmx]; congr 1; first | omega | (split <;> omega), ?_, ?_⟩
                    · have h := HP.out.tell (by rw [HM.out]; exact hi) (by rw [HXY.out]; exact HFK.out) rfl (by rw [HXY.out]; have h1 := HS.out; have h2 : fsz (x, y) = p := HPS.out; omega) hpm _ rfl _ hmx
                      rw [HXY.out] at h
                      exact h
                    · have h := HE14.out
                      have e1 : (((told ++ [(x, y)]).length : Nat) : Int) = told.length + 1 := by rw [List.length_append]; push_cast; rfl
                      rw [e1, ← Int.add_assoc, tellB_snoc, ← List.append_assoc]
                      exact h
                  case measure => simp [intOf]; omega
                -- ]]tell
              ·
                -- [[nomax
                have d1 : decide ((S : Int) + (p : Int) ≤ (r : Int)) = true := decide_eq_true (by omega)
                have d1' : decide (S + p ≤ r) = true := decide_eq_true hfit
                have d2 : decide (put + (told.length : Int) < 4611686018427387903) = false := decide_eq_false hpm
                rcases hE5 with rfl | rfl
                all_goals
                  go_upto_region 20 with (fail)
                  refine wp_region_quiet (C := fun w' => Below (w8).heap.size (w8) w') (by kernel_rfl) (by kernel_rfl) (Below.refl _ _).drew ?_
                  repeat (
                    with_reducible refine wpQuiet_step ?_
                    intro K hK
                    go_simp
                    first
                      | (refine hK _ ?_; clear hK K)
                      | (apply Exists.intro
                         refine ⟨fun w' hw' => ?_, hK _ ?_⟩
                         first
                           | ((first | (go_at_call 27; exact (fUsed_any (r : Int) (put + told.length) A n c (R0 ++ told) HTV8.out.hn HTV8.out.hnc HTV8.out.hcm S HS.out (by omega) w' (HTV8.out.below hw').hr).mono (fun e w'' ⟨he, hb⟩ => ⟨he, hw'.trans (hb.mono hw'.size)⟩)) | (go_at_call 28; exact (tSize_any x y p HPS.out (by omega) w').mono (fun e w'' ⟨he, hb⟩ => ⟨he, hw'.trans (hb.mono hw'.size)⟩))))
                           | (have FF := HFA.out w' hw'; go_simp; done)
                           | (have FF := HFA.out w' hw'; go_simp; exact rfl)
                         clear hK K))
                  
                  refine wpQuiet_nil ?_
                  intro wq hwq
                  have hE9 := HE8.out.carry hwq
                  clear hwq HFA
                  go_upto_region 25 with (fail)
                  have hfI := hE9.hI.frozen i
                  have hcI := hE9.hI.cell i
                  rw [i64s_at _ _ (by rw [HZL.out]; exact hi), zget2 refs i (-1) _ HP.out.rl] at hcI
                  have hgl := hE9.hI.lt
                  have HE9 := Lib.hid hE9
                  clear hE9
                  go_wp2_with fail
                  go_roundw
                  case rel => exact ⟨i + 1, need, told, refs ++ [-1], A, n, c, hi, by go_num, by first | rfl | (congr 1; split <;> omega), HP.out.skip (by rw [HM.out]; exact hi) (by rw [HXY.out]; exact HFK.out), HE9.out⟩
                  case measure => simp [intOf]; omega
                -- ]]nomax
            ·
              -- [[nofit
              have d1 : decide ((S : Int) + (p : Int) ≤ (r : Int)) = false := decide_eq_false (by omega)
              have d1' : decide (S + p ≤ r) = false := decide_eq_false hfit
              rcases hE5 with rfl | rfl
              all_goals
                go_upto_region 20 with (fail)
                refine wp_region_quiet (C := fun w' => Below (w8).heap.size (w8) w') (by kernel_rfl) (by kernel_rfl) (Below.refl _ _).drew ?_
                repeat (
                  with_reducible refine wpQuiet_step ?_
                  intro K hK
                  go_simp
                  first
                    | (refine hK _ ?_; clear hK K)
                    | (apply Exists.intro
                       refine ⟨fun w' hw' => ?_, hK _ ?_⟩
                       first
                         | ((first | (go_at_call 27; exact (fUsed_any (r : Int) (put + told.length) A n c (R0 ++ told) HTV8.out.hn HTV8.out.hnc HTV8.out.hcm S HS.out (by omega) w' (HTV8.out.below hw').hr).mono (fun e w'' ⟨he, hb⟩ => ⟨he, hw'.trans (hb.mono hw'.size)⟩)) | (go_at_call 28; exact (tSize_any x y p HPS.out (by omega) w').mono (fun e w'' ⟨he, hb⟩ => ⟨he, hw'.trans (hb.mono hw'.size)⟩))))
                         | (have FF := HFA.out w' hw'; go_simp; done)
                         | (have FF := HFA.out w' hw'; go_simp; exact rfl)
                       clear hK K))
                
                refine wpQuiet_nil ?_
                intro wq hwq
                have hE9 := HE8.out.carry hwq
                clear hwq HFA
                go_upto_region 25 with (fail)
                have hfI := hE9.hI.frozen i
                have hcI := hE9.hI.cell i
                rw [i64s_at _ _ (by rw [HZL.out]; exact hi), zget2 refs i (-1) _ HP.out.rl] at hcI
                have hgl := hE9.hI.lt
                have HE9 := Lib.hid hE9
                clear hE9
                go_wp2_with fail
                go_roundw
                case rel => exact ⟨i + 1, need, told, refs ++ [-1], A, n, c, hi, by go_num, by first | rfl | (congr 1; split <;> omega), HP.out.skip (by rw [HM.out]; exact hi) (by rw [HXY.out]; exact HFK.out), HE9.out⟩
                case measure => simp [intOf]; omega
              -- ]]nofit
      -- ]]round
    · obtain rfl : i = m := by omega
      -- [[exit
      rename World => w8
      have hzs : refs ++ List.replicate (i - i) 0 = refs := by simp
      have hE := HE.out
      rw [hzs] at hE
      have HE2 := Lib.hid hE
      have hp := HP.out
      have hneed : (need : Int) ≤ 4611686018427387903 := by have := hp.nd; have := hp.fit; omega
      have hrl := hp.rl
      have hrng := hp.rng
      have HRL := Lib.hid hrl
      have HRNG := Lib.hid hrng
      clear hzs hE hp hrl hrng hi him HE
      obtain ⟨gO, hgO⟩ : ∃ q, w8.heap.size = q := ⟨_, rfl⟩
      have hgo : w.heap.size + 1 < gP ∧ gP < gI ∧ gI < gO := ⟨HE2.out.g1, HE2.out.g2, by have := HE2.out.hI.lt; omega⟩
      go_upto_region 28 with (fail)
      refine wp_world (fun w' => PenF w' gO gO [] ∧ Below gO w8 w') ⟨⟨none, 0, 0, rfl, Blk.newQ hgO, OwnB.nil _ _ _⟩, by rw [← hgO]; exact (Below.refl _ _).alloc (Nat.le_refl _) _⟩ ?_
      try rw [hgO]
      have HGO := Lib.hid hgO
      clear hgO
      rintro w9 ⟨hO9, hb9⟩
      have HO9 := Lib.hid hO9
      have HB9 := Lib.hid hb9
      clear hO9 hb9
      go_wp2_with fail
      refine (fpNumber_any gO gO [] 8 (by decide) (by decide) 0 (by decide) need hneed (by simp) _ (Nat.le_refl _) HO9.out).mono ?_
      rintro e w10 ⟨rfl, hO10, _, hb10⟩
      rw [List.nil_append] at hO10
      have HO10 := Lib.hid hO10
      have HB10 := Lib.hid (HB9.out.trans hb10)
      clear HO9 HB9 hO10 hb10
      go_wp2_with fail
      go_loopw [137] (fun s137 wl => ∃ (k : Nat), k ≤ i ∧ s137 = .int .i64 (k : Int) ∧ PenF wl gO gO (pEnc 8 0 need ++ linesB need ((fs.zip refs).take k)) ∧ Below gO w8 wl) (fun s137 _ => ((i : Int) - intOf s137).toNat)
      case atStart => exact ⟨0, Nat.zero_le _, rfl, by simpa [linesB] using HO10.out, HB10.out⟩
      case round =>
        obtain ⟨k, hk, rfl, hO, hB⟩ := hrel
        have HO := Lib.hid hO
        have HB := Lib.hid hB
        have hgl := hO.lt
        have hBS := hB.size
        clear hO hB HO10 HB10
        by_cases hki : k < i
        ·
          -- [[line
          have hi2 : k < fs.length := by rw [HM.out]; exact hki
          have hBw : Below w.heap.size w wr := HE2.out.hB.trans (HB.out.mono (by omega))
          obtain ⟨Lb, Lo, hL, hcell⟩ := (RdX.below HRD.out hBw).fcell (by omega)
          obtain ⟨c0, c1⟩ := hcell k hi2
          obtain ⟨x, y, hxy⟩ : ∃ x y, fs.getD k fnil = (x, y) := ⟨_, _, rfl⟩
          rw [hxy] at c0 c1
          dsimp only at c0 c1
          have HXY := Lib.hid hxy
          have hfok : FOk (x, y) := by have := HOK.out (fs.getD k fnil) (getD_inF _ _ _ hi2); rw [hxy] at this; exact this
          have HFK := Lib.hid hfok
          have htk := zipTake fs refs k hi2 (by rw [HRL.out]; exact hki)
          rw [hxy] at htk
          obtain ⟨ref, href⟩ : ∃ ref, refs.getD k 0 = ref := ⟨_, rfl⟩
          rw [href] at htk
          have HREF := Lib.hid href
          have HTK := Lib.hid htk
          have hrr := HRNG.out k hki
          rw [href] at hrr
          have hul : (pEnc 8 0 need ++ linesB need ((fs.zip refs).take k)).length ≤ 1000 := by
            have h1 := (pEnc_len 8 0 need).2
            have h2 := linesB_le need ((fs.zip refs).take k) (fun p hp => HOK.out _ (List.of_mem_zip (List.mem_of_mem_take hp)).1)
            have h3 : ((fs.zip refs).take k).length ≤ k := by rw [List.length_take]; omega
            rw [List.length_append]; omega
          obtain ⟨US, hUS⟩ : ∃ US, pEnc 8 0 need ++ linesB need ((fs.zip refs).take k) = US := ⟨_, rfl⟩
          rw [hUS] at hul
          have HUS := Lib.hid hUS
          have HUL := Lib.hid hul
          have hO := HO.out
          rw [hUS] at hO
          have HO2 := Lib.hid hO
          subst hL
          clear hxy hfok hcell hi2 href htk hul hUS hO HO
          go_upto_region 32 with (fail)
          obtain ⟨gF, hgF⟩ : ∃ q, wr.heap.size = q := ⟨_, rfl⟩
          refine wp_world (fun w' => Blk w' gF 47 #[.string x, .string y] ∧ PenF w' gO gO US ∧ Below gO w8 w') ⟨Blk.newQ hgF, HO2.out.carry ((Below.refl _ _).alloc (Nat.le_refl _) _), HB.out.alloc (by have := HGO.out; omega) _⟩ ?_
          try rw [hgF]
          have hgF2 : gO < gF := by omega
          rintro w11 ⟨hF11, hO11, hB11⟩
          have HF11 := Lib.hid hF11
          have HO11 := Lib.hid hO11
          have HB11 := Lib.hid hB11
          have FF := hF11.two
          clear c0 c1 hgF hF11 hO11 hB11 HB HO2 hBw hgl hBS
          obtain ⟨K, s, t, hK⟩ : ∃ K s t, knownR (x, y) = (K, s, t) := ⟨_, _, _, rfl⟩
          have HKN := Lib.hid hK
          clear hK
          go_wp2_with fail
          refine (fknown_any x y K s t HKN.out _).mono ?_
          rintro e w12 ⟨rfl, hb12⟩
          have HF12 := Lib.hid (HF11.out.carry hb12)
          have HO12 := Lib.hid (HO11.out.carry hb12)
          have HB12 := Lib.hid (HB11.out.trans (hb12.mono (by have := HO11.out.lt; omega)))
          have hcI := ((HE2.out.hI.below HB12.out (by omega)).cell k)
          rw [i64s_at _ _ (by rw [HRL.out]; exact hki), HREF.out] at hcI
          have FF2 := HF12.out.two
          clear FF HF11 HO11 HB11 hb12
          cases s with
          | true =>
            -- [[lsame
            obtain ⟨k1, k2⟩ := known_same HKN.out
            go_wp2_with fail
            refine (fpNumber_any gO gO US 6 (by decide) (by decide) 192 (by decide) K (by omega) (by have := HUL.out; omega) _ (Nat.le_refl _) HO12.out).mono ?_
            rintro e w13 ⟨rfl, hO13, _, hb13⟩
            have HO13 := Lib.hid hO13
            have HB13 := Lib.hid (HB12.out.trans hb13)
            clear HF12 HO12 HB12 FF2 hcI hO13 hb13
            go_wp2_with fail
            go_roundw
            case rel =>
              refine ⟨k + 1, hki, by go_num, ?_, HB13.out⟩
              have h := HO13.out
              rw [HTK.out, linesB_snoc, ← List.append_assoc, HUS.out, lineB_same HKN.out]
              exact h
            case measure => simp [intOf]; omega
            -- ]]lsame
          | false =>
            by_cases h0 : 0 ≤ ref
            ·
              -- [[lref
              obtain ⟨R, rfl⟩ := Int.eq_ofNat_of_zero_le h0
              obtain ⟨D, hD⟩ : ∃ D : Nat, need - 1 - R = D := ⟨_, rfl⟩
              have hD2 : (need : Int) - 1 - (R : Int) = (D : Int) := by omega
              have HD := Lib.hid hD
              clear hD
              go_upto_region 38 with (fail)
              go_wp2_with fail
              refine (fpNumber_any gO gO US 6 (by decide) (by decide) 128 (by decide) D (by omega) (by have := HUL.out; omega) _ (Nat.le_refl _) HO12.out).mono ?_
              rintro e w13 ⟨rfl, hO13, _, hb13⟩
              have HO13 := Lib.hid hO13
              have HB13 := Lib.hid (HB12.out.trans hb13)
              clear HF12 HO12 HB12 FF2 hcI hO13 hb13
              go_wp2_with fail
              go_roundw
              case rel =>
                refine ⟨k + 1, hki, by go_num, ?_, HB13.out⟩
                have h := HO13.out
                rw [HTK.out, linesB_snoc, ← List.append_assoc, HUS.out, lineB_ref HKN.out, HD.out]
                exact h
              case measure => simp [intOf]; omega
              -- ]]lref
            · have d0 : decide (0 ≤ ref) = false := decide_eq_false h0
              cases t with
              | true =>
                -- [[lname
                obtain ⟨k1, k2⟩ := known_there HKN.out
                go_wp2_with fail
                refine (fpNumber_any gO gO US 4 (by decide) (by decide) 64 (by decide) K (by omega) (by have := HUL.out; omega) _ (Nat.le_refl _) HO12.out).mono ?_
                rintro e w13 ⟨rfl, hO13, hk13, hb13⟩
                have HF13 := Lib.hid (hk13 _ _ _ (by omega) (by decide) HF12.out)
                have HO13 := Lib.hid hO13
                have HB13 := Lib.hid (HB12.out.trans hb13)
                have hl1 : (US ++ pEnc 4 64 K).length ≤ 20000 := by
                  have h1 := HUL.out
                  have h2 := (pEnc_len 4 64 K).2
                  rw [List.length_append]; omega
                have HL1 := Lib.hid hl1
                have FF := HF13.out.two
                clear HF12 HO12 HB12 FF2 hcI hO13 hb13 hk13 hl1
                go_wp2_with fail
                refine (fpText_any gO gO _ 7 (by decide) (by decide) 0 (by decide) y (by have h : y.size ≤ 40 := HFK.out.2.2; omega) HL1.out _ (Nat.le_refl _) HO13.out).mono ?_
                rintro e w14 ⟨rfl, hO14, _, hb14⟩
                have HO14 := Lib.hid hO14
                have HB14 := Lib.hid (HB13.out.trans hb14)
                clear HF13 HO13 HB13 FF hO14 hb14 HL1
                go_wp2_with fail
                go_roundw
                case rel =>
                  refine ⟨k + 1, hki, by go_num, ?_, HB14.out⟩
                  have h := HO14.out
                  rw [HTK.out, linesB_snoc, ← List.append_assoc, HUS.out, lineB_name (by omega) HKN.out, ← List.append_assoc]
                  exact h
                case measure => simp [intOf]; omega
                -- ]]lname
              | false =>
                -- [[lplain
                go_wp2_with fail
                refine (fpText_any gO gO US 3 (by decide) (by decide) 32 (by decide) x (by have h : x.size ≤ 20 := HFK.out.2.1; omega) (by have := HUL.out; omega) _ (Nat.le_refl _) HO12.out).mono ?_
                rintro e w13 ⟨rfl, hO13, hk13, hb13⟩
                have HF13 := Lib.hid (hk13 _ _ _ (by omega) (by decide) HF12.out)
                have HO13 := Lib.hid hO13
                have HB13 := Lib.hid (HB12.out.trans hb13)
                have hl1 : (US ++ (pEnc 3 32 x.size ++ bts x)).length ≤ 20000 := by
                  have h1 := HUL.out
                  have h2 := (pEnc_len 3 32 x.size).2
                  have h : x.size ≤ 20 := HFK.out.2.1
                  rw [List.length_append, List.length_append, bts_len]; omega
                have HL1 := Lib.hid hl1
                have FF := HF13.out.two
                clear HF12 HO12 HB12 FF2 hcI hO13 hb13 hk13 hl1
                go_wp2_with fail
                refine (fpText_any gO gO _ 7 (by decide) (by decide) 0 (by decide) y (by have h : y.size ≤ 40 := HFK.out.2.2; omega) HL1.out _ (Nat.le_refl _) HO13.out).mono ?_
                rintro e w14 ⟨rfl, hO14, _, hb14⟩
                have HO14 := Lib.hid hO14
                have HB14 := Lib.hid (HB13.out.trans hb14)
                clear HF13 HO13 HB13 FF hO14 hb14 HL1
                go_wp2_with fail
                go_roundw
                case rel =>
                  refine ⟨k + 1, hki, by go_num, ?_, HB14.out⟩
                  have h := HO14.out
                  rw [HTK.out, linesB_snoc, ← List.append_assoc, HUS.out, lineB_plain (by omega) HKN.out, ← List.append_assoc]
                  exact h
                case measure => simp [intOf]; omega
                -- ]]lplain
          -- ]]line
        ·
          -- [[fin
          obtain rfl : i = k := by omega
          have hzt : (fs.zip refs).take i = fs.zip refs := List.take_of_length_le (by rw [List.length_zip, HM.out, HRL.out]; omega)
          have hO := HO.out
          rw [hzt] at hO
          have HOz : Hid (PenF wr gO gO (secB need (fs.zip refs))) := Lib.hid hO
          have HTV := Lib.hid ((HE2.out.tab HP.out HV.out).below (w' := wr) (by rw [HGO.out]; exact HB.out))
          have HEz := Lib.hid (HE2.out.carry (w' := wr) (by rw [HGO.out]; exact HB.out))
          clear hzt hO HO HB HE2 hgl hBS hki
          go_upto_region 43 with (fail)
          obtain ⟨A6, n6, c6, hn6, hG6, hO6⟩ := HOz.out
          obtain ⟨A7, n7, c7, hn7, hG7, hO7⟩ := HEz.out.hP
          have FT := HEz.out.hT.facts3
          have cP := hG7.two1
          have cG := hG6.two1
          have FZ := HEz.out.hZ.facts3
          have hcap := hO6.cap
          rw [hn6] at hcap
          have hcap7 := hO7.cap
          rw [hn7] at hcap7
          unfold maxLen at hcap hcap7
          have hne : w.heap.size ≠ w.heap.size + 1 ∧ w.heap.size + 1 ≠ w.heap.size ∧ gP ≠ w.heap.size + 1 ∧ w.heap.size + 1 ≠ gP ∧ gO ≠ w.heap.size + 1 ∧ w.heap.size + 1 ≠ gO := ⟨by omega, by omega, by omega, by omega, by omega, by omega⟩
          have HO6 := Lib.hid hO6
          have HO7 := Lib.hid hO7
          clear hO6 hO7
          go_region_held3 (fun w' => w'.cell? ⟨w.heap.size, 0, none⟩ = some (.int .i64 (r : Int)) ∧ w'.cell? ⟨w.heap.size, 1, none⟩ = some (.int .i64 (put + told.length)) ∧ w'.cell? ⟨w.heap.size, 2, none⟩ = some (.slice A n c) ∧ w'.cell? ⟨gP, 0, none⟩ = some (.slice A7 n7 c7) ∧ w'.cell? ⟨gO, 0, none⟩ = some (.slice A6 n6 c6)) (go_keep) (fail)
          all_goals
            clear hne
            go_wp2_with fail
            have hq : EncP r put R0 ah fs fs.length told refs need := by rw [HM.out]; exact HP.out
            refine bodyPost_ret (v := .tuple #[.agg #[.int .i64 (r : Int), .int .i64 (put + told.length), .slice A n c], .slice A7 n7 c7, .slice A6 n6 c6, .int .i64 0]) ?_ rfl ⟨A, n, c, A7, n7, c7, A6, n6, c6, told, need, fs.zip refs, rfl, hq.q, ?_, ⟨hn7, hcap7.1, by omega, ?_⟩, ⟨hn6, hcap.1, by omega, ?_⟩, ?_⟩
            · simp [results, Try.results17, go_sem, FZ] <;> rfl
            · have h := HTV.out
              refine ⟨h.hn, h.hnc, h.hcm, h.h0, h.h1, h.h2, h.h3, h.hf, h.hs, ?_⟩
              exact Rd.drew (KeepO.set3 HEz.out.hZ (by decide) _ _ _ _ _ _ _ HEz.out.hR).rd
            · refine OwnB.rd (base := gP) (E := 5) (c := c7) ?_
              have h := HO7.out
              unfold OwnB at h ⊢
              (repeat (first | with_reducible exact h | with_reducible refine World.ownsRow.drew ?_ | (with_reducible refine ownsRow_setCell_below ?_ ?side _; case side => (first | omega | (simp; omega) | (simp; done))) | with_reducible refine World.ownsRow.alloc ?_ _))
            · refine OwnB.rd (base := gO) (E := 5) (c := c6) ?_
              have h := HO6.out
              unfold OwnB at h ⊢
              (repeat (first | with_reducible exact h | with_reducible refine World.ownsRow.drew ?_ | (with_reducible refine ownsRow_setCell_below ?_ ?side _; case side => (first | omega | (simp; omega) | (simp; done))) | with_reducible refine World.ownsRow.alloc ?_ _))
            · have h := HEz.out.hB
              (repeat (first | with_reducible exact h | with_reducible refine Below.drew ?_ | (with_reducible refine Below.set4 ?_ ?side _ _ _ _; case side => (first | omega | (simp; omega) | (simp; done))) | (with_reducible refine Below.setCell ?_ ?side _; case side => (first | omega | (simp; omega) | (simp; done))) | (with_reducible refine Below.alloc ?_ ?side _; case side => (first | omega | (simp; omega) | (simp; done)))))
          -- ]]fin
      -- ]]exit
end Go.Proofs.Ytihngonemdaihaa
