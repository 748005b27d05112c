/- The walk of the law PacketBack. -/
import Derived.Test.YtbcagdjfegobnaaGreatC32
import Derived.Test.YtbcagdjfegobnaaGreatC33
import Derived.Test.YtbcagdjfegobnaaGreatC42
import Derived.Test.YtbcagdjfegobnaaGreatC19
namespace Go.Proofs.YtbcagdjfegobnaaGreat
open Go.ChangeShapes Go.WideShapes Go.ChangeAt Go.RowKit
set_option linter.unusedVariables false

/-- Behind i rounds: the frames. -/
def PMid (w wr : World) (i : Nat) (Ao : Option Addr) (co : Nat) (xs : List FrM) : Prop :=
  FrRow wr w.heap.size Ao co xs ∧ (∀ x ∈ xs, FrOk x.f ∧ (fenc x.f).length ≤ 72) ∧ xs.length = i ∧ Below w.heap.size w wr
theorem PMid.below {w wr w' : World} {i : Nat} {Ao : Option Addr} {co : Nat} {xs : List FrM} (h : PMid w wr i Ao co xs) (hb : Below wr.heap.size wr w') : PMid w w' i Ao co xs := by
  obtain ⟨h1, h2, h3, h7⟩ := h
  exact ⟨h1.below hb, h2, h3, h7.trans (hb.mono h7.size)⟩
theorem set_sameP (l : List UInt8) (j : Nat) : l.set j (l.getD j 0) = l := by
  apply List.ext_getElem
  · simp
  · intro i h1 h2
    simp only [List.getElem_set]
    split
    · rename_i h; subst h; simp [List.getD, h2]
    · rfl
theorem xor_zeroP (b : UInt8) : bits .xor .u8 (b.toNat : Int) 0 = (b.toNat : Int) := by
  have := u8_xor_nat b.toNat 0 b.toNat_lt (by decide)
  simpa using this

set_option maxRecDepth 100000 in
set_option maxHeartbeats 8000000 in
theorem packetBack_walk (key n : Int) (A : Option Addr) (len cap : Nat) (rs : List RawD) (at_ by_ : Int) (w : World) (hk : (Lit.int .i64 key).wf = true) (hn : (Lit.int .i64 n).wf = true) (h : IsRaws w A len cap rs) (hat : (Lit.int .i64 at_).wf = true) (hby : (Lit.int .u8 by_).wf = true) :
    Calls Tryz.prog 7 #[.int .i64 key, .int .i64 n, .slice A len cap, .int .i64 at_, .int .u8 by_] w fun e w' => e = .returned (.bool true) ∧ Below w.heap.size w w' := by
  have hlc := h.2.2.1
  have hcm := h.2.2.2.1
  unfold maxLen at hcm
  obtain ⟨k, hk5⟩ : ∃ k : Nat, min (len : Int) 5 = k := ⟨(min (len : Int) 5).toNat, by omega⟩
  have hk55 : k ≤ 5 := by omega
  have hkl : k ≤ len := by omega
  have HK := Lib.hid (some_any A len cap k 5 hlc hcm (by decide) (by decide) hk5)
  have HRS := Lib.hid (h.front k hkl)
  have rk := wrap_range key
  obtain ⟨n0, n1⟩ := i64_bounds hn
  have bt := i64_bounds hat
  obtain ⟨m, HM, hm⟩ := mod_nat n 1099511627776 (by decide)
  have hm : m < 1099511627776 := by omega
  clear h hk5 hk hn hat hby
  go_enter Tryz.func7, Tryz.ntmps7
  -- [[s1
  go_wp2_with fail
  refine (picked_at n 1099511627776 m n0 n1 (by decide) (by decide) HM _).mono ?_
  rintro e w' ⟨rfl, rfl⟩
  clear HM n0 n1
  go_wp2_with fail
  refine (HK.out _).mono ?_
  rintro e w' ⟨rfl, rfl⟩
  generalize rs.take k = rs' at *
  clear HK
  go_wp2_with fail
  go_loopw [12, 32] (fun s3 iv wr => ∃ (i : Nat) (Ao : Option Addr) (co : Nat) (xs : List FrM), i ≤ k ∧ iv = .int .i64 (i : Int) ∧ s3 = .slice Ao i co ∧ PMid w wr i Ao co xs) (fun _ iv _ => k - (intOf iv).toNat)
  case atStart => exact ⟨0, none, 0, [], Nat.zero_le _, rfl, rfl, FrRow.nil _ _, fun x hx => absurd hx List.not_mem_nil, rfl, Below.refl _ _⟩
  case round =>
    obtain ⟨i, Ao, co, xs, hi, rfl, rfl, hM⟩ := hrel
    have HM := Lib.hid hM
    have hbw := hM.2.2.2
    clear hM
    by_cases hlt : i < k
    -- [[s2
    · obtain ⟨b, off, rfl, hcell⟩ := (HRS.out.keep hbw).at_ (by omega)
      obtain ⟨c0, c1, c2, c3⟩ := hcell i hlt
      have hro := HRS.out.2.2.2.2 i hlt
      generalize rs'.getD i rawNone = r at *
      obtain ⟨f, okf, cf⟩ := frameOf_small r hro
      have CF := Lib.hid cf
      have OK := Lib.hid okf
      unfold rawV at CF
      have hi0 : (0 : Int) ≤ (i : Int) := by omega
      have hik : (i : Int) < (k : Int) := by omega
      clear cf okf hro hcell hbw
      go_upto_region 6 with (fail)
      refine wp_world (fun w' => Blk w' wr.heap.size 59 #[.int .i64 r.kind, .int .i64 r.a, .int .i64 r.b, .string r.text] ∧ PMid w w' i Ao co xs) ⟨Blk.new _ _ _, HM.out.below ((Below.refl _ _).alloc (Nat.le_refl _) _)⟩ ?_
      generalize wr.heap.size = g1 at *
      clear c0 c1 c2 c3 HM
      rintro w1 ⟨hR, hM⟩
      have FR := hR.facts4
      have HM := Lib.hid hM
      clear hR hM
      -- [[s3
      go_wp2_with fail
      refine (CF.out _).mono ?_
      rintro e w4 ⟨A4, c4, B4, d4, rfl, hA4, hB4, hc4, hcm4, hd4, hdm4, hb4, hiA, hiB⟩
      have hM4 := HM.out.below hb4
      have hltA := fun q hq => (HM.out.1.1.lt (n := i) q (by rw [blk_of]; exact hq)).2
      have HX := Lib.hid (show FrX w4 ⟨f, A4, c4, B4, d4⟩ from ⟨hA4, hB4, hc4, hcm4, hd4, hdm4⟩)
      have HIA := Lib.hid (InOff.fresh hiA hltA)
      have HIB := Lib.hid (InOff.fresh hiB hltA)
      have HM4 := Lib.hid hM4
      clear hM4 hltA hA4 hB4 hc4 hcm4 hd4 hdm4 hb4 hiA hiB HM FR CF
      simp only [frcells]
      have hal : ∀ o, Below w4.heap.size w4 (w4.alloc o) := fun o => (Below.refl _ _).alloc (Nat.le_refl _) _
      have HAL := Lib.hid hal
      have hz4 := HM4.out.2.2.2.size
      clear hal
      go_wp2_with (first
        | (at_builtin
           refine wpList_addN fmc 7 88 fmc_len fmc_one rfl (.tmp 36) (.tmp 39) _ rfl 68 _ Tryz.underlying41 frInfo rfl (by decide) (by decide) w.heap.size Ao i co xs HM4.out.2.2.1 rfl (HM4.out.1.1.alloc _) ⟨f, A4, c4, B4, d4⟩ w4.heap.size 1 rfl (Rd.new _ _ _ 7 rfl) (i + 1) rfl (by omega) (by simp; omega) ?_
           intro g6 c6 w6 hO6 hc6 hm6 hb6 hg6 hl6 hz6
           have hrow6 := (HM4.out.1.below (HAL.out _)).snoc (HX.out.below (HAL.out _)) (HIA.out.keep (HAL.out _).size) (HIB.out.keep (HAL.out _).size) hO6 hg6 hl6 hb6.size))
      go_roundw
      case rel =>
        refine ⟨i + 1, some ⟨g6, 0, none⟩, c6, xs ++ [⟨f, A4, c4, B4, d4⟩], by omega, by first | (go_num; done) | rfl, rfl, hrow6, fun x hx => ?_, by rw [List.length_append, HM4.out.2.2.1]; rfl, ?_⟩
        · rcases List.mem_append.1 hx with h1 | h1
          · exact HM4.out.2.1 x h1
          · rw [List.mem_singleton.1 h1]; exact OK.out
        · have h := HM4.out.2.2.2
          exact (h.trans ((HAL.out _).mono h.size)).trans hb6
      case measure => first | (simp [intOf]; done) | (simp [intOf]; omega)
      -- ]]s3
    -- ]]s2
    -- [[t1
    · obtain rfl : i = k := by omega
      clear hbw hlt hlc hkl HRS
      have hcap := HM.out.1.1.cap
      rw [HM.out.2.2.1] at hcap
      have hkk : ((i : Int) < (i : Int)) = False := by simp
      go_wp2_with fail
      refine (short_any (IntKind.u64.wrap key) rk.1 rk.2 m hm Ao i co xs HM.out.2.2.1 hk55 hcap.1 (by have := hcap.2; unfold maxLen at this; omega) HM.out.2.1 _ HM.out.1.rd).mono ?_
      rintro e w2 ⟨A2, k2, c2, rfl, hl2, h11, h400, hO2, hb2⟩
      have HM2 := Lib.hid (HM.out.below hb2)
      have hcap2 := hO2.cap
      rw [hl2] at hcap2
      have hc2m : c2 ≤ 9223372036854775807 := by have := hcap2.2; unfold maxLen at this; omega
      have hc2 := hcap2.1
      have HPD := Lib.hid (pksB_dec (IntKind.u64.wrap key) m (xs.map (·.f)))
      have HPU := Lib.hid (pksB_unpack (IntKind.u64.wrap key) m hm (xs.map (·.f)) (fun f hf => by obtain ⟨x, hx, rfl⟩ := List.mem_map.1 hf; exact (HM2.out.2.1 x hx).1) (by rw [List.length_map, HM2.out.2.2.1]; exact hk55))
      generalize pksB (IntKind.u64.wrap key) m (xs.map (·.f)) = bs at *
      have HL2 := Lib.hid hl2
      have HR2 := Lib.hid hO2.rd
      clear HM hcap hcap2 hO2 hb2 hl2
      -- [[t2
      go_wp2_with fail
      have HDE := hDec_any A2 bs k2 c2 w2 HL2.out HR2.out hc2 hc2m
      rw [HPD.out] at HDE
      refine HDE.mono ?_
      rintro e w3 ⟨T, d, rfl, _, _, _, hb3⟩
      have HM3 := Lib.hid (HM2.out.below hb3)
      have HR3 := Lib.hid (HR2.out.below hb3)
      have hs3 := hb3.size
      clear hb3 HDE HPD HM2 HR2
      -- [[t3
      go_upto_region 10 with (first
        | (refine wpList_storeP rfl 61 (.tmp 17) (.tmp 56) rfl w3.heap.size 0 rfl (hcells ⟨2, 9, 0, [], m % 256 ^ 1, 1⟩ T d) rfl 61 _ (Blk.new _ _ _) (by kernel_rfl) (by simp [hcells]) (hcells_one _ _ _) _ (splice_all _ _ (by simp [hcells])) ?_
           intro w4 hBw4 hw4))
      have hb4 : Below w3.heap.size w3 w4 := hw4.trans_below ((Below.refl _ _).alloc (Nat.le_refl _) _) (Nat.le_refl _)
      obtain ⟨qh, hqh⟩ : ∃ q, w3.heap.size = q := ⟨_, rfl⟩
      refine wp_world (fun w' => Blk w' qh 61 (hcells ⟨2, 9, 0, [], m % 256 ^ 1, 1⟩ T d) ∧ PMid w w' i Ao co xs ∧ RdB w' A2 bs) ⟨by rw [← hqh]; exact hBw4, HM3.out.below hb4, HR3.out.below hb4⟩ ?_
      rw [hqh]
      clear hqh hb4 hw4 hBw4 HM3 HR3 hs3
      rintro w5 ⟨hQ, hM, hR⟩
      have HQ := Lib.hid hQ
      have HM5 := Lib.hid hM
      have HR5 := Lib.hid hR
      clear hQ hM hR
      -- [[t4
      go_wp2_with (refine wpList_loadR rfl 61 (.tmp 17) rfl qh 0 rfl (hcells ⟨2, 9, 0, [], m % 256 ^ 1, 1⟩ T d) _ Tryz.underlying61 rfl (by kernel_rfl) HQ.out.whole ?_)
      have HUN := unp_any (IntKind.u64.wrap key) rk.1 rk.2 m hm T d A2 k2 c2 bs HL2.out h11 h400 hc2 hc2m w5 HR5.out
      rw [HPU.out] at HUN
      refine HUN.mono ?_
      rintro e w6 ⟨A6, k6, c6, ys, rfl, hyf, hyl, hrow, hb6⟩
      have hyi : k6 = i := by
        have h := congrArg List.length (show ys.map (·.f) = xs.map (·.f) from hyf)
        rw [List.length_map, List.length_map, hyl, HM5.out.2.2.1] at h
        exact h
      subst hyi
      have HM6 := Lib.hid (HM5.out.below hb6)
      have HR6 := Lib.hid (HR5.out.below hb6)
      have HQ6 := Lib.hid (HQ.out.carry hb6)
      have HSF := Lib.hid (sameFrames_eq A6 Ao k6 c6 co ys xs hyl HM6.out.2.2.1 (by omega) hyf (fun x hx => by
          have : x.f ∈ xs.map (·.f) := by
            have h : ys.map (·.f) = xs.map (·.f) := hyf
            rw [← h]; exact List.mem_map_of_mem hx
          obtain ⟨y, hy, e⟩ := List.mem_map.1 this
          have := (HM6.out.2.1 y hy).1.many
          rw [← e]; omega) w6 hrow.rd HM6.out.1.rd)
      have hk3 : ((k2 : Int) ≤ 3) = False := by simp; omega
      clear HM5 HR5 HQ hb6 hyf hyl hrow HUN
      -- [[t5
      go_wp2_with fail
      refine HSF.out.mono ?_
      rintro e w7 ⟨rfl, hb7⟩
      have HM7 := Lib.hid (HM6.out.below hb7)
      have HR7 := Lib.hid (HR6.out.below hb7)
      have HQ7 := Lib.hid (HQ6.out.carry hb7)
      have hgb : Below w7.heap.size w7 (w7.alloc (.cells #[] 5)) := (Below.refl _ _).alloc (Nat.le_refl _) _
      have HGB := Lib.hid hgb
      clear HM6 HR6 HQ6 HSF hb7 hgb
      -- [[t6
      go_wp2_with (first
        | (at_builtin; refine wpList_appB _ rfl (.tmp 98) (.tmp 99) _ rfl w7.heap.size 5 Tryz.underlying30 u8_info (some ⟨w7.heap.size, 0, none⟩) 0 0 [] rfl rfl (OwnB.made w7 _ _ (Nat.le_refl _)) A2 k2 c2 bs rfl HL2.out (HR7.out.below HGB.out) bs rfl k2 (by omega) (by omega) (by simp) ?_
           intro A8 c8 w8 hO8 hc8 hm8 hb8))
      have hb78 : Below w7.heap.size w7 w8 := HGB.out.trans hb8
      have HM8 := Lib.hid (HM7.out.below hb78)
      have HQ8 := Lib.hid (HQ7.out.carry hb78)
      have HB78 := Lib.hid hb78
      have hq8 : qh < w7.heap.size := HQ7.out.lt
      obtain ⟨g, rfl, hg, hgl, hcell, hfro, hset⟩ := hO8.opened (by rw [HL2.out]; omega)
      have HC := Lib.hid hcell
      have HF := Lib.hid hfro
      have HS := Lib.hid hset
      clear hcell hfro hset hO8 HR7 HGB hb8 hb78
      refine (picked_ex at_ ((k2 : Int) - 3) bt.1 bt.2 (by omega) (by omega) _).mono ?_
      rintro e w' ⟨j0, j1, j2, rfl, rfl⟩
      obtain ⟨j', rfl⟩ : ∃ j' : Nat, j0 = j' := ⟨j0.toNat, by omega⟩
      have hsum : IntKind.i64.wrap ((3 : Int) + (j' : Int)) = ((3 + j' : Nat) : Int) := by rw [IntKind.wrap_i64]; omega
      obtain ⟨j, hj⟩ : ∃ j : Nat, 3 + j' = j := ⟨_, rfl⟩
      rw [hj] at hsum
      have hjk : j < k2 := by omega
      have hcj := HC.out j (by rw [HL2.out]; exact hjk)
      have hf := HF.out j
      have HSAME := Lib.hid (set_sameP bs j)
      have HSJ : Hid (∀ b, OwnB (w8.setCell ⟨g, j, none⟩ (.int .u8 (b.toNat : Int))) w7.heap.size 5 (some ⟨g, 0, none⟩) c8 (bs.set j b)) := HS.out j
      have hl' : ∀ b, (bs.set j b).length = k2 := fun b => by rw [List.length_set, HL2.out]
      have HL' := Lib.hid hl'
      generalize (bs.getD j 0) = b0 at *
      obtain ⟨b, hb⟩ := xor_byte (b0.toNat : Int) by_
      have HZ : Hid (by_ = 0 → bs.set j b = bs) := by
        intro h0
        rw [h0, xor_zeroP] at hb
        have : b = b0 := by apply UInt8.toNat_inj.1; omega
        rw [this]; exact HSAME.out
      have hj0 : (0 : Int) ≤ (j : Int) := by omega
      have hjk' : (j : Int) < (k2 : Int) := by omega
      clear HC HF HS hl' j1 j2 hj
      -- [[t7
      have hms : IntKind.i64.wrap ((m : Int) - 1) = (m : Int) - 1 := by rw [IntKind.wrap_i64]; omega
      clear hi hkk bt
      go_simp
      refine (show ∀ (a : Act) (w : World), wpList _ _ _ _ a w → _ from by assumption) _ _ ?_
      refine lval (some 109) (.int .i64 (j : Int)) w8 rfl rfl (by rw [← hsum]; kernel_rfl) ?_
      refine lidx (some 110) 30 (.tmp 101) (.tmp 109) g 0 k2 c8 .i64 (j : Int) 1 j rfl rfl rfl (by kernel_rfl) (by kernel_rfl) Tryz.underlying30 (by kernel_rfl) hj0 hjk' (by simp) ?_
      refine lload (some 111) (.int .u8 (b0.toNat : Int)) 5 (.tmp 110) g j _ rfl rfl rfl (by kernel_rfl) Tryz.underlying5 rfl hcj ?_
      refine lval (some 112) (.int .u8 by_) w8 rfl rfl (by kernel_rfl) ?_
      refine lval (some 113) (.int .u8 (b.toNat : Int)) w8 rfl rfl (by rw [← hb]; kernel_rfl) ?_
      refine lidx (some 114) 30 (.tmp 101) (.tmp 109) g 0 k2 c8 .i64 (j : Int) 1 j rfl rfl rfl (by kernel_rfl) (by kernel_rfl) Tryz.underlying30 (by kernel_rfl) hj0 hjk' (by simp) ?_
      refine lset 5 (.tmp 114) (.tmp 113) g j (.int .u8 (b.toNat : Int)) (.int .u8 (b0.toNat : Int)) _ rfl rfl rfl (by kernel_rfl) (by kernel_rfl) Tryz.underlying5 rfl hcj hf rfl (by kernel_rfl) rfl ?_
      refine wpList_nil ?_
      refine (show ∀ (a : Act) (w : World), Code.wp _ _ _ a w → _ from by assumption) _ _ ?_
      obtain ⟨bs2, hbs2⟩ : ∃ l, bs.set j b = l := ⟨_, rfl⟩
      have HO9 := Lib.hid (HSJ.out b)
      have HL9 := Lib.hid (HL'.out b)
      have HZ9 := HZ
      rw [hbs2] at HO9 HL9 HZ9
      have hb9 : Below w7.heap.size w7 (w8.setCell ⟨g, j, none⟩ (.int .u8 (b.toNat : Int))) := HB78.out.setCell (by exact hg) _
      refine wp_world (fun w' => PMid w w' k6 Ao co xs ∧ Blk w' qh 61 (hcells ⟨2, 9, 0, [], m % 256 ^ 1, 1⟩ T d) ∧ RdB w' (some ⟨g, 0, none⟩) bs2) ⟨HM7.out.below hb9, HQ7.out.carry hb9, HO9.out.rd⟩ ?_
      rintro w9 ⟨hM9, hQ9, hR9⟩
      clear hbs2 HO9 hb9 hcj hf hb hj0 hjk' HSJ HL' HSAME HZ hsum
      refine wp_seq_k ?_
      intro K15 hK15
      refine wp_region_lit ?_
      refine lval (some 116) (.int .i64 key) w9 rfl rfl (by kernel_rfl) ?_
      refine lval (some 117) (.int .u64 (IntKind.u64.wrap key)) w9 rfl rfl (by kernel_rfl) ?_
      refine wpList_loadR (by kernel_rfl) 61 (.tmp 17) (by kernel_rfl) qh 0 (by kernel_rfl) (hcells ⟨2, 9, 0, [], m % 256 ^ 1, 1⟩ T d) _ Tryz.underlying61 rfl (by kernel_rfl) hQ9.whole ?_
      refine lval (some 119) (.int .i64 3) w9 rfl rfl (by kernel_rfl) ?_
      refine lval (some 120) (.int .i64 (m : Int)) w9 rfl rfl (by kernel_rfl) ?_
      refine lval (some 121) (.int .i64 ((m : Int) - 1)) w9 rfl rfl (by rw [← hms]; kernel_rfl) ?_
      refine lval (some 122) (.slice (some ⟨g, 0, none⟩) k2 c8) w9 rfl rfl (by kernel_rfl) ?_
      refine lcall (some 123) 32 #[.int .u64 (IntKind.u64.wrap key), .agg (hcells ⟨2, 9, 0, [], m % 256 ^ 1, 1⟩ T d), .int .i64 3, .int .i64 ((m : Int) - 1), .slice (some ⟨g, 0, none⟩) k2 c8] rfl rfl (by kernel_rfl) ?_
      refine (unp_any (IntKind.u64.wrap key) rk.1 rk.2 m hm T d (some ⟨g, 0, none⟩) k2 c8 bs2 HL9.out h11 h400 hc8 hm8 w9 hR9).mono ?_
      rintro e w10 ⟨A10, k10, c10, zs, rfl, _, _, _, hb10⟩
      have HU0 : Hid (by_ = 0 → (unpackF (IntKind.u64.wrap key) 1 (m % 256 ^ 1) 3 ((m : Int) - 1) bs2).2.2 = 0) := fun h0 => by rw [HZ9.out h0, HPU.out]
      generalize unpackF (IntKind.u64.wrap key) 1 (m % 256 ^ 1) 3 ((m : Int) - 1) bs2 = U at *
      obtain ⟨U1, U2, U3⟩ := U
      refine ⟨_, rfl, ?_⟩
      refine lval (some 115) (.tuple #[.int .i64 U1, .slice A10 k10 c10, .int .i64 U3]) w10 rfl rfl (by kernel_rfl) ?_
      refine lval (some 124) (.int .i64 U1) w10 rfl rfl (by kernel_rfl) ?_
      refine lval (some 125) (.slice A10 k10 c10) w10 rfl rfl (by kernel_rfl) ?_
      refine lval (some 126) (.int .i64 U3) w10 rfl rfl (by kernel_rfl) ?_
      refine lval (some 24) (.int .i64 U1) w10 rfl rfl (by kernel_rfl) ?_
      refine lval (some 25) (.slice A10 k10 c10) w10 rfl rfl (by kernel_rfl) ?_
      refine lval (some 26) (.int .i64 U3) w10 rfl rfl (by kernel_rfl) ?_
      refine wpList_nil (hK15 _ _ ?_)
      have hb := hM9.2.2.2.trans (hb10.mono hM9.2.2.2.size)
      clear hM9 hQ9 hR9 hb10 HM7 HQ7 HM8 HQ8 HB78 hms HL9 HZ9 HPU HL2
      refine wp_world (fun w' => Below w.heap.size w w') hb ?_
      clear hb
      rintro w11 hb
      have HB11 := Lib.hid hb
      clear hb
      go_wp2_with fail
      refine (gateTells_ok _).mono ?_
      rintro e w12 ⟨rfl, hb12⟩
      have HB12 := Lib.hid (HB11.out.trans (hb12.mono HB11.out.size))
      clear hb12
      by_cases h0 : by_ = 0
      · obtain rfl : U3 = 0 := HU0.out h0
        subst h0
        go_wp2_with fail
        go_ret
        exact ⟨rfl, HB12.out⟩
      · go_wp2_with fail
        go_ret
        exact ⟨rfl, HB12.out⟩
      -- ]]t7
      -- ]]t6
      -- ]]t5
      -- ]]t4
      -- ]]t3
      -- ]]t2
    -- ]]t1
  -- ]]s1
end Go.Proofs.YtbcagdjfegobnaaGreat
