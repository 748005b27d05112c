/- Texts of the proof, laid together: FrameEncWalk. -/
import Derived.Test.YtbcagdjfegobnaaGreatC17
import Derived.Deep.RegionHeld3
import Derived.StillTailTactics
import Derived.Deep.RegionLaw
/- The contract of frame.Encode. -/
namespace Go.Proofs.YtbcagdjfegobnaaGreat
open Go.ChangeShapes Go.WideShapes Go.ChangeAt Go.RowKit
set_option linter.unusedVariables false

theorem beB_snocF (us : List UInt8) (s m r : Nat) (h1 : r + 1 ≤ s) : (us ++ (beB s m).take (s - (r + 1))) ++ [UInt8.ofNat (m / 256 ^ r)] = us ++ (beB s m).take (s - r) := by
  rw [List.append_assoc]
  congr 1
  have hl := beB_length s m
  rw [show s - r = (s - (r + 1)) + 1 from by omega, List.take_succ_eq_append_getElem (by omega)]
  congr 1
  have := beB_get s m (s - (r + 1)) (by omega)
  simp only [List.getD, List.getElem?_eq_getElem (show s - (r + 1) < (beB s m).length by omega), Option.getD_some] at this
  rw [this, show s - 1 - (s - (r + 1)) = r from by omega]

set_option maxRecDepth 100000 in
set_option maxHeartbeats 8000000 in
theorem fEnc_way (k z id off code n m : Nat) (l : List Rng) (ds : List UInt8) (fin bi bo bc bd bf bw : Bool) (A : Option Addr) (c : Nat) (B : Option Addr) (d : Nat) (w : World)
    (HCK : Hid (∀ W, Below w.heap.size w W → Calls Tryz.prog 57 #[.agg #[.int .i64 k, .int .i64 id, .int .i64 off, .bool fin, .int .i64 code, .slice A n c, .slice B m d]] W fun e w' => e = .returned (.int .i64 0) ∧ Below W.heap.size W w'))
    (HP : Hid (∀ W, Calls Tryz.prog 86 #[.int .i64 k] W fun e w' => e = .returned (.tuple #[.agg #[.bool bi, .bool bo, .bool bc, .bool bd, .bool bf, .bool bw], .bool true]) ∧ Below W.heap.size W w'))
    (hz : (k = 8 ∧ fin = true ∧ z = 15) ∨ (k = 8 ∧ fin = false ∧ z = 14) ∨ (k ≠ 8 ∧ z = k)) (hk : k ≤ 30) (hid : id ≤ 4611686018427387903) (hoff : off ≤ 4611686018427387903) (hcode : code ≤ 4611686018427387903)
    (HL : Hid (l.length = n)) (HG : Hid (goodDown 4611686018427387905 l)) (hn6 : n ≤ 6) (hnc : n ≤ c) (hc : c ≤ 9223372036854775807) (HM : Hid (ds.length = m)) (hm : m ≤ 120)
    (HA : Hid (RdX rcells 2 w A l)) (HB : Hid (RdB w B ds)) :
    Calls Tryz.prog 53 #[.agg #[.int .i64 k, .int .i64 id, .int .i64 off, .bool fin, .int .i64 code, .slice A n c, .slice B m d]] w fun e w' => ∃ A' k' c', e = .returned (.tuple #[.slice A' k' c', .int .i64 0]) ∧ (encB z ++ encRng l ++ encIf bi id ++ encIf bo off ++ encC bw bc code ++ encD bd ds).length = k' ∧ OwnB w' w.heap.size 5 A' c' (encB z ++ encRng l ++ encIf bi id ++ encIf bo off ++ encC bw bc code ++ encD bd ds) ∧ k' ≤ c' ∧ c' ≤ 9223372036854775807 ∧ Below w.heap.size w w' := by
  go_enter Tryz.func53, Tryz.ntmps53
  go_wp2_with fail
  refine (HCK.out _ ((Below.refl _ _).alloc (Nat.le_refl _) _)).mono ?_
  rintro e w1 ⟨rfl, hb1⟩
  have hF := (Blk.new w 68 #[.int .i64 k, .int .i64 id, .int .i64 off, .bool fin, .int .i64 code, .slice A n c, .slice B m d]).carry hb1
  have hb : Below w.heap.size w w1 := ((Below.refl _ _).alloc (Nat.le_refl _) _).trans (hb1.mono (by simp))
  have FF := hF.factsF
  have HF := Lib.hid hF
  have HB1 := Lib.hid hb
  have hs1 := hb1.size
  clear hb1 hF hb
  go_wp2_with fail
  refine (HP.out _).mono ?_
  rintro e w2 ⟨rfl, hb2⟩
  have hs2 := hb2.size
  go_upto_block 0 with (fail)
  refine wp_world (fun w' => EncSt w w' w1.heap.size w2.heap.size #[.int .i64 k, .int .i64 id, .int .i64 off, .bool fin, .int .i64 code, .slice A n c, .slice B m d] #[.bool bi, .bool bo, .bool bc, .bool bd, .bool bf, .bool bw] [] 0) ⟨by simp at hs1; omega, by simp at hs2; omega, ⟨none, 0, 0, rfl, ?_, OwnB.nil _ _ _⟩, ((HF.out.alloc _).carry hb2).alloc _, Blk.new _ _ _, ?_, Nat.le_refl _⟩ ?_
  · exact ((Blk.new _ _ _).carry hb2).alloc _
  · exact ((HB1.out.alloc HB1.out.size _).trans (hb2.mono (HB1.out.alloc HB1.out.size _).size)).alloc ((HB1.out.alloc HB1.out.size _).trans (hb2.mono (HB1.out.alloc HB1.out.size _).size)).size _
  clear FF HF HB1 hb2
  generalize w2.heap.size = hp
  generalize w1.heap.size = g
  intro w3 hS
  have FF := hS.fr.factsF
  have HS := Lib.hid hS
  clear hS
  go_cut [] (fun wx => EncSt w wx g hp #[.int .i64 k, .int .i64 id, .int .i64 off, .bool fin, .int .i64 code, .slice A n c, .slice B m d] #[.bool bi, .bool bo, .bool bc, .bool bd, .bool bf, .bool bw] (encB z) 8)
  case first =>
    rcases hz with ⟨rfl, rfl, rfl⟩ | ⟨rfl, rfl, rfl⟩ | ⟨h8, rfl⟩
    · go_wp2_with fail
      refine Calls.mono (put_st (HS.out.alloc _) (by decide) _ 1 [15] (by simp) rfl (by decide) (ivals1 _ 15 15 rfl) (encB 15) (by simp)) ?_
      rintro e w4 ⟨rfl, hS, _⟩
      go_wp2_with fail
      go_meet
      exact hS
    · go_wp2_with fail
      refine Calls.mono (put_st (HS.out.alloc _) (by decide) _ 1 [14] (by simp) rfl (by decide) (ivals1 _ 14 14 rfl) (encB 14) (by simp)) ?_
      rintro e w4 ⟨rfl, hS, _⟩
      go_wp2_with fail
      go_meet
      exact hS
    · have hk8 : ((z : Int) == 8) = false := by simp; omega
      have hk8' : ¬ (z : Int) = 8 := by omega
      clear h8
      go_wp2_with fail
      refine Calls.mono (put_st (HS.out.alloc _) (by decide) _ 1 [z] (by simp; omega) rfl (by decide) (ivals1 _ z z rfl) (encB z) (by simp)) ?_
      rintro e w4 ⟨rfl, hS, _⟩
      go_wp2_with fail
      go_meet
      exact hS
  case rest =>
    rename_i wc
    have HS := Lib.hid hcut
    clear hcut HP HCK hz FF
    have hn0 : (0 : Int) ≤ (n : Int) := by omega
    have FF := HS.out.fr.factsF
    go_wp2_with fail
    go_loopw [50] (fun iv wr => ∃ i : Nat, i ≤ n ∧ iv = .int .i64 (i : Int) ∧ EncSt w wr g hp #[.int .i64 k, .int .i64 id, .int .i64 off, .bool fin, .int .i64 code, .slice A n c, .slice B m d] #[.bool bi, .bool bo, .bool bc, .bool bd, .bool bf, .bool bw] (encB z ++ preR l i) (8 + 24 * i)) (fun iv _ => n - (intOf iv).toNat)
    case atStart => exact ⟨0, Nat.zero_le _, rfl, by simpa [preR] using HS.out⟩
    case round =>
      obtain ⟨i, hi, rfl, hS⟩ := hrel
      clear FF HS
      have FF := hS.fr.factsF
      have HS := Lib.hid hS
      clear hS
      by_cases hlt : i < n
      · have hll := HL.out
        obtain ⟨b, o, rfl, hcell0⟩ := HA.out.rcell (by omega)
        have hbw : b < w.heap.size := World.block_lt_of_cell? w _ (hcell0 i (by omega)).1
        have hcell := fun k hk => And.intro ((HS.out.bel.cell (p := ⟨b, o + k * 2, none⟩) hbw).trans (hcell0 k hk).1) ((HS.out.bel.cell (p := ⟨b, o + k * 2 + 1, none⟩) hbw).trans (hcell0 k hk).2)
        have FR := goodDown_at HG.out (Int.le_refl _) i (by omega)
        obtain ⟨c0, c1⟩ := hcell i (by omega)
        have hi0 : (0 : Int) ≤ (i : Int) := by omega
        have hin : (i : Int) < (n : Int) := by omega
        have HPV : Hid (0 < i → w.cell? ⟨b, o + (i - 1) * 2, none⟩ = some (.int .i64 (l.getD (i - 1) (0, 0)).1) ∧ (l.getD i (0, 0)).2 + 2 ≤ (l.getD (i - 1) (0, 0)).1 ∧ (l.getD (i - 1) (0, 0)).1 ≤ 4611686018427387903) := fun h0 => by
          have h1 := goodDown_next HG.out (i - 1) (by omega)
          rw [show i - 1 + 1 = i from by omega] at h1
          have h2 := goodDown_at HG.out (Int.le_refl _) (i - 1) (by omega)
          exact ⟨(hcell0 (i - 1) (by omega)).1, h1, by omega⟩
        have HZ0 : Hid (i = 0 → (encB z ++ preR l i) ++ [(l.getD i (0, 0)).2.toNat, n - 1, ((l.getD i (0, 0)).2 - (l.getD i (0, 0)).1).toNat].flatMap encB = encB z ++ preR l (i + 1)) := fun h0 => by
          subst h0
          simp [preR, hll]
        have HZ1 : Hid (0 < i → (encB z ++ preR l i) ++ [((l.getD (i - 1) (0, 0)).1 - (l.getD i (0, 0)).2 - 2).toNat, ((l.getD i (0, 0)).2 - (l.getD i (0, 0)).1).toNat].flatMap encB = encB z ++ preR l (i + 1)) := fun h0 => by
          obtain ⟨j, rfl⟩ : ∃ j, i = j + 1 := ⟨i - 1, by omega⟩
          simp [preR]
        clear hcell hcell0 hll
        generalize l.getD i (0, 0) = x at *
        obtain ⟨lo, hi_⟩ := x
        simp only at c0 c1 FR HZ0 HZ1 HPV
        obtain ⟨r0, r1, r2⟩ := FR
        have hbl : b < wr.heap.size := World.block_lt_of_cell? wr _ c0
        have hw2 : IntKind.i64.wrap (hi_ - lo) = hi_ - lo := by rw [IntKind.wrap_i64]; omega
        go_upto_block 2 with (fail)
        go_cut [8, 9] (fun s8 s9 wx => EncSt w wx g hp #[.int .i64 k, .int .i64 id, .int .i64 off, .bool fin, .int .i64 code, .slice (some ⟨b, o, none⟩) n c, .slice B m d] #[.bool bi, .bool bo, .bool bc, .bool bd, .bool bf, .bool bw] (encB z ++ preR l (i + 1)) (8 + 24 * (i + 1)))
        case first =>
          have HRG : Hid (wr.heap.size ≠ g) := by
            show _ ≠ _
            obtain ⟨_, _, _, _, hG, _⟩ := HS.out.pen
            have := hG.lt; omega
          go_upto_region 14 with (fail)
          refine wp_world (fun w' => EncSt w w' g hp #[.int .i64 k, .int .i64 id, .int .i64 off, .bool fin, .int .i64 code, .slice (some ⟨b, o, none⟩) n c, .slice B m d] #[.bool bi, .bool bo, .bool bc, .bool bd, .bool bf, .bool bw] (encB z ++ preR l i) (8 + 24 * i) ∧ Blk w' wr.heap.size 116 #[.int .i64 lo, .int .i64 hi_]) ⟨HS.out.alloc _, Blk.new _ _ _⟩ ?_
          clear FF HS c0 c1
          rintro w4 ⟨hS, hR⟩
          have FF := hS.fr.factsF
          have FR := hR.two
          have HS := Lib.hid hS
          have HR := Lib.hid hR
          clear hS hR
          rcases Nat.eq_zero_or_pos i with h0 | h0
          · have hw1 : IntKind.i64.wrap ((n : Int) - 1) = (n : Int) - 1 := by rw [IntKind.wrap_i64]; omega
            have HZ := Lib.hid (HZ0.out h0)
            clear HZ0 HZ1 HPV
            have hi0' : ((i : Int) == 0) = true := by simp [h0]
            clear h0
            go_wp2_with fail
            refine Calls.mono (put_st (HS.out.alloc _) (by omega) _ 3 [hi_.toNat, n - 1, (hi_ - lo).toNat] (by simp; omega) rfl (by decide) (ivals3 _ hi_ ((n : Int) - 1) (hi_ - lo) _ _ _ (by omega) (by omega) (by omega)) _ HZ.out) ?_
            rintro e w5 ⟨rfl, hS, _⟩
            go_wp2_with fail
            go_meet
            exact hS
          · have hi0' : ((i : Int) == 0) = false := by simp; omega
            have HZ := Lib.hid (HZ1.out h0)
            obtain ⟨p0, p1, p2⟩ := HPV.out h0
            clear HZ0 HZ1 HPV
            generalize (l.getD (i - 1) (0, 0)).1 = y at *
            have hpc0 := p0
            obtain ⟨j, rfl⟩ : ∃ j, i = j + 1 := ⟨i - 1, by omega⟩
            rw [Nat.add_sub_cancel] at hpc0
            have hpc := (HS.out.bel.cell (p := ⟨b, o + j * 2, none⟩) hbw).trans hpc0
            have HPC0 := Lib.hid hpc0
            clear hpc0
            have hj1 : IntKind.i64.wrap (j : Int) = (j : Int) := IntWalk.i64_in _ (by omega)
            have hj0 : (0 : Int) ≤ (j : Int) := by omega
            have hjn : (j : Int) < (n : Int) := by omega
            have hw3 : IntKind.i64.wrap (y - hi_) = y - hi_ := by rw [IntKind.wrap_i64]; omega
            have hw4 : IntKind.i64.wrap (y - hi_ - 2) = y - hi_ - 2 := by rw [IntKind.wrap_i64]; omega
            clear p0 h0
            go_upto_region 16 with (fail)
            have hns : ∀ x ∈ [(y - hi_ - 2).toNat, (hi_ - lo).toNat], x ≤ 4611686018427387903 := by simp; omega
            have HQ2 := fun W => ivals2 W (y - hi_ - 2) (hi_ - lo) (y - hi_ - 2).toNat (hi_ - lo).toNat (by omega) (by omega)
            have HNS := Lib.hid hns
            have hrg : wr.heap.size ≠ g := HRG.out
            clear hns
            go_region_held3 (fun w' => w'.cell? ⟨w.heap.size, 5, none⟩ = some (.slice (some ⟨b, o, none⟩) n c) ∧ w'.cell? ⟨b, o + j * 2, none⟩ = some (.int .i64 y) ∧ w'.cell? ⟨wr.heap.size, 0, none⟩ = some (.int .i64 lo) ∧ w'.cell? ⟨wr.heap.size, 1, none⟩ = some (.int .i64 hi_)) (go_keep)
              (first
                | (go_at_call 87; refine Calls.mono (put_st (HS.out.drew.alloc _) (by omega) _ 2 _ HNS.out rfl (by decide) (HQ2 _) _ HZ.out) ?_; rintro e w5 ⟨rfl, hS, hK⟩; have k1 := hS.fr.factsF; have k2 := (hS.bel.cell (p := ⟨b, o + j * 2, none⟩) hbw).trans HPC0.out; have k3 := (hK _ _ _ hrg (by decide) (HR.out.drew.alloc _)).two))
            all_goals
              go_wp2_with fail
              go_meet
              exact hS.up (by omega)
        case rest =>
          go_wp2_with fail
          go_roundw
          case rel => exact ⟨i + 1, by omega, by first | (go_num; done) | rfl, hcut⟩
          case measure => first | (simp [intOf]; done) | (simp [intOf]; omega)
      · obtain rfl : n = i := by omega
        have hpf := preR_full l
        rw [HL.out] at hpf
        rw [hpf] at HS
        replace HS := Lib.hid (HS.out.up (show 8 + 24 * n ≤ 152 by omega))
        clear hpf
        have FP := HS.out.pt.factsP
        go_upto_if 92 with (fail)
        go_cut [] (fun wx => EncSt w wx g hp #[.int .i64 k, .int .i64 id, .int .i64 off, .bool fin, .int .i64 code, .slice A n c, .slice B m d] #[.bool bi, .bool bo, .bool bc, .bool bd, .bool bf, .bool bw] (encB z ++ encRng l ++ encIf bi id) 160)
        case first =>
          cases bi with
          | false =>
            go_wp2_with fail
            go_meet
            rw [show encIf false id = [] from rfl, List.append_nil]; exact HS.out.up (by decide)
          | true =>
            go_wp2_with fail
            refine Calls.mono (put_st (HS.out.alloc _) (by decide) _ 1 [id] (by simpa using hid) rfl (by decide) (ivals1 _ id id rfl) (encB z ++ encRng l ++ encIf true id) (by simp [encIf])) ?_
            rintro e w5 ⟨rfl, hS, _⟩
            go_wp2_with fail
            go_meet
            exact hS
        case rest =>
        rename_i wd
        clear FF FP HS
        have FF := hcut.fr.factsF
        have FP := hcut.pt.factsP
        have HS := Lib.hid hcut
        clear hcut
        go_upto_if 99 with (fail)
        go_cut [] (fun wx => EncSt w wx g hp #[.int .i64 k, .int .i64 id, .int .i64 off, .bool fin, .int .i64 code, .slice A n c, .slice B m d] #[.bool bi, .bool bo, .bool bc, .bool bd, .bool bf, .bool bw] (encB z ++ encRng l ++ encIf bi id ++ encIf bo off) 168)
        case first =>
          cases bo with
          | false =>
            go_wp2_with fail
            go_meet
            rw [show encIf false off = [] from rfl, List.append_nil]; exact HS.out.up (by decide)
          | true =>
            go_wp2_with fail
            refine Calls.mono (put_st (HS.out.alloc _) (by decide) _ 1 [off] (by simpa using hoff) rfl (by decide) (ivals1 _ off off rfl) (encB z ++ encRng l ++ encIf bi id ++ encIf true off) (by simp [encIf])) ?_
            rintro e w5 ⟨rfl, hS, _⟩
            go_wp2_with fail
            go_meet
            exact hS
        case rest =>
        rename_i wd
        clear FF FP HS
        have FF := hcut.fr.factsF
        have FP := hcut.pt.factsP
        have HS := Lib.hid hcut
        clear hcut
        go_upto_block 3 with (fail)
        generalize hU3 : encB z ++ encRng l ++ encIf bi id ++ encIf bo off = us3 at *
        go_cut [] (fun wx => EncSt w wx g hp #[.int .i64 k, .int .i64 id, .int .i64 off, .bool fin, .int .i64 code, .slice A n c, .slice B m d] #[.bool bi, .bool bo, .bool bc, .bool bd, .bool bf, .bool bw] (us3 ++ encC bw bc code) 176)
        case first =>
          cases bw with
          | false =>
            cases bc with
            | false =>
              go_wp2_with fail
              go_meet
              rw [show encC false false code = [] from rfl, List.append_nil]; exact HS.out.up (by decide)
            | true =>
              go_wp2_with fail
              refine Calls.mono (put_st (HS.out.alloc _) (by decide) _ 1 [code] (by simpa using hcode) rfl (by decide) (ivals1 _ code code rfl) (us3 ++ encC false true code) (by simp [encC, encIf])) ?_
              rintro e w5 ⟨rfl, hS, _⟩
              go_wp2_with fail
              go_meet
              exact hS
          | true =>
            go_wp2_with fail
            go_loopw [10] (fun iv wr => ∃ (r : Nat) (I : Int), r ≤ 8 ∧ I = (r : Int) - 1 ∧ iv = .int .i64 I ∧ EncSt w wr g hp #[.int .i64 k, .int .i64 id, .int .i64 off, .bool fin, .int .i64 code, .slice A n c, .slice B m d] #[.bool bi, .bool bo, .bool bc, .bool bd, .bool bf, .bool true] (us3 ++ (beB 8 code).take (8 - r)) (176 - r)) (fun iv _ => (intOf iv + 1).toNat)
            case atStart => exact ⟨8, 7, Nat.le_refl _, rfl, rfl, by simpa using HS.out⟩
            case round =>
              obtain ⟨r, I, hr, hI, rfl, hS⟩ := hrel
              clear FF FP HS
              have FF := hS.fr.factsF
              rcases Nat.eq_zero_or_pos r with h0 | h0
              · subst h0
                obtain rfl : I = -1 := by omega
                clear hI
                go_wp2_with fail
                go_meet
                rw [Nat.sub_zero, List.take_of_length_le (by rw [beB_length]; exact Nat.le_refl _)] at hS
                rw [show encC true bc code = beB 8 code from rfl]
                exact hS
              · obtain ⟨r, rfl⟩ : ∃ j, r = j + 1 := ⟨r - 1, by omega⟩
                obtain ⟨x, hx⟩ : ∃ x : UInt8, UInt8.ofNat (code / 256 ^ r) = x := ⟨_, rfl⟩
                have HZ : Hid ((us3 ++ (beB 8 code).take (8 - (r + 1))) ++ [x] = us3 ++ (beB 8 code).take (8 - r)) := by rw [← hx]; exact beB_snocF us3 8 code r hr
                have HXV : Hid ((x.toNat : Int) = (code / 256 ^ r % 256 : Nat)) := by show _ = _; rw [← hx]; simp
                obtain ⟨A7, l7, c7, hl7, hG, hO⟩ := hS.pen
                have hll := hS.len
                rw [hl7] at hll
                have HS := Lib.hid hS
                have HG := Lib.hid hG
                have HO := Lib.hid hO
                have HL7 := Lib.hid hl7
                have hg0 := hG.two1
                have hgf := hG.frozen 0
                have hgl := hG.lt
                have HSZ := Lib.hid hS.bel.size
                clear hS hG hO hl7
                generalize us3 ++ (beB 8 code).take (8 - (r + 1)) = us7 at *
                obtain ⟨p, hp⟩ : ∃ p : Int, 8 * I = p := ⟨_, rfl⟩
                have hp1 : IntKind.i64.wrap (8 * I) = p := by rw [← hp]; exact IntWalk.i64_in _ (by omega)
                have hsb := shr_byte code r p (by omega)
                rw [hx] at hsb
                have hpp0 : 0 ≤ p := by omega
                have hpp1 : p ≤ 64 := by omega
                have hI0 : 0 ≤ I := by omega
                have hI1 : IntKind.i64.wrap (I - 1) = I - 1 := IntWalk.i64_in _ (by omega)
                have HI := Lib.hid hI
                clear hI hp hx
                go_upto_region 26 with (fail)
                go_region_law ((first
                  | (refine step_appBG (by rfl) _ _ _ (by rfl) w.heap.size 5 Tryz.underlying30 u8_info A7 l7 c7 us7 (by rfl) HL7.out (HO.out.alloc _) _ 1 1 [x] (by rfl) rfl (RdB.one _ _ _ _ rfl) _ HZ.out (l7 + 1) rfl (by omega) (by have h9 := HSZ.out; simp; omega) ?_; intro A8 c8 w8 hO8 hc8 hm8 hb8 hgr8; have P8 := pen_app HL7.out (HG.out.drew.alloc _) (HO.out.alloc _) hgr8)))
                all_goals
                  go_wp2_with fail
                  go_roundw
                  case rel => exact ⟨r, I - 1, by omega, by have := HI.out; omega, rfl, EncSt.app (HS.out.drew.alloc _) HL7.out (HG.out.drew.alloc _) (HO.out.alloc _) hgr8 (by exact hb8) (by rw [← HZ.out, List.length_append, HL7.out]; rfl) hO8 (by omega)⟩
                  case measure => first | (simp [intOf]; done) | (simp [intOf]; omega)
        case rest =>
        rename_i we
        clear FF FP HS
        have FF := hcut.fr.factsF
        have FP := hcut.pt.factsP
        have HS := Lib.hid hcut
        clear hcut
        generalize hU4 : us3 ++ encC bw bc code = us4 at *
        go_upto_if 136 with (fail)
        go_cut [] (fun wx => EncSt w wx g hp #[.int .i64 k, .int .i64 id, .int .i64 off, .bool fin, .int .i64 code, .slice A n c, .slice B m d] #[.bool bi, .bool bo, .bool bc, .bool bd, .bool bf, .bool bw] (us4 ++ encD bd ds) 312)
        case first =>
          cases bd with
          | false =>
            go_wp2_with fail
            go_meet
            rw [show encD false ds = [] from rfl, List.append_nil]; exact HS.out.up (by decide)
          | true =>
            go_wp2_with fail
            refine Calls.mono (put_st (HS.out.alloc _) (by decide) _ 1 [m] (by simp; omega) rfl (by decide) (ivals1 _ m m rfl) (us4 ++ encB m) (by simp)) ?_
            rintro e w5 ⟨rfl, hS, _⟩
            obtain ⟨A7, l7, c7, hl7, hG, hO⟩ := hS.pen
            have hll := hS.len
            rw [hl7] at hll
            clear FF HS
            have FF := hS.fr.factsF
            have HS := Lib.hid hS
            have HG := Lib.hid hG
            have HO := Lib.hid hO
            have HL7 := Lib.hid hl7
            have hg0 := hG.two1
            have hgf := hG.frozen 0
            have hgl := hG.lt
            have HB5 := Lib.hid (HB.out.below hS.bel)
            have HSZ := Lib.hid hS.bel.size
            clear hS hG hO hl7
            go_upto_region 31 with (fail)
            go_region_law ((first
              | (refine step_appBG (by rfl) _ _ _ (by rfl) w.heap.size 5 Tryz.underlying30 u8_info A7 l7 c7 (us4 ++ encB m) (by rfl) HL7.out HO.out B m d ds (by rfl) HM.out HB5.out _ rfl (l7 + m) rfl (by omega) HSZ.out ?_; intro A8 c8 w8 hO8 hc8 hm8 hb8 hgr8; have P8 := pen_app HL7.out HG.out.drew HO.out hgr8)))
            all_goals
              go_wp2_with fail
              go_meet
              rw [show us4 ++ encD true ds = us4 ++ encB m ++ ds from by rw [encD, if_pos rfl, HM.out, List.append_assoc]]
              exact EncSt.app HS.out.drew HL7.out HG.out.drew HO.out hgr8 hb8 (by rw [List.length_append, HL7.out, HM.out]) hO8 (by omega)
        case rest =>
        rename_i wf
        subst hU4
        subst hU3
        obtain ⟨A7, l7, c7, hl7, hG, hO⟩ := hcut.pen
        have hb := hcut.bel
        have hg0 := hG.two1
        clear FF FP HS hcut
        have HO := Lib.hid hO
        have HL7 := Lib.hid hl7
        have HBE := Lib.hid hb
        clear hO hl7 hb
        go_wp2_with fail
        go_ret2
        have hcp := HO.out.cap
        rw [HL7.out] at hcp
        exact ⟨A7, l7, c7, rfl, HL7.out, HO.out, hcp.1, by unfold maxLen at hcp; omega, HBE.out⟩
end Go.Proofs.YtbcagdjfegobnaaGreat
