/- The contract of fields.Decode. -/
import Derived.Test.YtihngonemdaihaaFLine
import Derived.Test.YtihngonemdaihaaFChk
import Derived.Test.YtihngonemdaihaaFittedWalk
import Derived.Test.YtihngonemdaihaaNest
namespace Go.Proofs.Ytihngonemdaihaa
open Go.ChangeShapes Go.WideShapes Go.ChangeAt Go.RowKit
set_option linter.unusedVariables false

theorem belowN {B : Nat} {a w : World} (h : Below B a w) (k : Nat) : Below B a (w.drewN k) := ⟨h.os, h.tape, h.output, h.size, h.block⟩
def sLenF (v : Value) : Nat := match v with | .slice _ n _ => n | _ => 0
/-- The lines of a section, one behind the other. -/
def fdGo (put : Int) (l : List Fld) (need : Int) : Nat → YeD → List Fld → List Fld × Int
  | 0, _, _ => ([], 1)
  | k + 1, y, out =>
    if y.b.length = 0 then (if fchkR out ≠ 0 then ([], fchkR out) else (out, 0)) else
    if out.length = 8 then ([], 1) else
    if (yLine put l need y).2.e ≠ 0 then ([], (yLine put l need y).2.e) else fdGo put l need k (yLine put l need y).2 (out ++ [(yLine put l need y).1])
/-- A section, read with a table: the fields, or what is wrong. -/
def fdecR (put : Int) (l : List Fld) (bs : List UInt8) : List Fld × Int :=
  if (yNumber 8 ⟨bs, 0⟩).2.e ≠ 0 then ([], (yNumber 8 ⟨bs, 0⟩).2.e) else
  if put < (yNumber 8 ⟨bs, 0⟩).1 then ([], 14) else fdGo put l (yNumber 8 ⟨bs, 0⟩).1 9 (yNumber 8 ⟨bs, 0⟩).2 []
theorem fdGo_ok (put : Int) (l : List Fld) (need : Int) (k : Nat) : ∀ (y : YeD) (out : List Fld), ((fdGo put l need k y out).2 = 0 → fchkR (fdGo put l need k y out).1 = 0) ∧ ((fdGo put l need k y out).2 ≠ 0 → (fdGo put l need k y out).1 = []) := by
  induction k with
  | zero => intro y out; simp [fdGo]
  | succ k ih =>
    intro y out
    unfold fdGo
    by_cases c1 : y.b.length = 0
    · rw [if_pos c1]
      by_cases c2 : fchkR out ≠ 0
      · rw [if_pos c2]; exact ⟨fun h => absurd h c2, fun _ => rfl⟩
      · rw [if_neg c2]; exact ⟨fun _ => by simpa using c2, fun h => absurd rfl h⟩
    · rw [if_neg c1]
      by_cases c2 : out.length = 8
      · rw [if_pos c2]; simp
      · rw [if_neg c2]
        by_cases c3 : (yLine put l need y).2.e ≠ 0
        · rw [if_pos c3]; exact ⟨fun h => absurd h c3, fun _ => rfl⟩
        · rw [if_neg c3]; exact ih _ _
theorem fdecR_ok (put : Int) (l : List Fld) (bs : List UInt8) : ((fdecR put l bs).2 = 0 → fchkR (fdecR put l bs).1 = 0) ∧ ((fdecR put l bs).2 ≠ 0 → (fdecR put l bs).1 = []) := by
  unfold fdecR
  by_cases c1 : (yNumber 8 ⟨bs, 0⟩).2.e ≠ 0
  · rw [if_pos c1]; exact ⟨fun h => absurd h c1, fun _ => rfl⟩
  · rw [if_neg c1]
    by_cases c2 : put < (yNumber 8 ⟨bs, 0⟩).1
    · rw [if_pos c2]; simp
    · rw [if_neg c2]; exact fdGo_ok _ _ _ _ _ _
theorem fcells_one' (x : Fld) : ∀ u ∈ fcells x, u.oneCell' = true := by
  intro u hu
  simp only [fcells, List.mem_cons, List.not_mem_nil, or_false] at hu
  rcases hu with rfl | rfl <;> rfl
theorem EyeF.grown {w0 w w' : World} {g : Nat} {y : YeD} {bo : Option Nat} (h : EyeF w0 w g y) (hg : w.grownBy w' bo) (hne : some g ≠ bo) (hbo : ∀ k, bo = some k → w0.heap.size ≤ k) : EyeF w0 w' g y := by
  obtain ⟨A, n, c, h1, h2, h3, hB, hr⟩ := h.ex
  exact ⟨⟨A, n, c, h1, h2, h3, hB.grown hg hne, hr⟩, h.hg, h.hb.grown hg h.hb.size hbo⟩
/-- What Decode answers. -/
def FDecOut (w : World) (out : List Fld) (E : Int) (e' : Ending) (w' : World) : Prop := ∃ (B : Option Addr) (m d : Nat), e' = .returned (.tuple #[.slice B m d, .int .i64 E]) ∧ out.length = m ∧ m ≤ d ∧ d ≤ 9223372036854775807 ∧ RdX fcells 2 w' B out ∧ Below w.heap.size w w'
/-- .. the rows are the call's own. -/
def FDecOwn (w : World) (out : List Fld) (E : Int) (e' : Ending) (w' : World) : Prop := ∃ (B : Option Addr) (m d : Nat), e' = .returned (.tuple #[.slice B m d, .int .i64 E]) ∧ out.length = m ∧ m ≤ d ∧ d ≤ 9223372036854775807 ∧ OwnX fcells 2 w' w.heap.size 47 B d out ∧ Below w.heap.size w w'

set_option maxRecDepth 100000 in
set_option maxHeartbeats 8000000 in
theorem fDecode_own (w : World) (room put : Int) (TA : Option Addr) (tn tc : Nat) (l : List Fld) (ht : TabV w room put TA tn tc l) (A : Option Addr) (bs : List UInt8) (n c : Nat) (hn : bs.length = n) (hnc : n ≤ c) (hcm : c ≤ 9223372036854775807) (hr : RdB w A bs) (out : List Fld) (E : Int) (hR : fdecR put l bs = (out, E)) :
    Calls Try.prog 34 #[.agg #[.int .i64 room, .int .i64 put, .slice TA tn tc], .slice A n c] w (FDecOwn w out E) := by
  have HN := Lib.hid hn
  have HR := Lib.hid hr
  have HT := Lib.hid ht
  have HRR := Lib.hid hR
  have h3 := ht.h3
  clear hn hr ht hR
  go_enter Try.func34, Try.ntmps34
  go_upto_region 1 with (fail)
  refine wp_world (fun w' => Blk w' w.heap.size 29 #[.int .i64 room, .int .i64 put, .slice TA tn tc] ∧ Below w.heap.size w w') ⟨Blk.new _ _ _, (Below.refl _ _).alloc (Nat.le_refl _) _⟩ ?_
  rintro w1 ⟨hT1, hb1⟩
  have FT := hT1.facts3
  have HB1 := Lib.hid hb1
  go_wp2_with fail
  refine (tCheck_ok room put TA tn tc l HT.out.hn HT.out.hnc HT.out.hcm HT.out.h0 HT.out.h1 HT.out.h2 HT.out.h3 HT.out.hf HT.out.hs _ (HT.out.below hb1).hr).mono ?_
  rintro e w2 ⟨rfl, hb2⟩
  have hT2 := hT1.carry hb2
  have HB2 := Lib.hid (HB1.out.trans (hb2.mono HB1.out.size))
  have hz2 := hT2.lt
  clear FT hT1 hb1 hb2 HB1
  go_upto_region 5 with (fail)
  refine wp_world (fun w' => Blk w' w.heap.size 29 #[.int .i64 room, .int .i64 put, .slice TA tn tc] ∧ EyeF w w' w2.heap.size ⟨bs, 0⟩) ⟨hT2.alloc _, ⟨A, n, c, HN.out, hnc, hcm, Blk.new _ _ _, HR.out⟩, by omega, HB2.out.alloc (by omega) _⟩ ?_
  clear hT2 HB2
  rintro w3 ⟨hT3, hE3⟩
  have hgY : w.heap.size < w2.heap.size := hz2
  generalize w2.heap.size = gY at *
  go_wp2_with fail
  refine (fNumber_any 8 (by decide) (by decide) w _ gY _ hE3).mono ?_
  rintro e w4 ⟨rfl, hE4, ho4⟩
  have hT4 := ho4.blk (by omega) hT3
  obtain ⟨N, y1, hyn⟩ : ∃ N y1, yNumber 8 ⟨bs, 0⟩ = (N, y1) := ⟨_, _, rfl⟩
  have hN0 := yNumber_range hyn
  have hrr := HRR.out
  unfold fdecR at hrr
  rw [hyn] at hrr hE4
  rw [hyn]
  obtain ⟨b1, e1⟩ := y1
  dsimp only at hrr hE4 ⊢
  have HE4 := Lib.hid hE4
  have HT4 := Lib.hid hT4
  obtain ⟨A2, n2, c2, r1, r2, r3, hB4, _⟩ := hE4.ex
  dsimp only at r1 hB4
  have FE := hB4.facts2E
  have FT := hT4.facts3
  have HB4 := Lib.hid hB4
  clear hyn hE3 hE4 ho4 hT3 hT4 hB4
  by_cases c0 : e1 = 0
  · subst c0
    rw [if_neg (by simp)] at hrr
    by_cases c1 : put < N
    · rw [if_pos c1] at hrr
      injection hrr with q1 q2
      subst q1 q2
      have d1 : decide (put < N) = true := decide_eq_true c1
      go_wp2_with fail
      go_ret2
      exact ⟨none, 0, 0, rfl, rfl, Nat.le_refl _, by decide, OwnX.nil _ _ _, HE4.out.hb⟩
    · rw [if_neg c1] at hrr
      have d1 : decide (put < N) = false := decide_eq_false c1
      have HGO := Lib.hid hrr
      clear hrr
      go_wp2_with fail
      go_loopw [9] (fun s9 wr => ∃ (i : Nat) (Ao : Option Addr) (co : Nat) (xs : List Fld) (b : List UInt8), s9 = .slice Ao i co ∧ xs.length = i ∧ i ≤ 8 ∧ fdGo put l N (9 - i) ⟨b, 0⟩ xs = (out, E) ∧ OwnX fcells 2 wr (gY + 1) 47 Ao co xs ∧ EyeF w wr gY ⟨b, 0⟩ ∧ Blk wr w.heap.size 29 #[.int .i64 room, .int .i64 put, .slice TA tn tc]) (fun s9 _ => 9 - sLenF s9)
      case atStart => exact ⟨0, none, 0, [], b1, rfl, rfl, by omega, HGO.out, OwnX.nil _ _ _, HE4.out, HT4.out⟩
      case round =>
        obtain ⟨i, Ao, co, xs, b, rfl, hxl, hi, hgo, hO, hE, hT⟩ := hrel
        have HXL := Lib.hid hxl
        have HO := Lib.hid hO
        have HE := Lib.hid hE
        have HT5 := Lib.hid hT
        have hgl := hE.lt
        obtain ⟨A5, n5, c5, r5, r6, r7, hB5, _⟩ := hE.ex
        dsimp only at r5 hB5
        have FE := hB5.facts2E
        have FT := hT.facts3
        have hgo' := hgo
        rw [show 9 - i = (8 - i) + 1 by omega, fdGo] at hgo'
        dsimp only at hgo'
        rw [hxl] at hgo'
        have HGO2 := Lib.hid hgo'
        clear hxl hO hE hT hgo hgo' hB5 HGO HE4 HT4 HB4
        by_cases c2 : n5 = 0
        ·
          -- [[fin
          subst c2
          have hg := HGO2.out
          rw [if_pos r5] at hg
          have HG := Lib.hid hg
          clear hg HGO2
          go_wp2_with fail
          refine (fCheck_any Ao i co xs HXL.out (by have := HO.out.cap; rw [HXL.out] at this; exact this.1) HO.out.cap.2 _ HO.out.rd _ rfl).mono ?_
          rintro e w7 ⟨rfl, hb7⟩
          have HB7 := Lib.hid (HE.out.hb.trans (hb7.mono HE.out.hb.size))
          have HRD := Lib.hid (OwnX.mono (HO.out.carry hb7) (by omega : w.heap.size ≤ gY + 1))
          clear hb7 FE FT
          have hg := HG.out
          generalize fchkR xs = ck at *
          by_cases c3 : ck = 0
          · subst c3
            rw [if_neg (by simp)] at hg
            injection hg with q1 q2
            subst q1 q2
            have hcap := HO.out.cap
            rw [HXL.out] at hcap
            go_wp2_with fail
            go_ret2
            exact ⟨Ao, i, co, rfl, HXL.out, hcap.1, hcap.2, HRD.out, HB7.out⟩
          · have hne : (ck == 0) = false := by simp [c3]
            have hne2 : (ck != 0) = true := by simp [c3]
            rw [if_pos c3] at hg
            injection hg with q1 q2
            subst q1 q2
            go_wp2_with fail
            go_ret2
            exact ⟨none, 0, 0, rfl, rfl, Nat.le_refl _, by decide, OwnX.nil _ _ _, HB7.out⟩
          -- ]]fin
        · have hn50 : (0 : Int) < (n5 : Int) := by omega
          have hn51 : 0 < n5 := by omega
          have hg := HGO2.out
          rw [if_neg (by rw [r5]; exact c2)] at hg
          by_cases c3 : i = 8
          ·
            -- [[full
            rw [if_pos c3] at hg
            injection hg with q1 q2
            subst q1 q2
            subst c3
            go_wp2_with fail
            go_ret2
            exact ⟨none, 0, 0, rfl, rfl, Nat.le_refl _, by decide, OwnX.nil _ _ _, HE.out.hb⟩
            -- ]]full
          ·
            -- [[step
            rw [if_neg c3] at hg
            have hi8 : ((i : Int) == 8) = false := by simp; omega
            obtain ⟨⟨x, z⟩, y2, hyl⟩ : ∃ f y2, yLine put l N ⟨b, 0⟩ = (f, y2) := ⟨_, _, rfl⟩
            rw [hyl] at hg
            dsimp only at hg
            have HG := Lib.hid hg
            have HYL := Lib.hid hyl
            clear hg hyl HGO2
            go_wp2_with fail
            refine (fLine_any room put TA tn tc l N hN0.1 (by omega) w _ HT.out gY _ HE.out rfl (by rw [r5]; exact hn51) x z y2 HYL.out).mono ?_
            rintro e w6 ⟨rfl, hE6, ho6⟩
            have hT6 := ho6.blk (by omega) HT5.out
            have hO6 : OwnX fcells 2 w6 (gY + 1) 47 Ao co xs := by
              have hlt := HO.out.lt (n := i)
              refine ⟨HO.out.1, ?_⟩
              rcases HO.out.2 with h2 | ⟨k, cap, cur, hv, hk, hh, r⟩
              · exact .inl h2
              · exact .inr ⟨k, cap, cur, hv, hk, (ho6.block k (Array.getElem?_eq_some_iff.1 hh).1 (by omega)).trans hh, r⟩
            clear HE HO HT5 ho6 FE FT
            go_upto_region 15 with (fail)
            refine wp_world (fun w' => Blk w' w6.heap.size 47 #[.string x, .string z] ∧ OwnX fcells 2 w' (gY + 1) 47 Ao co xs ∧ EyeF w w' gY y2 ∧ Blk w' w.heap.size 29 #[.int .i64 room, .int .i64 put, .slice TA tn tc]) ⟨Blk.new _ _ _, hO6.alloc _, hE6.carry ((Below.refl _ _).alloc (Nat.le_refl _) _), hT6.alloc _⟩ ?_
            clear hO6 hE6 hT6
            generalize w6.heap.size = gF at *
            rintro w7 ⟨hF7, hO7, hE7, hT7⟩
            obtain ⟨b2, e2⟩ := y2
            obtain ⟨A7, n7, c7, r8, r9, r10, hB7, _⟩ := hE7.ex
            dsimp only at r8 hB7
            have FE := hB7.facts2E
            have FF := hF7.two
            have HO7 := Lib.hid hO7
            have HE7 := Lib.hid hE7
            have HT7 := Lib.hid hT7
            have hz7 := hE7.lt
            clear hF7 hO7 hE7 hT7 hB7
            have hg := HG.out
            dsimp only at hg
            by_cases c4 : e2 = 0
            · subst c4
              rw [if_neg (by simp)] at hg
              have HG2 := Lib.hid hg
              clear hg HG
              go_wp2_with (at_builtin; refine wpList_addN fcells 2 32 fcells_len fcells_one' rfl (.tmp 57) (.tmp 59) _ rfl 47 _ Try.underlying23 fldInfo rfl (by decide) (by decide) (gY + 1) Ao i co xs HXL.out rfl (HO7.out.alloc _) (x, z) w7.heap.size 1 rfl (Rd.new _ _ _ 2 rfl) (i + 1) rfl (by omega) (by simp; omega) ?_; intro g8 c8 w8 hO8 hc8 hm8 hb8 hgr8 hat8 hlt8)
              go_roundw
              case rel =>
                have hAo : ∀ k, Ao.map (·.block) = some k → gY + 1 ≤ k := fun k hk => (HO7.out.lt (n := i) k (by rw [blk_of]; exact hk)).1
                refine ⟨i + 1, some ⟨g8, 0, none⟩, c8, xs ++ [(x, z)], b2, by first | rfl | (congr 1; omega), by rw [List.length_append, HXL.out]; rfl, by omega, ?_, hO8, ?_, ?_⟩
                · rw [show 9 - (i + 1) = 8 - i by omega]; exact HG2.out
                · exact (HE7.out.carry ((Below.refl _ _).alloc (Nat.le_refl _) _)).grown hgr8 (fun e => by have := hAo gY e.symm; omega) (fun k hk => by have := hAo k hk; omega)
                · exact (HT7.out.alloc _).grown hgr8 (fun e => by have := hAo _ e.symm; omega)
              case measure => simp [sLenF]; omega
            · have hne : (e2 == 0) = false := by simp [c4]
              have hne2 : (e2 != 0) = true := by simp [c4]
              rw [if_pos c4] at hg
              injection hg with q1 q2
              subst q1 q2
              go_wp2_with fail
              go_quiet (fail)
              go_wp2_with fail
              go_ret2
              exact ⟨none, 0, 0, rfl, rfl, Nat.le_refl _, by decide, OwnX.nil _ _ _, belowN HE7.out.hb _⟩
            -- ]]step
  · have hne : (e1 == 0) = false := by simp [c0]
    have hne2 : (e1 != 0) = true := by simp [c0]
    rw [if_pos c0] at hrr
    injection hrr with q1 q2
    subst q1 q2
    go_wp2_with fail
    go_quiet (fail)
    go_wp2_with fail
    go_ret2
    exact ⟨none, 0, 0, rfl, rfl, Nat.le_refl _, by decide, OwnX.nil _ _ _, belowN HE4.out.hb _⟩
theorem fDecode_any (w : World) (room put : Int) (TA : Option Addr) (tn tc : Nat) (l : List Fld) (ht : TabV w room put TA tn tc l) (A : Option Addr) (bs : List UInt8) (n c : Nat) (hn : bs.length = n) (hnc : n ≤ c) (hcm : c ≤ 9223372036854775807) (hr : RdB w A bs) (out : List Fld) (E : Int) (hR : fdecR put l bs = (out, E)) :
    Calls Try.prog 34 #[.agg #[.int .i64 room, .int .i64 put, .slice TA tn tc], .slice A n c] w (FDecOut w out E) :=
  (fDecode_own w room put TA tn tc l ht A bs n c hn hnc hcm hr out E hR).mono fun e w' ⟨B, m, d, he, h1, h2, h3, ho, hb⟩ => ⟨B, m, d, he, h1, h2, h3, ho.rd, hb⟩
end Go.Proofs.Ytihngonemdaihaa
