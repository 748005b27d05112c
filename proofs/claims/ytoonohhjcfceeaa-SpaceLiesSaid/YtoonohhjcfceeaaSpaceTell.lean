/- The contracts of space.Begin, space.Tell and spaceTells. -/
import Derived.Test.YtoonohhjcfceeaaSpaceSend
namespace Go.Proofs.Ytoonohhjcfceeaa
open Go.ChangeShapes Go.WideShapes Go.ChangeAt Go.RowKit
set_option linter.unusedVariables false

theorem spBegin_ok (w : World) : Calls Try.prog 9 #[] w fun e w' => e = .returned (.agg #[.int .i64 0, .slice none 0 0, .int .i64 (-1), .slice none 0 0, .slice none 0 0]) ∧ Below w.heap.size w w' := by
  go_enter Try.func9, Try.ntmps9
  go_wp2_with fail
  refine bodyPost_ret (v := .agg #[.int .i64 0, .slice none 0 0, .int .i64 (-1), .slice none 0 0, .slice none 0 0]) ?_ rfl ⟨rfl, ?_⟩
  · simp [results, Try.results9, go_sem]; first | done | rfl
  · (repeat (first | with_reducible exact (Below.refl _ _) | with_reducible refine Below.drew ?_ | (with_reducible refine Below.set4 ?_ ?side _ _ _ _; case side => (first | omega | (simp; omega) | (simp; done))) | (with_reducible refine Below.setCell ?_ ?side _; case side => (first | omega | (simp; omega) | (simp; done))) | (with_reducible refine Below.alloc ?_ ?side _; case side => (first | omega | (simp; omega) | (simp; done)))))

theorem SpV.none (w : World) : SpV w 0 none 0 0 (-1) none 0 0 none 0 0 [] [] [] :=
  ⟨rfl, rfl, rfl, Nat.le_refl _, by decide, Nat.le_refl _, by decide, Nat.le_refl _, by decide, ⟨by decide, by decide, by decide, by decide, by decide, by decide, by decide, trivial, ⟨List.Pairwise.nil, fun p hp => absurd hp List.not_mem_nil⟩, ⟨List.Pairwise.nil, fun p hp => absurd hp List.not_mem_nil⟩, rfl⟩, RdX.nil, RdX.nil, RdX.nil⟩

set_option maxRecDepth 100000 in
set_option maxHeartbeats 2000000 in
theorem spTell_any (nx : Int) (A : Option Addr) (n c : Nat) (top : Int) (B : Option Addr) (m d : Nat) (C : Option Addr) (k e : Nat) (ps : List Pcl) (hs : List Rng) (ks : List Int) (w : World) (h : SpV w nx A n c top B m d C k e ps hs ks) :
    Calls Try.prog 17 #[.agg #[.int .i64 nx, .slice A n c, .int .i64 top, .slice B m d, .slice C k e]] w fun e' w' => ∃ (O : Option Addr) (co : Nat), e' = .returned (.tuple #[.slice O m co, .int .i64 0]) ∧ m ≤ co ∧ co ≤ 9223372036854775807 ∧ RdX rcells 2 w' O hs.reverse ∧ Below w.heap.size w w' := by
  have HV := Lib.hid h
  have hmd := h.hmd
  have hdm := h.hdm
  have hm6 := h.m6
  clear h
  have hmw : IntKind.i64.wrap ((m : Int) - 1) = (m : Int) - 1 := by rw [IntKind.wrap_i64]; omega
  go_enter Try.func17, Try.ntmps17
  go_upto_region 1 with (fail)
  refine wp_world (fun w' => Blk w' w.heap.size 26 #[.int .i64 nx, .slice A n c, .int .i64 top, .slice B m d, .slice C k e] ∧ Below w.heap.size w w') ⟨Blk.new _ _ _, (Below.refl _ _).alloc (Nat.le_refl _) _⟩ ?_
  rintro w1 ⟨hS, hb⟩
  have FS := hS.facts5
  have HV1 := Lib.hid (HV.out.below hb)
  go_wp2_with fail
  refine (HV1.out.check).mono ?_
  rintro e1 w2 ⟨rfl, hb2⟩
  have hS := hS.carry hb2
  have hb := hb.trans (hb2.mono hb.size)
  have HV2 := Lib.hid (HV1.out.below hb2)
  have hgs := hS.lt
  have HS := Lib.hid hS
  have HB := Lib.hid hb
  clear FS HV1 hb2
  have FS := hS.facts5
  clear hS hb
  go_wp2_with fail
  go_loopw [5, 6] (fun s5 iv wr => ∃ (i : Nat) (O : Option Addr) (co : Nat), i ≤ m ∧ iv = .int .i64 ((i : Int) - 1) ∧ s5 = .slice O (m - i) co ∧ m - i ≤ co ∧ co ≤ 9223372036854775807 ∧ OwnX rcells 2 wr w2.heap.size 35 O co (hs.drop i).reverse ∧ Below w2.heap.size w2 wr) (fun _ iv _ => (intOf iv + 1).toNat)
  case atStart => exact ⟨m, none, 0, Nat.le_refl _, rfl, by rw [Nat.sub_self], by omega, by decide, by rw [List.drop_of_length_le (by rw [HV2.out.hm]; exact Nat.le_refl _)]; exact OwnX.nil _ _ _, Below.refl _ _⟩
  case round =>
    obtain ⟨i, O, co, hi, rfl, rfl, hoc, hom, hO, hbr⟩ := hrel
    clear FS
    have hS := HS.out.carry hbr
    have FS := hS.facts5
    have hgr := hS.lt
    have HO := Lib.hid hO
    clear hS hO
    by_cases hlt : 0 < i
    · obtain ⟨j, rfl⟩ : ∃ j, i = j + 1 := ⟨i - 1, by omega⟩
      have hlen := HV2.out.hm
      obtain ⟨b, off, rfl, hcell⟩ := (RdX.below HV2.out.rb hbr).rcell (by omega)
      obtain ⟨c0, c1⟩ := hcell j (by omega)
      have HD : Hid ((hs.drop (j + 1)).reverse ++ [hs.getD j (0, 0)] = (hs.drop j).reverse) := by
        show _ = _
        rw [List.drop_eq_getElem_cons (show j < hs.length by omega), List.reverse_cons]
        simp [List.getD, show j < hs.length by omega]
      have HL : Hid ((hs.drop (j + 1)).reverse.length = m - (j + 1)) := by show _ = _; rw [List.length_reverse, List.length_drop, hlen]
      generalize hs.getD j (0, 0) = x at *
      obtain ⟨lo, hi_⟩ := x
      simp only at c0 c1
      clear hlen hcell
      have hj1 : ((((j + 1 : Nat) : Int)) - 1) = (j : Int) := by omega
      rw [hj1]
      have hj0 : (0 : Int) ≤ (j : Int) := by omega
      have hjm : (j : Int) < (m : Int) := by omega
      have hwj : IntKind.i64.wrap ((j : Int) - 1) = (j : Int) - 1 := by rw [IntKind.wrap_i64]; omega
      have hsz := hbr.size
      go_wp2_with (at_builtin
                   refine wpList_appL rcells 2 rcells_one _ rfl (.tmp 20) (.tmp 26) _ rfl w2.heap.size 35 _ 16 Try.underlying23 rngInfo rfl (by decide) (by decide) O (m - (j + 1)) co ((hs.drop (j + 1)).reverse) rfl HL.out (HO.out.alloc _) _ 1 1 [(lo, hi_)] rfl rfl (RdX.oneH _ _ (lo, hi_) _ rfl rfl (by simp)) _ HD.out (m - j) (by omega) (by omega) (by simp; omega) ?_
                   intro A6 c6 w6 hO6 hc6 hc6' hb6 hgr6 hat6)
      go_roundw
      case rel => exact ⟨j, A6, c6, by omega, by first | (go_num; done) | rfl, rfl, hc6, hc6', hO6, (hbr.alloc hbr.size _).trans hb6⟩
      case measure => first | (simp [intOf]; done) | (simp [intOf]; omega)
    · obtain rfl : i = 0 := by omega
      have hm0 : m - 0 = m := rfl
      go_wp2_with fail
      go_ret2
      exact ⟨O, co, by first | rfl | simp, by omega, hom, by simpa using HO.out.rd, HB.out.trans (hbr.mono HB.out.size)⟩

set_option maxRecDepth 100000 in
set_option maxHeartbeats 2000000 in
theorem spaceTells_any (w : World) : Calls Try.prog 13 #[] w fun e w' => e = .returned (.bool true) ∧ Below w.heap.size w w' := by
  go_enter Try.func13, Try.ntmps13
  go_wp2_with fail
  refine (spBegin_ok _).mono ?_
  rintro e w1 ⟨rfl, hb1⟩
  go_wp2_with fail
  refine (spTell_any 0 none 0 0 (-1) none 0 0 none 0 0 [] [] [] _ (SpV.none _)).mono ?_
  rintro e w2 ⟨O, co, rfl, hoc, hom, hO, hb2⟩
  have hb := hb1.trans (hb2.mono hb1.size)
  clear hO hb1 hb2
  go_wp2_with fail
  refine (spBegin_ok _).mono ?_
  rintro e w3 ⟨rfl, hb3⟩
  go_wp2_with fail
  refine (spSend_ok 0 none 0 0 (-1) none 0 0 none 0 0 [] [] [] 1 1 (by decide) (by decide) (by decide) (by decide) _ (SpV.none _)).mono ?_
  rintro e w4 ⟨A', c', B', d', C', k', rfl, hV, hb4⟩
  have hb := (hb.trans (hb3.mono hb.size))
  have hb := hb.trans (hb4.mono hb.size)
  clear hV hb3 hb4
  go_wp2_with fail
  refine (spBegin_ok _).mono ?_
  rintro e w5 ⟨rfl, hb5⟩
  have hb6 : ∀ o, Below w.heap.size w (w4.alloc o) := fun o => hb.alloc hb.size o
  have hb7 := (hb6 _).trans (hb5.mono (hb6 _).size)
  have hfd : ∀ w, (Instr.field 26 (.agg #[.int .i64 0, .slice none 0 0, .int .i64 (-1), .slice none 0 0, .slice none 0 0]) 2).run Try.prog w = .ok (.int .i64 (-1)) w := fun _ => by kernel_rfl
  go_wp2_with fail
  go_ret
  exact ⟨by first | rfl | simp, hb7⟩
end Go.Proofs.Ytoonohhjcfceeaa
