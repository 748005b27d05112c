/- The contract of table.fitted. -/
import Derived.Test.YtihngonemdaihaaTableWalk
namespace Go.Proofs.Ytihngonemdaihaa
open Go.ChangeShapes Go.WideShapes Go.ChangeAt Go.RowKit
set_option linter.unusedVariables false

theorem fldInfo : (Try.prog.info? 47).map (fun i => (i.zero, i.size, i.bytes)) = some (some (.agg #[.string ByteArray.empty, .string ByteArray.empty]), 2, 32) := by kernel_rfl

theorem fitR_tail (f : Fld) (l : List Fld) (room : Nat) (h : room < tsz (f :: l)) : fitR (f :: l) room = fitR l room := by rw [fitR, if_pos h]

set_option maxRecDepth 100000 in
set_option maxHeartbeats 1000000 in
theorem fitted_own (room put : Int) (A : Option Addr) (n c : Nat) (l : List Fld) (hn : l.length = n) (hnc : n ≤ c) (hcm : c ≤ 9223372036854775807) (r : Nat) (hs : tsz l ≤ 1000000) (R : List Fld) (k_ : Nat) (hR : fitR l r = R) (hk : R.length = k_) (w : World) (hr : RdX fcells 2 w A l) :
    Calls Try.prog 37 #[.agg #[.int .i64 room, .int .i64 put, .slice A n c], .int .i64 (r : Int)] w fun e w' => ∃ A' c', e = .returned (.agg #[.int .i64 room, .int .i64 put, .slice A' k_ c']) ∧ k_ ≤ c' ∧ c' ≤ 9223372036854775807 ∧ OwnX fcells 2 w' w.heap.size 47 A' c' R ∧ Below w.heap.size w w' := by
  have HN := Lib.hid hn
  have HR := Lib.hid hr
  have HRR := Lib.hid hR
  have HK := Lib.hid hk
  have hn1 : n ≤ 100000 := by have := tsz_len l; omega
  have HS := Lib.hid hs
  clear hn hr hR hk hs
  go_enter Try.func37, Try.ntmps37
  go_wp2_with fail
  have hB0 : Blk ((w.alloc (.cells #[.int .i64 room, .int .i64 put, .slice A n c] 29)).alloc (.cells #[.int .i64 0, .int .i64 0, .slice none 0 0] 29)) w.heap.size 29 #[.int .i64 room, .int .i64 put, .slice A n c] := (Blk.new _ _ _).alloc _
  have hC0 : Blk ((w.alloc (.cells #[.int .i64 room, .int .i64 put, .slice A n c] 29)).alloc (.cells #[.int .i64 0, .int .i64 0, .slice none 0 0] 29)) (w.heap.size + 1) 29 #[.int .i64 0, .int .i64 0, .slice none 0 0] := Blk.new1 _ _ _ _
  go_loopw [5] (fun v wr => ∃ (A' : Option Addr) (m c' : Nat) (xs : List Fld), v = .slice A' m c' ∧ xs.length = m ∧ m ≤ n ∧ m ≤ c' ∧ c' ≤ 9223372036854775807 ∧ Hid (fitR xs r = R) ∧ tsz xs ≤ 1000000 ∧ RdX fcells 2 wr A' xs ∧
      Blk wr w.heap.size 29 #[.int .i64 room, .int .i64 put, .slice A n c] ∧ Blk wr (w.heap.size + 1) 29 #[.int .i64 0, .int .i64 0, .slice none 0 0] ∧ Below w.heap.size w wr) (fun v _ => match v with | .slice _ m _ => m | _ => 0)
  case atStart => exact ⟨A, n, c, l, rfl, HN.out, Nat.le_refl _, hnc, hcm, HRR.out, HS.out, (HR.out.alloc _).alloc _, hB0, hC0, ((Below.refl _ _).alloc (Nat.le_refl _) _).alloc (by simp) _⟩
  case round =>
    obtain ⟨A', m, c', xs, rfl, hm, hmn, hmc, hc', HX, hts, hrd, hB, hC, hb⟩ := hrel
    clear hB0 hC0
    obtain ⟨s, hs2⟩ : ∃ s, tsz xs = s := ⟨_, rfl⟩
    rw [hs2] at hts
    have HM := Lib.hid hm
    have HSS := Lib.hid hs2
    have HRD := Lib.hid hrd
    clear hm hs2 hrd
    go_wp2_with fail
    refine (tsize_any A' m c' xs HM.out hmc hc' s HSS.out hts _ HRD.out).mono ?_
    rintro e w1 ⟨rfl, hb1⟩
    have hB1 := hB.carry hb1
    have hC1 := hC.carry hb1
    have hbz := hb.trans (hb1.mono hb.size)
    have HRD1 := Lib.hid (RdX.below HRD.out hb1)
    clear hB hC hb hb1 HRD
    have FB := hB1.facts3
    have FC := hC1.facts3
    by_cases hlt : r < s
    · have hx0 : 0 < xs.length := by
        rcases Nat.eq_zero_or_pos xs.length with h | h
        · obtain rfl := List.eq_nil_of_length_eq_zero h
          have := HSS.out; simp [tsz] at this; omega
        · exact h
      have hm1 : 1 ≤ m := by have := HM.out; omega
      obtain ⟨b, off, hA, _⟩ := HRD1.out.fcell hx0
      subst hA
      have hcu := RdX.cut fcells_len HRD1.out (k := 1) (cap := c') (by omega) (by rw [HM.out]; exact hmc)
      have hfit : fitR (xs.drop 1) r = R := by
        cases xs with
        | nil => simp at hx0
        | cons f ys => rw [← HX.out, fitR_tail f ys r (by rw [HSS.out]; exact hlt)]; rfl
      have hld : (xs.drop 1).length = m - 1 := by rw [List.length_drop, HM.out]
      have htd : tsz (xs.drop 1) ≤ 1000000 := by have := tsz_drop_le xs 1; rw [HSS.out] at this; omega
      have HCU := Lib.hid hcu
      have HFI := Lib.hid hfit
      have HLD := Lib.hid hld
      have HTD := Lib.hid htd
      clear hcu hfit hld htd hx0 HX HRD1
      generalize xs.drop 1 = ys at *
      go_wp2_with fail
      refine ⟨⟨_, m - 1, c' - 1, ys, rfl, HLD.out, by omega, by omega, by omega, HFI, HTD.out, ?_, hB1, hC1, hbz⟩, by simp; omega⟩
      have := HCU.out
      rw [show (some (⟨b, off, none⟩ : Addr)).map (·.add (1 * 2)) = some ⟨b, off + 2, none⟩ from by simp [add_none]] at this
      exact this
    · have hRe : xs = R := by rw [← HX.out, fitR_same xs r (by rw [HSS.out]; omega)]
      have hkm : m = k_ := by rw [← HM.out, hRe]; exact HK.out
      subst hkm
      have hrd := HRD1.out
      rw [hRe] at hrd
      have HRD2 := Lib.hid hrd
      clear hrd hRe HRD1
      go_wp2_with (at_builtin
                   refine wpList_appX fcells 2 fcells_one _ rfl (.tmp 14) (.tmp 15) _ rfl w1.heap.size 47 _ 32 Try.underlying23 fldInfo rfl (by decide) (by decide) (some ⟨w1.heap.size, 0, none⟩) 0 0 [] rfl rfl (OwnX.made fcells 2 w1 _ _ (Nat.le_refl _)) _ _ _ R rfl HK.out (RdX.alloc HRD2.out _) _ rfl _ rfl (by omega) (by simp) ?_
                   intro A5 c5 w5 hO5 hc5 hc5' hb5 hgr5
                   have FB5 := ((hB1.alloc _).below hb5 (by omega)).facts3
                   have FC5 := ((hC1.alloc _).below hb5 (by omega)).facts3)
      have hB5 : Blk w5 w.heap.size 29 #[.int .i64 room, .int .i64 put, .slice A n c] := (hB1.alloc _).below hb5 (by omega)
      have hC5 : Blk w5 (w.heap.size + 1) 29 #[.int .i64 0, .int .i64 0, .slice none 0 0] := (hC1.alloc _).below hb5 (by omega)
      have hbn := (hbz.alloc hbz.size _).trans (hb5.mono hbz.size)
      refine bodyPost_ret (v := .agg #[.int .i64 room, .int .i64 put, .slice A5 m c5]) ?_ rfl ⟨A5, c5, ?_, by omega, hc5', ?_, ?_⟩
      · simp [results, Try.results37, go_sem, FC5]
      · simp
      · have hg1 : w.heap.size < w1.heap.size := hB1.lt
        have hg2 : w.heap.size + 1 < w1.heap.size := hC1.lt
        exact ((((hO5.set_below (by simpa using hg1) _).set_below (by simpa using hg2) _).set_below (by simpa using hg2) _).set_below (by simpa using hg2) _).mono hbz.size
      · (repeat (first | with_reducible exact hbn | with_reducible refine Below.drew ?_ | (with_reducible refine Below.set4 ?_ ?side _ _ _ _; case side => (first | omega | (simp; omega) | (simp; done))) | (with_reducible refine Below.setCell ?_ ?side _; case side => (first | omega | (simp; omega) | (simp; done))) | (with_reducible refine Below.alloc ?_ ?side _; case side => (first | omega | (simp; omega) | (simp; done)))))
end Go.Proofs.Ytihngonemdaihaa
