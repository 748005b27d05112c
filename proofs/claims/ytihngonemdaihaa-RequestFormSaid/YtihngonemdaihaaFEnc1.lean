/- The contract of fields.Encode of one field, that all know, or that is in no table. -/
import Derived.Test.YtihngonemdaihaaFPen
import Derived.Test.YtihngonemdaihaaFDec
import Derived.Test.YtihngonemdaihaaResizeWalk
import Derived.BigRegion
import Derived.Deep.RegionHeld3
import Derived.BigQuiet
namespace Go.Proofs.Ytihngonemdaihaa
open Go.ChangeShapes Go.WideShapes Go.ChangeAt Go.RowKit
set_option linter.unusedVariables false

/-- The bytes of one field. -/
def enc1 (x y : ByteArray) (K : Nat) (s : Bool) : List UInt8 := if s then pEnc 8 0 0 ++ pEnc 6 192 K else (pEnc 8 0 0 ++ (pEnc 3 32 x.size ++ bts x)) ++ (pEnc 7 0 y.size ++ bts y)
/-- What Encode answers. -/
def Enc1Out (w : World) (r : Nat) (x y : ByteArray) (K : Nat) (s : Bool) (e' : Ending) (w' : World) : Prop := ∃ (A' : Option Addr) (c' : Nat) (A2 : Option Addr) (n2 c2 : Nat), e' = .returned (.tuple #[.agg #[.int .i64 (r : Int), .int .i64 0, .slice A' 0 c'], .slice none 0 0, .slice A2 n2 c2, .int .i64 0]) ∧ (enc1 x y K s).length = n2 ∧ n2 ≤ c2 ∧ c2 ≤ 9223372036854775807 ∧ RdB w' A2 (enc1 x y K s) ∧ Below w.heap.size w w'

theorem Blk.newQ {w : World} {t : TypeId} {cs : Array Value} {H : Nat} (hH : w.heap.size = H) : Blk (w.alloc (.cells cs t)) H t cs := by subst hH; exact Blk.new _ _ _
theorem intInfoF : (Try.prog.info? 3).map (fun i => (i.zero, i.size, i.bytes)) = some (some (.int .i64 0), 1, 8) := by kernel_rfl
set_option maxRecDepth 100000 in
set_option maxHeartbeats 8000000 in
theorem fEncode_one (w : World) (r : Nat) (hr : r ≤ 160) (x y : ByteArray) (hok : FOk (x, y)) (ah : Bool) (K : Nat) (s t : Bool) (hK : knownR (x, y) = (K, s, t)) (hcase : s = true ∨ (s = false ∧ t = false ∧ ah = false)) (hK11 : K ≤ 11) (L : Option Addr) (cL : Nat) (hc1 : 1 ≤ cL) (hc2 : cL ≤ 9223372036854775807) (hrd : RdX fcells 2 w L [(x, y)]) :
    Calls Try.prog 17 #[.agg #[.int .i64 (r : Int), .int .i64 0, .slice none 0 0], .slice L 1 cL, .bool ah] w (Enc1Out w r x y K s) := by
  have HRD := Lib.hid hrd
  have HKN := Lib.hid hK
  have HOK := Lib.hid hok
  have hch : fchkR [(x, y)] = 0 := fchkR_ok (by simp) (fun j hj => by (obtain rfl : j = 0 := by simp at hj; omega); exact (fokB_iff _).2 hok)
  have HCH := Lib.hid hch
  clear hrd hK hok hch
  go_enter Try.func17, Try.ntmps17
  go_upto_region 1 with (fail)
  refine wp_world (fun w' => Blk w' w.heap.size 29 #[.int .i64 (r : Int), .int .i64 0, .slice none 0 0] ∧ Blk w' (w.heap.size + 1) 29 #[.int .i64 0, .int .i64 0, .slice none 0 0] ∧ Below w.heap.size w w') ⟨(Blk.new _ _ _).alloc _, Blk.new1 _ _ _ _, ((Below.refl _ _).alloc (Nat.le_refl _) _).alloc (by simp) _⟩ ?_
  rintro w1 ⟨hT1, hZ1, hb1⟩
  have FT := hT1.facts3
  go_wp2_with fail
  refine (tCheck_ok (r : Int) 0 none 0 0 [] rfl (Nat.le_refl _) (by decide) (by omega) (by omega) (by decide) (by decide) (fun f hf => absurd hf List.not_mem_nil) (by simp [tsz]) _ RdX.nil).mono ?_
  rintro e w2 ⟨rfl, hb2⟩
  have hT2 := hT1.carry hb2
  have hZ2 := hZ1.carry hb2
  have hb12 := hb1.trans (hb2.mono hb1.size)
  clear FT hT1 hZ1 hb1 hb2
  have FT := hT2.facts3
  go_wp2_with fail
  refine (fCheck_any L 1 cL [(x, y)] rfl hc1 hc2 _ (RdX.below HRD.out hb12) 0 HCH.out).mono ?_
  rintro e w3 ⟨rfl, hb3⟩
  have hT3 := hT2.carry hb3
  have hZ3 := hZ2.carry hb3
  have hb13 := hb12.trans (hb3.mono hb12.size)
  clear FT hT2 hZ2 hb12 hb3
  have FT := hT3.facts3
  go_wp2_with fail
  refine (tResize_ok r 0 none 0 0 [] rfl (Nat.le_refl _) (by decide) hr (by decide) (by decide) (fun f hf => absurd hf List.not_mem_nil) (by simp [tsz]) r hr [] 0 (by simp [fitR]) rfl _ RdX.nil).mono ?_
  rintro e w4 ⟨A4, c4, rfl, hc4, hc4', hR4, hb4⟩
  have hT4 := hT3.carry hb4
  have hZ4 := hZ3.carry hb4
  have hb14 := hb13.trans (hb4.mono hb13.size)
  have hz4 := hZ4.lt
  clear FT hT3 hZ3 hb13 hb4 hR4
  have FT := hT4.facts3
  have hmk : ∀ W, (Instr.makeSlice 68 (.int .i64 1) (.int .i64 1)).run Try.prog W = .ok (.slice (some ⟨W.heap.size, 0, none⟩) 1 1) (W.alloc (.cells (madeCells #[.int .i64 0] 1) 3)) :=
    fun W => run_make_row' 68 3 (.int .i64 0) 8 Try.underlying68 intInfoF rfl .i64 .i64 1 (by omega) (by omega) W
  have hmc : madeCells #[.int .i64 0] 1 = #[.int .i64 0] := by kernel_rfl
  rw [hmc] at hmk
  go_upto_region 12 with (fail)
  obtain ⟨gP, hgP⟩ : ∃ q, w4.heap.size = q := ⟨_, rfl⟩
  obtain ⟨gI, hgI⟩ : ∃ q, w4.heap.size + 1 = q := ⟨_, rfl⟩
  refine wp_world (fun w' => Blk w' w.heap.size 29 #[.int .i64 (r : Int), .int .i64 0, .slice A4 0 c4] ∧ Blk w' (w.heap.size + 1) 29 #[.int .i64 0, .int .i64 0, .slice none 0 0] ∧ Blk w' w4.heap.size 67 #[.slice none 0 0] ∧ Blk w' (w4.heap.size + 1) 3 #[.int .i64 0] ∧ Below w.heap.size w w') ⟨?f1, ?f2, ?f3, ?f4, ?f5⟩ ?_
  case f1 => exact (((((hT4.set_ 0 _).set_ 1 _).set_ 2 _).as (by rfl)).alloc _).alloc _
  case f2 => exact ((((hZ4.far (p := ⟨w.heap.size, 0, none⟩) (by show w.heap.size + 1 ≠ w.heap.size; omega) _).far (p := ⟨w.heap.size, 1, none⟩) (by show w.heap.size + 1 ≠ w.heap.size; omega) _).far (p := ⟨w.heap.size, 2, none⟩) (by show w.heap.size + 1 ≠ w.heap.size; omega) _).alloc _).alloc _
  case f3 => exact (Blk.newQ (by simp)).alloc _
  case f4 => exact Blk.newQ (by simp)
  case f5 =>
    have h := hb14
    (repeat (first | with_reducible exact h | with_reducible refine Below.drew ?_ | (with_reducible refine Below.set4 ?_ ?side _ _ _ _; case side => (first | omega | (simp; omega) | (simp; done))) | (with_reducible refine Below.setCell ?_ ?side _; case side => (first | omega | (simp; omega) | (simp; done))) | (with_reducible refine Below.alloc ?_ ?side _; case side => (first | omega | (simp; omega) | (simp; done)))))
  rintro w5 ⟨hT5, hZ5, hP5, hI5, hb5⟩
  clear FT hT4 hZ4 hb14 hmk hmc
  have hgPI : w.heap.size + 1 < gP ∧ gP < gI := by omega
  rw [hgP] at hP5
  rw [hgI] at hI5
  rw [hgI, hgP]
  have hgl5 := hI5.lt
  clear hgP hgI hz4
  obtain ⟨Lb, Lo, hL, hcell⟩ := HRD.out.fcell (by simp)
  subst hL
  have HCELL : Hid (∀ W, Below w.heap.size w W → W.cell? ⟨Lb, Lo, none⟩ = some (.string x) ∧ W.cell? ⟨Lb, Lo + 1, none⟩ = some (.string y)) := Lib.hid (fun W hW => by
    obtain ⟨b, o, he, hc⟩ := (RdX.below HRD.out hW).fcell (by simp)
    injection he with he
    injection he with e1 e2
    subst e1 e2
    have := hc 0 (by simp)
    simpa using this)
  clear hcell
  obtain ⟨c0, c1⟩ := HCELL.out _ hb5
  have hfI := hI5.frozen 0
  have hcI := hI5.two1
  refine wp_loop_rounds 2 ?_
  rw [rounds_succ]
  go_upto_region 15 with (fail)
  refine wp_world (fun w' => Blk w' w5.heap.size 47 #[.string x, .string y] ∧ Blk w' w.heap.size 29 #[.int .i64 (r : Int), .int .i64 0, .slice A4 0 c4] ∧ Blk w' (w.heap.size + 1) 29 #[.int .i64 0, .int .i64 0, .slice none 0 0] ∧ Blk w' gP 67 #[.slice none 0 0] ∧ Blk w' gI 3 #[.int .i64 (-1)] ∧ Below w.heap.size w w') ⟨?f0, ?f1, ?f2, ?f3, ?f4, ?f5⟩ ?_
  case f0 => exact Blk.newQ (by simp)
  case f1 => exact (hT5.far (p := ⟨gI, 0, none⟩) (by show w.heap.size ≠ gI; omega) _).alloc _
  case f2 => exact (hZ5.far (p := ⟨gI, 0, none⟩) (by show w.heap.size + 1 ≠ gI; omega) _).alloc _
  case f3 => exact (hP5.far (p := ⟨gI, 0, none⟩) (by show gP ≠ gI; omega) _).alloc _
  case f4 => exact ((hI5.set_ 0 (.int .i64 (-1))).as (ds := #[.int .i64 (-1)]) (by rfl)).alloc _
  case f5 =>
    have h := hb5
    (repeat (first | with_reducible exact h | with_reducible refine Below.drew ?_ | (with_reducible refine Below.set4 ?_ ?side _ _ _ _; case side => (first | omega | (simp; omega) | (simp; done))) | (with_reducible refine Below.setCell ?_ ?side _; case side => (first | omega | (simp; omega) | (simp; done))) | (with_reducible refine Below.alloc ?_ ?side _; case side => (first | omega | (simp; omega) | (simp; done)))))
  clear hT5 hZ5 hP5 hI5 hb5 c0 c1 hfI hcI
  generalize w5.heap.size = gF at *
  rintro w6 ⟨hF6, hT6, hZ6, hP6, hI6, hb6⟩
  have FF := hF6.two
  have HF6 := Lib.hid hF6
  have HT6 := Lib.hid hT6
  have HZ6 := Lib.hid hZ6
  have HP6 := Lib.hid hP6
  have HI6 := Lib.hid hI6
  have HB6 := Lib.hid hb6
  clear hF6 hT6 hZ6 hP6 hI6 hb6
  go_wp2_with fail
  refine (fknown_any x y K s t HKN.out _).mono ?_
  rintro e w7 ⟨rfl, hb7⟩
  have HF7 := Lib.hid (HF6.out.carry hb7)
  have HT7 := Lib.hid (HT6.out.carry hb7)
  have HZ7 := Lib.hid (HZ6.out.carry hb7)
  have HP7 := Lib.hid (HP6.out.carry hb7)
  have HI7 := Lib.hid (HI6.out.carry hb7)
  have HB7 := Lib.hid (HB6.out.trans (hb7.mono HB6.out.size))
  clear FF HF6 HT6 HZ6 HP6 HI6 HB6 hb7
  rcases hcase with rfl | ⟨rfl, rfl, rfl⟩
  ·
    -- [[same
    have HTq := HT7
    have HZq := HZ7
    have HPq := HP7
    have HIq := HI7
    have HBq := HB7
    clear HT7 HZ7 HP7 HI7 HB7 HF7
    go_wp2_with fail
    rw [rounds_succ]
    go_upto_region 28 with (fail)
    obtain ⟨gO, hgO⟩ : ∃ q, w7.heap.size = q := ⟨_, rfl⟩
    refine wp_world (fun w' => Blk w' w.heap.size 29 #[.int .i64 (r : Int), .int .i64 0, .slice A4 0 c4] ∧ Blk w' (w.heap.size + 1) 29 #[.int .i64 0, .int .i64 0, .slice none 0 0] ∧ Blk w' gP 67 #[.slice none 0 0] ∧ Blk w' gI 3 #[.int .i64 (-1)] ∧ PenF w' w7.heap.size w7.heap.size [] ∧ Below w.heap.size w w') ⟨HTq.out.alloc _, HZq.out.alloc _, HPq.out.alloc _, HIq.out.alloc _, ⟨none, 0, 0, rfl, Blk.newQ rfl, OwnB.nil _ _ _⟩, HBq.out.alloc HBq.out.size _⟩ ?_
    have hzq := HIq.out.lt
    clear HTq HZq HPq HIq HBq
    rw [hgO] at hzq ⊢
    clear hgO
    rintro w9 ⟨hT9, hZ9, hP9, hI9, hO9, hb9⟩
    have HT9 := Lib.hid hT9
    have HZ9 := Lib.hid hZ9
    have HP9 := Lib.hid hP9
    have HI9 := Lib.hid hI9
    have HO9 := Lib.hid hO9
    have HB9 := Lib.hid hb9
    clear hT9 hZ9 hP9 hI9 hO9 hb9
    go_wp2_with fail
    refine (fpNumber_any gO gO [] 8 (by decide) (by decide) 0 (by decide) 0 (by decide) (by simp) _ (Nat.le_refl _) HO9.out).mono ?_
    rintro e w10 ⟨rfl, hO10, _, hb10⟩
    rw [List.nil_append] at hO10
    have HT10 := Lib.hid (HT9.out.below hb10 (by omega))
    have HZ10 := Lib.hid (HZ9.out.below hb10 (by omega))
    have HP10 := Lib.hid (HP9.out.below hb10 (by omega))
    have HI10 := Lib.hid (HI9.out.below hb10 (by omega))
    have HB10 := Lib.hid (HB9.out.trans (hb10.mono (by omega)))
    have HO10 := Lib.hid hO10
    clear HT9 HZ9 HP9 HI9 HO9 HB9 hb10 hO10
    obtain ⟨c0, c1⟩ := HCELL.out _ HB10.out
    go_upto_region 30 with (fail)
    refine wp_loop_rounds 2 ?_
    rw [rounds_succ]
    go_upto_region 32 with (fail)
    refine wp_world (fun w' => Blk w' w10.heap.size 47 #[.string x, .string y] ∧ Below w10.heap.size w10 w') ⟨Blk.newQ rfl, (Below.refl _ _).alloc (Nat.le_refl _) _⟩ ?_
    rintro w11 ⟨hF11, hb11⟩
    clear c0 c1
    have HT11 := Lib.hid (HT10.out.carry hb11)
    have HZ11 := Lib.hid (HZ10.out.carry hb11)
    have HP11 := Lib.hid (HP10.out.carry hb11)
    have HI11 := Lib.hid (HI10.out.carry hb11)
    have HB11 := Lib.hid (HB10.out.trans (hb11.mono HB10.out.size))
    have HO11 := Lib.hid (HO10.out.carry hb11)
    have hgO10 := HO10.out.lt
    generalize w10.heap.size = gG at *
    have FF := hF11.two
    have HF11 := Lib.hid hF11
    clear HT10 HZ10 HP10 HI10 HB10 HO10 hb11 hF11
    go_wp2_with fail
    refine (fknown_any x y K _ _ HKN.out _).mono ?_
    rintro e w12 ⟨rfl, hb12⟩
    have HT12 := Lib.hid (HT11.out.carry hb12)
    have HZ12 := Lib.hid (HZ11.out.carry hb12)
    have HP12 := Lib.hid (HP11.out.carry hb12)
    have hI12 := HI11.out.carry hb12
    have HB12 := Lib.hid (HB11.out.trans (hb12.mono HB11.out.size))
    have HO12 := Lib.hid (HO11.out.carry hb12)
    have hF12 := HF11.out.carry hb12
    clear FF HT11 HZ11 HP11 HI11 HB11 HO11 HF11 hb12
    have FF := hF12.two
    have cI := hI12.two1
    go_wp2_with fail
    refine (fpNumber_any gO gO _ 6 (by decide) (by decide) 192 (by decide) K (by omega) (by have := pEnc_len 8 0 0; omega) _ (Nat.le_refl _) HO12.out).mono ?_
    rintro e w13 ⟨rfl, hO13, _, hb13⟩
    have HTz := Lib.hid (HT12.out.below hb13 (by omega))
    have HZz := Lib.hid (HZ12.out.below hb13 (by omega))
    have HPz := Lib.hid (HP12.out.below hb13 (by omega))
    have HBz := Lib.hid (HB12.out.trans (hb13.mono (by omega)))
    have HOz : Hid (PenF w13 gO gO (enc1 x y K true)) := Lib.hid hO13
    clear HT12 HZ12 HP12 hI12 HB12 HO12 hF12 hO13 hb13 FF cI
    go_wp2_with fail
    rw [rounds_succ]
    go_upto_region 43 with (fail)
    obtain ⟨A6, n6, c6, hn6, hG6, hO6⟩ := HOz.out
    have FT := HTz.out.facts3
    have cP := HPz.out.two1
    have cG := hG6.two1
    have FZ := HZz.out.facts3
    have hcap := hO6.cap
    rw [hn6] at hcap
    unfold maxLen at hcap
    have hne : w.heap.size ≠ w.heap.size + 1 ∧ w.heap.size + 1 ≠ w.heap.size ∧ gP ≠ w.heap.size + 1 ∧ w.heap.size + 1 ≠ gP ∧ gO ≠ w.heap.size + 1 ∧ w.heap.size + 1 ≠ gO := ⟨by omega, by omega, by omega, by omega, by omega, by omega⟩
    go_region_held3 (fun w' => w'.cell? ⟨w.heap.size, 0, none⟩ = some (.int .i64 (r : Int)) ∧ w'.cell? ⟨w.heap.size, 1, none⟩ = some (.int .i64 0) ∧ w'.cell? ⟨w.heap.size, 2, none⟩ = some (.slice A4 0 c4) ∧ w'.cell? ⟨gP, 0, none⟩ = some (.slice none 0 0) ∧ w'.cell? ⟨gO, 0, none⟩ = some (.slice A6 n6 c6)) (go_keep) (fail)
    all_goals
      clear hne
      have HOO := Lib.hid hO6
      have HBB := Lib.hid HBz.out
      go_wp2_with fail
      refine bodyPost_ret (v := .tuple #[.agg #[.int .i64 (r : Int), .int .i64 0, .slice A4 0 c4], .slice none 0 0, .slice A6 n6 c6, .int .i64 0]) ?_ rfl ⟨A4, c4, A6, n6, c6, rfl, hn6, hcap.1, by omega, ?_, ?_⟩
      · simp [results, Try.results17, go_sem, FZ] <;> rfl
      · refine OwnB.rd (base := gO) (E := 5) (c := c6) ?_
        have h := HOO.out
        unfold OwnB at h ⊢
        (repeat (first | with_reducible exact h | with_reducible refine World.ownsRow.drew ?_ | (with_reducible refine ownsRow_setCell_below ?_ ?side _; case side => (first | omega | (simp; omega) | (simp; done))) | with_reducible refine World.ownsRow.alloc ?_ _))
      · have h := HBB.out
        (repeat (first | with_reducible exact h | with_reducible refine Below.drew ?_ | (with_reducible refine Below.set4 ?_ ?side _ _ _ _; case side => (first | omega | (simp; omega) | (simp; done))) | (with_reducible refine Below.setCell ?_ ?side _; case side => (first | omega | (simp; omega) | (simp; done))) | (with_reducible refine Below.alloc ?_ ?side _; case side => (first | omega | (simp; omega) | (simp; done)))))
    -- ]]same
  ·
    -- [[plain
    have FF := HF7.out.two
    have FT := HT7.out.facts3
    go_wp2_with fail
    refine (tFind_any r 0 A4 0 c4 [] rfl hc4 hc4' hr (by decide) (by decide) (fun f hf => absurd hf List.not_mem_nil) (by simp [tsz]) x y _ RdX.nil).mono ?_
    rintro e w8 ⟨hor, hb8⟩
    have he : e = .returned (.tuple #[.int .i64 0, .bool false, .int .i64 5]) := by
      rcases hor with ⟨j, v, hj, _⟩ | ⟨j, v, hj, _⟩ | ⟨h, _⟩
      · exact absurd hj (by omega)
      · exact absurd hj (by omega)
      · exact h
    subst he
    have HT8 := Lib.hid (HT7.out.carry hb8)
    have HZ8 := Lib.hid (HZ7.out.carry hb8)
    have HP8 := Lib.hid (HP7.out.carry hb8)
    have HI8 := Lib.hid (HI7.out.carry hb8)
    have HB8 := Lib.hid (HB7.out.trans (hb8.mono HB7.out.size))
    clear hor hb8 FF FT HT7 HZ7 HP7 HI7 HB7 HF7
    go_upto_region 20 with (fail)
    go_quiet (fail)
    go_upto_region 25 with (fail)
    refine wp_world (fun w' => Blk w' w.heap.size 29 #[.int .i64 (r : Int), .int .i64 0, .slice A4 0 c4] ∧ Blk w' (w.heap.size + 1) 29 #[.int .i64 0, .int .i64 0, .slice none 0 0] ∧ Blk w' gP 67 #[.slice none 0 0] ∧ Blk w' gI 3 #[.int .i64 (-1)] ∧ Below w.heap.size w w') ⟨HT8.out, HZ8.out, HP8.out, HI8.out, by first | exact HB8.out | exact belowN HB8.out _⟩ ?_
    clear HT8 HZ8 HP8 HI8 HB8
    rintro w7 ⟨hTq, hZq, hPq, hIq, hBq⟩
    have cI := hIq.two1
    have HTq := Lib.hid hTq
    have HZq := Lib.hid hZq
    have HPq := Lib.hid hPq
    have HIq := Lib.hid hIq
    have HBq := Lib.hid hBq
    clear hTq hZq hPq hIq hBq
    go_wp2_with fail
    rw [rounds_succ]
    go_upto_region 28 with (fail)
    obtain ⟨gO, hgO⟩ : ∃ q, w7.heap.size = q := ⟨_, rfl⟩
    refine wp_world (fun w' => Blk w' w.heap.size 29 #[.int .i64 (r : Int), .int .i64 0, .slice A4 0 c4] ∧ Blk w' (w.heap.size + 1) 29 #[.int .i64 0, .int .i64 0, .slice none 0 0] ∧ Blk w' gP 67 #[.slice none 0 0] ∧ Blk w' gI 3 #[.int .i64 (-1)] ∧ PenF w' w7.heap.size w7.heap.size [] ∧ Below w.heap.size w w') ⟨HTq.out.alloc _, HZq.out.alloc _, HPq.out.alloc _, HIq.out.alloc _, ⟨none, 0, 0, rfl, Blk.newQ rfl, OwnB.nil _ _ _⟩, HBq.out.alloc HBq.out.size _⟩ ?_
    have hzq := HIq.out.lt
    clear HTq HZq HPq HIq HBq cI
    rw [hgO] at hzq ⊢
    clear hgO
    rintro w9 ⟨hT9, hZ9, hP9, hI9, hO9, hb9⟩
    have HT9 := Lib.hid hT9
    have HZ9 := Lib.hid hZ9
    have HP9 := Lib.hid hP9
    have HI9 := Lib.hid hI9
    have HO9 := Lib.hid hO9
    have HB9 := Lib.hid hb9
    clear hT9 hZ9 hP9 hI9 hO9 hb9
    go_wp2_with fail
    refine (fpNumber_any gO gO [] 8 (by decide) (by decide) 0 (by decide) 0 (by decide) (by simp) _ (Nat.le_refl _) HO9.out).mono ?_
    rintro e w10 ⟨rfl, hO10, _, hb10⟩
    rw [List.nil_append] at hO10
    have HT10 := Lib.hid (HT9.out.below hb10 (by omega))
    have HZ10 := Lib.hid (HZ9.out.below hb10 (by omega))
    have HP10 := Lib.hid (HP9.out.below hb10 (by omega))
    have HI10 := Lib.hid (HI9.out.below hb10 (by omega))
    have HB10 := Lib.hid (HB9.out.trans (hb10.mono (by omega)))
    have HO10 := Lib.hid hO10
    clear HT9 HZ9 HP9 HI9 HO9 HB9 hb10 hO10
    obtain ⟨c0, c1⟩ := HCELL.out _ HB10.out
    go_upto_region 30 with (fail)
    refine wp_loop_rounds 2 ?_
    rw [rounds_succ]
    go_upto_region 32 with (fail)
    refine wp_world (fun w' => Blk w' w10.heap.size 47 #[.string x, .string y] ∧ Below w10.heap.size w10 w') ⟨Blk.newQ rfl, (Below.refl _ _).alloc (Nat.le_refl _) _⟩ ?_
    rintro w11 ⟨hF11, hb11⟩
    clear c0 c1
    have HT11 := Lib.hid (HT10.out.carry hb11)
    have HZ11 := Lib.hid (HZ10.out.carry hb11)
    have HP11 := Lib.hid (HP10.out.carry hb11)
    have HI11 := Lib.hid (HI10.out.carry hb11)
    have HB11 := Lib.hid (HB10.out.trans (hb11.mono HB10.out.size))
    have HO11 := Lib.hid (HO10.out.carry hb11)
    have hgO10 := HO10.out.lt
    generalize w10.heap.size = gG at *
    have FF := hF11.two
    have HF11 := Lib.hid hF11
    clear HT10 HZ10 HP10 HI10 HB10 HO10 hb11 hF11
    go_wp2_with fail
    refine (fknown_any x y K _ _ HKN.out _).mono ?_
    rintro e w12 ⟨rfl, hb12⟩
    have HT12 := Lib.hid (HT11.out.carry hb12)
    have HZ12 := Lib.hid (HZ11.out.carry hb12)
    have HP12 := Lib.hid (HP11.out.carry hb12)
    have hI12 := HI11.out.carry hb12
    have HB12 := Lib.hid (HB11.out.trans (hb12.mono HB11.out.size))
    have HO12 := Lib.hid (HO11.out.carry hb12)
    have hF12 := HF11.out.carry hb12
    clear FF HT11 HZ11 HP11 HI11 HB11 HO11 HF11 hb12
    have FF := hF12.two
    have cI := hI12.two1
    go_wp2_with fail
    refine (fpText_any gO gO _ 3 (by decide) (by decide) 32 (by decide) x (by have h : x.size ≤ 20 := HOK.out.2.1; omega) (by have := pEnc_len 8 0 0; omega) _ (Nat.le_refl _) HO12.out).mono ?_
    rintro e w13 ⟨rfl, hO13, hk13, hb13⟩
    have HT13 := Lib.hid (HT12.out.below hb13 (by omega))
    have HZ13 := Lib.hid (HZ12.out.below hb13 (by omega))
    have HP13 := Lib.hid (HP12.out.below hb13 (by omega))
    have HB13 := Lib.hid (HB12.out.trans (hb13.mono (by omega)))
    have hF13 := hk13 _ _ _ (by omega) (by decide) hF12
    have HO13 := Lib.hid hO13
    have hu13 : (pEnc 8 0 0 ++ (pEnc 3 32 x.size ++ bts x)).length ≤ 20000 := by
      have h1 := pEnc_len 8 0 0
      have h2 := pEnc_len 3 32 x.size
      have h3 := HOK.out.2.1
      rw [List.length_append, List.length_append, bts_len]; simp only at h3; omega
    have HU13 := Lib.hid hu13
    clear HT12 HZ12 HP12 hI12 HB12 HO12 hF12 hO13 hb13 hk13 FF cI hu13
    have FF := hF13.two
    go_wp2_with fail
    refine (fpText_any gO gO _ 7 (by decide) (by decide) 0 (by decide) y (by have h : y.size ≤ 40 := HOK.out.2.2; omega) HU13.out _ (Nat.le_refl _) HO13.out).mono ?_
    rintro e w14 ⟨rfl, hO14, _, hb14⟩
    have HTz := Lib.hid (HT13.out.below hb14 (by omega))
    have HZz := Lib.hid (HZ13.out.below hb14 (by omega))
    have HPz := Lib.hid (HP13.out.below hb14 (by omega))
    have HBz := Lib.hid (HB13.out.trans (hb14.mono (by omega)))
    have HOz : Hid (PenF w14 gO gO (enc1 x y K false)) := Lib.hid hO14
    clear HT13 HZ13 HP13 HB13 HO13 hF13 hO14 hb14 FF
    go_wp2_with fail
    rw [rounds_succ]
    go_upto_region 43 with (fail)
    obtain ⟨A6, n6, c6, hn6, hG6, hO6⟩ := HOz.out
    have FT := HTz.out.facts3
    have cP := HPz.out.two1
    have cG := hG6.two1
    have FZ := HZz.out.facts3
    have hcap := hO6.cap
    rw [hn6] at hcap
    unfold maxLen at hcap
    have hne : w.heap.size ≠ w.heap.size + 1 ∧ w.heap.size + 1 ≠ w.heap.size ∧ gP ≠ w.heap.size + 1 ∧ w.heap.size + 1 ≠ gP ∧ gO ≠ w.heap.size + 1 ∧ w.heap.size + 1 ≠ gO := ⟨by omega, by omega, by omega, by omega, by omega, by omega⟩
    go_region_held3 (fun w' => w'.cell? ⟨w.heap.size, 0, none⟩ = some (.int .i64 (r : Int)) ∧ w'.cell? ⟨w.heap.size, 1, none⟩ = some (.int .i64 0) ∧ w'.cell? ⟨w.heap.size, 2, none⟩ = some (.slice A4 0 c4) ∧ w'.cell? ⟨gP, 0, none⟩ = some (.slice none 0 0) ∧ w'.cell? ⟨gO, 0, none⟩ = some (.slice A6 n6 c6)) (go_keep) (fail)
    all_goals
      clear hne
      have HOO := Lib.hid hO6
      have HBB := Lib.hid HBz.out
      go_wp2_with fail
      refine bodyPost_ret (v := .tuple #[.agg #[.int .i64 (r : Int), .int .i64 0, .slice A4 0 c4], .slice none 0 0, .slice A6 n6 c6, .int .i64 0]) ?_ rfl ⟨A4, c4, A6, n6, c6, rfl, hn6, hcap.1, by omega, ?_, ?_⟩
      · simp [results, Try.results17, go_sem, FZ] <;> rfl
      · refine OwnB.rd (base := gO) (E := 5) (c := c6) ?_
        have h := HOO.out
        unfold OwnB at h ⊢
        (repeat (first | with_reducible exact h | with_reducible refine World.ownsRow.drew ?_ | (with_reducible refine ownsRow_setCell_below ?_ ?side _; case side => (first | omega | (simp; omega) | (simp; done))) | with_reducible refine World.ownsRow.alloc ?_ _))
      · have h := HBB.out
        (repeat (first | with_reducible exact h | with_reducible refine Below.drew ?_ | (with_reducible refine Below.set4 ?_ ?side _ _ _ _; case side => (first | omega | (simp; omega) | (simp; done))) | (with_reducible refine Below.setCell ?_ ?side _; case side => (first | omega | (simp; omega) | (simp; done))) | (with_reducible refine Below.alloc ?_ ?side _; case side => (first | omega | (simp; omega) | (simp; done)))))
    -- ]]plain
end Go.Proofs.Ytihngonemdaihaa
