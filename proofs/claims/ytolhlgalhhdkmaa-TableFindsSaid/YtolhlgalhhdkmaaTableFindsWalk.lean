/- The walk of the law TableFinds. -/
import Derived.Test.YtolhlgalhhdkmaaTableOfWalk
import Derived.Test.YtolhlgalhhdkmaaTableTellsWalk
import Derived.Test.YtolhlgalhhdkmaaFindWalk
import Derived.Test.YtolhlgalhhdkmaaRawArg
import Derived.Deep.QuietTactic
import Derived.BigQuiet
namespace Go.Proofs.Ytolhlgalhhdkmaa
open Go.ChangeShapes Go.WideShapes Go.ChangeAt Go.RowKit
set_option linter.unusedVariables false

set_option maxRecDepth 100000 in
set_option maxHeartbeats 1000000 in
theorem tableFinds_walk (room : Int) (a : Option Addr) (len cap : Nat) (rs : List RawD) (q : RawD) (w : World) (hroom : (Lit.int .i64 room).wf = true) (h : IsRaws w a len cap rs) (hq : RawOk q) :
    Calls Try.prog 10 #[.int .i64 room, .slice a len cap, rawV q] w fun e w' => e = .returned (.bool true) ∧ Below w.heap.size w w' := by
  have rr := i64_bounds' hroom
  clear hroom
  unfold rawV
  go_enter Try.func10, Try.ntmps10
  go_upto_region 1 with (fail)
  refine wp_world (fun w' => Blk w' w.heap.size 27 #[.int .i64 q.kind, .int .i64 q.a, .int .i64 q.b, .string q.text] ∧ IsRaws w' a len cap rs ∧ Below w.heap.size w w') ⟨Blk.new _ _ _, h.keep ((Below.refl _ _).alloc (Nat.le_refl _) _), (Below.refl _ _).alloc (Nat.le_refl _) _⟩ ?_
  clear h
  rintro w0 ⟨hQ, h, hb0⟩
  go_wp2_with fail
  refine (tableOf_any room a len cap rs _ rr.1 rr.2 h).mono ?_
  rintro e w1 ⟨r, A, n, c, B, m, d, al, R, rfl, hb1, hr40, hr160, hn, hnc, hcc, hm, hmd, hdd, hm12, htab, hrd, hal⟩
  have HN := Lib.hid hn
  have hnm : n ≤ m := by rw [← hn, ← hm]; exact htab.len
  have HFM := Lib.hid htab.mem
  have hsR := htab.2.1
  have HSR : Hid (tsz R ≤ r) := hsR
  have HRD := Lib.hid hrd
  have hb := hb0.trans (hb1.mono hb0.size)
  have hQ1 := hQ.carry hb1
  clear hn hm htab hrd hal h hsR hb0 hb1 hQ
  go_upto_region 2 with (fail)
  refine wp_world (fun w' => Blk w' w1.heap.size 55 #[.int .i64 (r : Int), .int .i64 (m : Int), .slice A n c] ∧ RdX fcells 2 w' A R ∧ Blk w' w.heap.size 27 #[.int .i64 q.kind, .int .i64 q.a, .int .i64 q.b, .string q.text] ∧ Below w.heap.size w w') ⟨Blk.new _ _ _, HRD.out.alloc _, hQ1.alloc _, hb.alloc hb.size _⟩ ?_
  clear hb HRD hQ1
  rintro w2 ⟨hT, hrd, hQ, hb⟩
  have HRD := Lib.hid hrd
  clear hrd
  have FQ := hQ.facts4
  obtain ⟨⟨x, y⟩, hF2⟩ : ∃ F, fieldF q = F := ⟨_, rfl⟩
  go_wp2_with fail
  refine (fieldOf_any q hq (x, y) hF2 _).mono ?_
  rintro e w3 ⟨rfl, hb3⟩
  go_upto_region 3 with (fail)
  refine wp_world (fun w' => Blk w' w1.heap.size 55 #[.int .i64 (r : Int), .int .i64 (m : Int), .slice A n c] ∧ Blk w' w3.heap.size 59 #[.string x, .string y] ∧ RdX fcells 2 w' A R ∧ Below w.heap.size w w') ⟨(hT.carry hb3).alloc _, Blk.new _ _ _, (RdX.below HRD.out hb3).alloc _, (hb.trans (hb3.mono hb.size)).alloc (hb.trans (hb3.mono hb.size)).size _⟩ ?_
  clear hb HRD hT hQ FQ hb3 hF2
  rintro w4 ⟨hT, hX, hrd, hb⟩
  have HRD := Lib.hid hrd
  clear hrd
  have FT := hT.facts3
  have FX := hX.two
  go_wp2_with fail
  refine (tFind_any r m A n c R HN.out hnc hcc hr160 (by omega) (by omega) HFM.out HSR.out x y _ HRD.out).mono ?_
  rintro e w5 ⟨hE, hb5⟩
  have HT := Lib.hid (hT.carry hb5)
  have HX := Lib.hid (hX.carry hb5)
  have HRD5 := Lib.hid (RdX.below HRD.out hb5)
  have HB := Lib.hid (hb.trans (hb5.mono hb.size))
  clear FT FX hT hX hb hb5 HRD
  have FT := HT.out.facts3
  have FX := HX.out.two
  have hxl := HX.out.lt
  have hg5 : w.heap.size ≤ w5.heap.size := HB.out.size
  rcases hE with ⟨j, v, hj, rfl, hjx⟩ | ⟨j, v, hj, rfl, hjx, hne⟩ | ⟨rfl, hno⟩
  · have HJX := Lib.hid hjx
    have HHn := HN.out
    clear hjx
    go_wp2_with fail
    refine (tGet_ok r m A n c R HN.out hnc hcc (by omega) (by omega) (by omega) (by omega) HFM.out (by have := HSR.out; omega) j _ hj rfl x y HJX.out _ HRD5.out).mono ?_
    rintro e w6 ⟨rfl, hb6⟩
    go_upto_region 13 with (fail)
    refine wp_world (fun w' => Blk w' w3.heap.size 59 #[.string x, .string y] ∧ Blk w' w6.heap.size 59 #[.string x, .string y] ∧ Below w.heap.size w w') ⟨(HX.out.carry hb6).alloc _, Blk.new _ _ _, (HB.out.trans (hb6.mono HB.out.size)).alloc (HB.out.trans (hb6.mono HB.out.size)).size _⟩ ?_
    clear FT FX HT HX HRD5 HB hb6 hxl hg5 HJX HHn
    rintro w7 ⟨hX, hZ, hb⟩
    have HX := Lib.hid hX
    have HZ := Lib.hid hZ
    have HB := Lib.hid hb
    clear hX hZ hb
    go_wp2_with fail
    refine (tableTells_any _).mono ?_
    rintro e wq ⟨rfl, hwq⟩
    have FX := (HX.out.carry hwq).two
    have FZ := (HZ.out.carry hwq).two
    have hse := str_eq x
    have hse2 := str_eq y
    go_wp2_with fail
    go_ret
    exact ⟨by first | rfl | simp, HB.out.trans (hwq.mono HB.out.size)⟩
  · have HJX := Lib.hid hjx
    have HNE := Lib.hid hne
    clear hjx hne
    go_wp2_with fail
    refine (tGet_ok r m A n c R HN.out hnc hcc (by omega) (by omega) (by omega) (by omega) HFM.out (by have := HSR.out; omega) j _ hj rfl x v HJX.out _ HRD5.out).mono ?_
    rintro e w6 ⟨rfl, hb6⟩
    go_upto_region 13 with (fail)
    refine wp_world (fun w' => Blk w' w1.heap.size 55 #[.int .i64 (r : Int), .int .i64 (m : Int), .slice A n c] ∧ RdX fcells 2 w' A R ∧ Blk w' w3.heap.size 59 #[.string x, .string y] ∧ Blk w' w6.heap.size 59 #[.string x, .string v] ∧ Below w.heap.size w w') ⟨(HT.out.carry hb6).alloc _, (RdX.below HRD5.out hb6).alloc _, (HX.out.carry hb6).alloc _, Blk.new _ _ _, (HB.out.trans (hb6.mono HB.out.size)).alloc (HB.out.trans (hb6.mono HB.out.size)).size _⟩ ?_
    clear FT FX HT HX HRD5 HB hb6 hxl hg5 HJX
    rintro w7 ⟨hT, hrd, hX, hZ, hb⟩
    have HX := Lib.hid hX
    have HZ := Lib.hid hZ
    have HB := Lib.hid hb
    have HRD := Lib.hid hrd
    have FT := hT.facts3
    clear hX hZ hb hT hrd
    go_wp2_with fail
    clear FT
    go_loopw [70] (fun i wr => ∃ k : Nat, k ≤ n ∧ i = .int .i64 k ∧ Below w7.heap.size w7 wr) (fun i _ => n - (intOf i).toNat)
    case atStart => exact ⟨0, Nat.zero_le _, rfl, Below.refl _ _⟩
    case round =>
      obtain ⟨k, hk, rfl, hb⟩ := hrel
      by_cases hlt : k < n
      · have hlen := HN.out
        obtain ⟨b, off, hA, hcell⟩ := (RdX.below HRD.out hb).fcell (by omega)
        subst hA
        obtain ⟨c0, c1⟩ := hcell k (by omega)
        obtain ⟨⟨x1, x2⟩, hx⟩ : ∃ f, R.getD k fnil = f := ⟨_, rfl⟩
        have hmem : (x1, x2) ∈ R := by
          rw [← hx]; simp only [List.getD, List.getElem?_eq_getElem (show k < R.length by omega), Option.getD_some]; exact List.getElem_mem _
        have hpr := HNE.out _ hmem
        rw [hx] at c0 c1
        have hX := HX.out.carry hb
        have FX := hX.two
        have hxl := hX.lt
        have hk0 : (0 : Int) ≤ (k : Int) := by omega
        have hk1 : (k : Int) < (n : Int) := by omega
        have HPR := Lib.hid hpr
        clear hx hlen hcell hmem hX hpr
        by_cases he1 : x1 = x
        · subst he1
          have hnn := str_ne (fun e : x2 = y => HPR.out (by rw [e]))
          go_wp2_with fail
          go_roundw
          case rel => exact ⟨k + 1, by omega, by go_num, hb.trans ((Below.refl _ _).alloc (Nat.le_refl _) _ |>.mono hb.size)⟩
          case measure => simp [intOf]; omega
        · have hnn := str_ne he1
          go_wp2_with fail
          go_roundw
          case rel => exact ⟨k + 1, by omega, by go_num, hb.trans ((Below.refl _ _).alloc (Nat.le_refl _) _ |>.mono hb.size)⟩
          case measure => simp [intOf]; omega
      · go_wp2_with fail
        refine (tableTells_any _).mono ?_
        rintro e wq ⟨rfl, hwq⟩
        have hbz := hb.trans (hwq.mono hb.size)
        have FX := (HX.out.carry hbz).two
        have FZ := (HZ.out.carry hbz).two
        have hse := str_eq x
        go_wp2_with fail
        go_ret
        exact ⟨by first | rfl | simp, HB.out.trans (hbz.mono HB.out.size)⟩
  · have HNO := Lib.hid hno
    clear hno
    go_wp2_with fail
    go_loopw [41] (fun i wr => ∃ k : Nat, k ≤ n ∧ i = .int .i64 k ∧ Below w5.heap.size w5 wr) (fun i _ => n - (intOf i).toNat)
    case atStart => exact ⟨0, Nat.zero_le _, rfl, Below.refl _ _⟩
    case round =>
      obtain ⟨k, hk, rfl, hb⟩ := hrel
      by_cases hlt : k < n
      · have hlen := HN.out
        obtain ⟨b, off, hA, hcell⟩ := (RdX.below HRD5.out hb).fcell (by omega)
        subst hA
        obtain ⟨c0, c1⟩ := hcell k (by omega)
        obtain ⟨⟨x1, x2⟩, hx⟩ : ∃ f, R.getD k fnil = f := ⟨_, rfl⟩
        have hmem : (x1, x2) ∈ R := by
          rw [← hx]; simp only [List.getD, List.getElem?_eq_getElem (show k < R.length by omega), Option.getD_some]; exact List.getElem_mem _
        have hnn := str_ne (HNO.out _ hmem)
        simp only at hnn
        rw [hx] at c0 c1
        have hX := HX.out.carry hb
        clear FX FT hxl
        have FX := hX.two
        have hxl := hX.lt
        have hk0 : (0 : Int) ≤ (k : Int) := by omega
        have hk1 : (k : Int) < (n : Int) := by omega
        clear hx hlen hcell hmem hX
        go_wp2_with fail
        go_roundw
        case rel => exact ⟨k + 1, by omega, by go_num, hb.trans ((Below.refl _ _).alloc (Nat.le_refl _) _ |>.mono hb.size)⟩
        case measure => simp [intOf]; omega
      · go_wp2_with fail
        refine (tableTells_any _).mono ?_
        rintro e w6 ⟨rfl, hb6⟩
        have hbz := hb.trans (hb6.mono hb.size)
        go_wp2_with fail
        go_ret
        exact ⟨rfl, HB.out.trans (hbz.mono HB.out.size)⟩
end Go.Proofs.Ytolhlgalhhdkmaa
