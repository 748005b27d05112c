/- What SpaceOnce answers, where spaced answers as it does. -/
import Derived.Test.YtoonohhjcfceeaaSpdIn
namespace Go.Proofs.Ytoonohhjcfceeaa
open Go.ChangeShapes Go.WideShapes Go.ChangeAt Go.RowKit
open Go.Maps (Keyed int_keyed keyOf_int_mk)
set_option linter.unusedVariables false

/-- The map of those that are on their way: 1 each. -/
structure WayOk (D : MapD) (L : Int → Bool) (j : Nat) : Prop where
  is : Maps.IsMap D
  at_ : ∀ n z, D.atKey (.int .i64 n) z = if L n then num64 1 else z
  has : ∀ n, Maps.has D (.int .i64 n) = L n
  size : Maps.size D = j
theorem WayOk.none : WayOk (.map []) (fun _ => false) 0 := ⟨Maps.isMap_empty, fun n z => rfl, fun n => rfl, rfl⟩
theorem WayOk.put {D : MapD} {L : Int → Bool} {j : Nat} (h : WayOk D L j) (ht : Maps.Tidy D) (k : Int) (hk : L k = false) : WayOk (D.put (.int .i64 k) (num64 1)) (fun n => L n || n == k) (j + 1) := by
  refine ⟨h.is.put _ _, fun n z => ?_, fun n => ?_, ?_⟩
  · by_cases e : n = k
    · subst e
      rw [Maps.atKey_put_same h.is (keyLit _)]; simp
    · rw [Maps.atKey_put_other (lit_ne e), h.at_]; simp [e]
  · by_cases e : n = k
    · subst e
      rw [Maps.has_put_same h.is (keyLit _)]; simp
    · rw [Maps.has_put_other (lit_ne e), h.has]; simp [e]
  · rw [Maps.size_put ht, h.has, hk, h.size]; rfl
theorem WayOk.congr {D : MapD} {L L' : Int → Bool} {j : Nat} (h : WayOk D L j) (e : ∀ n, L n = L' n) : WayOk D L' j := by
  have : L = L' := funext e
  subst this; exact h
theorem WayOk.next {D : MapD} {ps : List Pcl} {j : Nat} (h : WayOk D (onWay (ps.take j)) j) (ht : Maps.Tidy D) (hd : ps.Pairwise (fun x y => x.1 < y.1)) (hj : j < ps.length) : WayOk (D.put (.int .i64 (ps.getD j pcln).1) (num64 1)) (onWay (ps.take (j + 1))) (j + 1) := by
  have hnot : onWay (ps.take j) (ps.getD j pcln).1 = false := by
    cases hc : onWay (ps.take j) (ps.getD j pcln).1 with
    | false => rfl
    | true =>
      exfalso
      obtain ⟨p, hpm, e⟩ := (onWay_iff _ _).1 hc
      obtain ⟨i, hi, rfl⟩ := List.mem_iff_getElem.1 hpm
      rw [List.length_take] at hi
      have h2 := List.pairwise_iff_getElem.1 hd i j (by omega) hj (by omega)
      rw [List.getElem_take] at e
      have hg : ps.getD j pcln = ps[j] := by simp [List.getD, hj]
      rw [hg] at e
      omega
  refine (h.put ht _ hnot).congr fun n => ?_
  rw [takeD ps j pcln hj, onWay_snoc]
theorem num_in {D : MapD} {n c : Int} {v : Int} {z : MapD} (h : D.atKey (.int .i64 n) z = num64 v) (h2 : D.atKey (.int .i64 n) z = .lit (.int .i64 c)) : c = v := by
  rw [h] at h2
  unfold num64 at h2
  injection h2 with h2
  injection h2 with _ h2
  exact h2.symm

set_option maxRecDepth 100000 in
set_option maxHeartbeats 8000000 in
theorem spaceOnce_of (HSP : SpacedAll) (a : Option Addr) (len cap : Nat) (rs : List RawD) (w : World) (h : IsRaws w a len cap rs) :
    Calls Try.prog 4 #[.slice a len cap] w fun e' w' => e' = .returned (.bool true) ∧ Below w.heap.size w w' := by
  have HSA := Lib.hid (HSP a len cap rs w h)
  clear h HSP
  have hmm := @run_makeMap Try.prog
  go_enter Try.func4, Try.ntmps4
  go_wp2_with fail
  refine (HSA.out).mono ?_
  rintro e0 w1 ⟨gM, nx, A, n, c, top, B, m, d, C, k, e, ps, hs, ks, cnt, D, rfl, hV, hM, hE, hnx, hcnt, hb1⟩
  clear HSA
  have hn24 := hV.n24
  have hnc := hV.hnc
  have hcm := hV.hcm
  have HN := Lib.hid hV.hn
  have HV := Lib.hid hV
  have HB := Lib.hid hb1
  have HM := Lib.hid hM
  have HE := Lib.hid hE
  clear hV hb1 hM hE
  go_upto_region 2 with (fail)
  refine wp_world (fun w' => Blk w' w1.heap.size 26 #[.int .i64 nx, .slice A n c, .int .i64 top, .slice B m d, .slice C k e] ∧ SpV w' nx A n c top B m d C k e ps hs ks ∧ MapM w' gM cnt D ∧ Below w.heap.size w w') ⟨Blk.new _ _ _, HV.out.below ((Below.refl _ _).alloc (Nat.le_refl _) _), HM.out.below ((Below.refl _ _).alloc (Nat.le_refl _) _), HB.out.alloc HB.out.size _⟩ ?_
  rintro w2 ⟨hS2, hV2, hM2, hB2⟩
  have HS := Lib.hid hS2
  have HV2 := Lib.hid hV2
  have HM2 := Lib.hid hM2
  have HB2 := Lib.hid hB2
  have hgS2 := hS2.lt
  have hgM2 := hM2.lt
  generalize w1.heap.size = gS at *
  clear hS2 hV2 hM2 hB2 HV HB HM
  have hM0 : Hid (∀ W : World, MapM (W.alloc (.map #[] 0)) W.heap.size 0 (.map [])) := Lib.hid fun W => World.ownsMap_made W _ _ _
  have FS := HS.out.facts5
  go_wp2_with fail
  clear FS
  go_loopw [21] (fun iv wr => ∃ (j : Nat) (D2 : MapD), j ≤ n ∧ iv = .int .i64 (j : Int) ∧ WayOk D2 (onWay (ps.take j)) j ∧ MapM wr w2.heap.size j D2 ∧ Below w2.heap.size w2 wr) (fun iv _ => n - (intOf iv).toNat)
  case atStart => exact ⟨0, .map [], Nat.zero_le _, rfl, WayOk.none, hM0.out w2, (Below.refl _ _).alloc (Nat.le_refl _) _⟩
  case round =>
    obtain ⟨j, D2, hj, rfl, hW, hM3, hb3⟩ := hrel
    have HW := Lib.hid hW
    have HM3 := Lib.hid hM3
    have HB3 := Lib.hid hb3
    have hz3 := hb3.size
    clear hW hM3 hb3
    by_cases hlt : j < n
    · obtain ⟨b9, off9, hA, hcell⟩ := (HV2.out.below HB3.out).ra.pcl (by have := HN.out; omega)
      obtain ⟨c0, c1, c2, c3⟩ := hcell j (by have := HN.out; omega)
      have hpb := HV2.out.ok.pk.2 _ (getD_in ps j pcln (by have := HN.out; omega))
      have p0 := hpb.1
      have p1 := hpb.2.1
      have HW4 := Lib.hid (HW.out.next (HM3.out.tidy lawI) HV2.out.ok.pk.1 (by have := HN.out; omega))
      clear hcell hpb
      generalize ps.getD j pcln = p at *
      obtain ⟨pn, pt, pz⟩ := p
      simp only at c0 c1 c2 p0 p1
      have hwn : (Lit.int .i64 pn).wf = true := wf_i64 pn (by omega) (by omega)
      subst hA
      go_upto_region 6 with (fail)
      refine wp_world (fun w' => Blk w' wr.heap.size 39 #[.int .i64 pn, .int .i64 pt, .int .i64 pz, .slice none 0 0] ∧ MapM w' w2.heap.size j D2 ∧ Below w2.heap.size w2 w') ⟨Blk.new _ _ _, HM3.out.below ((Below.refl _ _).alloc (Nat.le_refl _) _), HB3.out.alloc HB3.out.size _⟩ ?_
      clear c0 c1 c2 c3 HM3 HB3
      generalize wr.heap.size = tb at *
      rintro w4 ⟨hP, hM4, hB4⟩
      have FP := hP.facts4
      have HM4 := Lib.hid hM4
      have HB4 := Lib.hid hB4
      clear hP hM4 hB4
      go_wp2_with (at_mapUpdate; refine wpList_mapUpdate_own _ rfl _ _ _ 42 rfl 3 3 lawI Try.underlying42 _ w2.heap.size j D2 rfl HM4.out (by unfold maxLen; omega) _ _ _ rfl rfl (keyOf_int_mk Try.underlying3 hwn) _ [] (plainElem_int Try.underlying3 (by decide)) ?_; intro w5 hM5 hg5)
      go_roundw
      case rel => exact ⟨j + 1, D2.put (.int .i64 pn) (num64 1), by omega, by go_num, HW4.out, hM5, HB4.out.grown hg5 HB4.out.size (fun q hq => by cases hq; exact Nat.le_refl _)⟩
      case measure => first | (simp [intOf]; done) | (simp [intOf]; omega)
    · obtain rfl : j = n := by omega
      have HW5 : Hid (WayOk D2 (onWay ps) j) := Lib.hid (by have h1 := HW.out; have h2 := HN.out; rwa [List.take_of_length_le (by omega)] at h1)
      go_upto_region 8 with (fail)
      refine wp_world (fun w' => Blk w' gS 26 #[.int .i64 nx, .slice A j c, .int .i64 top, .slice B m d, .slice C k e] ∧ SpV w' nx A j c top B m d C k e ps hs ks ∧ MapM w' gM cnt D ∧ MapM w' w2.heap.size j D2 ∧ Below w.heap.size w w') ⟨HS.out.carry HB3.out, HV2.out.below HB3.out, HM2.out.below HB3.out, HM3.out, HB2.out.trans (HB3.out.mono HB2.out.size)⟩ ?_
      clear HW HM3 HB3
      rintro w3 ⟨hS3, hV3, hME, hWM, hBB⟩
      have HS3 := Lib.hid hS3
      have HV3 := Lib.hid hV3
      have HME := Lib.hid hME
      have HWM := Lib.hid hWM
      have HBB := Lib.hid hBB
      clear hS3 hV3 hME hWM hBB HS HV2 HM2 HB2
      generalize w2.heap.size = gW at *
      have hgW3 : gW < w3.heap.size := HWM.out.lt
      have hgS3 : gS < w3.heap.size := HS3.out.lt
      have hgM3 : gM < w3.heap.size := HME.out.lt
      go_wp2_with (at_range; refine wpList_range_own _ rfl _ 42 rfl 3 3 lawI Try.underlying42 _ gM cnt D rfl HME.out ?_; intro w4 hrg4 hg4 hs4)
      go_frame
      have HR4 := Lib.hid hrg4
      have HWM4 : Hid (MapM w4 gW j D2) := Lib.hid (HWM.out.kept hg4 (by simp))
      have HB4 : Hid (Below w3.heap.size w3 w4) := Lib.hid ((Below.refl _ _).grown hg4 (Nat.le_refl _) (fun q hq => by cases hq))
      clear hrg4 hg4
      go_loopw [9] (fun _ wr => ∃ (left : Lit → Bool) (cn : Nat), wr.ranges Try.prog 3 (plainElem Try.prog 3) gM w3.heap.size cnt D left cn ∧ (∀ kl, left kl = true → Maps.has D kl = true) ∧ MapM wr gW j D2 ∧ Below w3.heap.size w3 wr) (fun _ wr => wr.rangeLeft gM w3.heap.size)
      case atStart => exact ⟨_, _, HR4.out, fun _ h => h, HWM4.out, HB4.out⟩
      case round =>
        obtain ⟨left, cn, hrg, hleft, hWM5, hB5⟩ := hrel
        have HRG := Lib.hid hrg
        have HLE := Lib.hid hleft
        have HWM5 := Lib.hid hWM5
        have HB5 := Lib.hid hB5
        clear hrg hleft hWM5 hB5 HR4 HWM4 HB4
        go_wp2_with (at_next; refine wpList_next_ranges_ii _ rfl _ rfl 3 3 .i64 .i64 lawI Try.underlying3 Try.underlying3 gM w3.heap.size cnt D left cn rfl HRG.out ?_ ?_)
        · intro hc0 hl0
          have HS6 := Lib.hid (HS3.out.carry HB5.out)
          have HV6 := Lib.hid (HV3.out.below HB5.out)
          have HB6 := Lib.hid (HBB.out.trans (HB5.out.mono HBB.out.size))
          clear HS3 HV3 HBB HB5 HME HWM HRG HLE hl0
          have FS := HS6.out.facts5
          go_wp2_with fail
          refine (spaceTells_any _).mono ?_
          rintro e7 w7 ⟨rfl, hb7⟩
          have HS7 := Lib.hid (HS6.out.carry hb7)
          have HV7 := Lib.hid (HV6.out.below hb7)
          have HW7 := Lib.hid (HWM5.out.below hb7)
          have HB7 := Lib.hid (HB6.out.trans (hb7.mono HB6.out.size))
          clear FS HS6 HV6 HWM5 HB6 hb7
          have FS := HS7.out.facts5
          go_wp2_with fail
          refine (SpV.check HV7.out).mono ?_
          rintro e8 w8 ⟨rfl, hb8⟩
          have HS8 := Lib.hid (HS7.out.carry hb8)
          have HW8 := Lib.hid (HW7.out.below hb8)
          have HB8 := Lib.hid (HB7.out.trans (hb8.mono HB7.out.size))
          clear FS HS7 HV7 HW7 HB7 hb8
          have FS := HS8.out.facts5
          have hd : decide ((j : Int) ≤ 24) = true := decide_eq_true (by omega)
          have hlen : ∀ ty, (Builtin.len_ #[42] ty #[.map (some gW)]).run Try.prog w8 = .ok (.int .i64 (j : Int)) w8 := fun ty => by
            have h := World.ownsMap.len HW8.out Try.underlying42 ty
            rwa [HW5.out.size] at h
          go_wp2_with fail
          go_ret
          exact ⟨rfl, HB8.out⟩
        · intro x cc wz cn1 hwx hwc hlx hat hrg1 hlt1 hg1 hs1 hen
          obtain ⟨x0, x1, hval⟩ := HE.out.val x (HLE.out _ hlx)
          have HWMz : Hid (MapM wz gW j D2) := Lib.hid (HWM5.out.kept hg1 (fun e => by have := Option.some.inj e; omega))
          have HBz : Hid (Below w3.heap.size w3 wz) := Lib.hid (HB5.out.grown hg1 HB5.out.size (fun q hq => by cases hq; exact Nat.le_refl _))
          have HRG1 := Lib.hid hrg1
          have HLT1 : Hid (wz.rangeLeft gM w3.heap.size < wr.rangeLeft gM w3.heap.size) := Lib.hid (by rw [hrg1.left_eq, HRG.out.left_eq]; exact hlt1)
          clear hrg1 hlt1 hg1 hs1 HWM5 HB5 HRG hlx
          have HVAL := Lib.hid hval
          have HAT := Lib.hid hat
          clear hval hat
          cases hL : onWay ps x with
          | true =>
            have hcc : cc = 1 := num_in (z := .lit (.int .i64 0)) (by have h := HVAL.out (.lit (.int .i64 0)); rw [hL] at h; exact h) (HAT.out _)
            subst hcc
            have HL := Lib.hid hL
            clear hL
            go_wp2_with (at_lookup; refine wpList_lookup_own_int _ rfl _ _ 42 rfl 3 3 .i64 lawI Try.underlying42 Try.underlying3 (zeroI _) gW j D2 rfl HWMz.out _ _ rfl (keyOf_int_mk Try.underlying3 hwx) ?_; intro c2 hat2 hwc2; have hc2 : c2 = 1 := num_in (by rw [HW5.out.at_, HL.out]; rfl) hat2; subst hc2; clear hat2 hwc2)
            go_roundw
            case rel => exact ⟨_, cn1, HRG1.out, fun kl hk => HLE.out kl (by simp at hk; exact hk.1), HWMz.out, HBz.out⟩
            case measure => exact HLT1.out
          | false =>
            have hcc : cc = 2 := num_in (z := .lit (.int .i64 0)) (by have h := HVAL.out (.lit (.int .i64 0)); rw [hL] at h; exact h) (HAT.out _)
            subst hcc
            have HL := Lib.hid hL
            clear hL
            go_wp2_with (at_lookup; refine wpList_lookup_own_int _ rfl _ _ 42 rfl 3 3 .i64 lawI Try.underlying42 Try.underlying3 (zeroI _) gW j D2 rfl HWMz.out _ _ rfl (keyOf_int_mk Try.underlying3 hwx) ?_; intro c2 hat2 hwc2; have hc2 : c2 = 0 := num_in (v := 0) (by rw [HW5.out.at_, HL.out]; rfl) hat2; subst hc2; clear hat2 hwc2)
            go_roundw
            case rel => exact ⟨_, cn1, HRG1.out, fun kl hk => HLE.out kl (by simp at hk; exact hk.1), HWMz.out, HBz.out⟩
            case measure => exact HLT1.out
end Go.Proofs.Ytoonohhjcfceeaa
