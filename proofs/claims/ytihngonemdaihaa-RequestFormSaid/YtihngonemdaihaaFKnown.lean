/- The contracts of fields.Known, known, Check and used. -/
import Derived.Test.YtihngonemdaihaaFPlain
import Derived.Test.YtihngonemdaihaaTableWalk
import Derived.Test.YtihngonemdaihaaFindWalk
namespace Go.Proofs.Ytihngonemdaihaa
open Go.ChangeShapes Go.WideShapes Go.ChangeAt Go.RowKit
set_option linter.unusedVariables false

theorem known_rd {w : World} {g : Nat} (h : Blk w g 47 (knownL.flatMap fcells).toArray) : RdX fcells 2 w (some ⟨g, 0, none⟩) knownL := by
  have h := Rd.of_blk (size := 2) (n := 11) h rfl
  exact h
set_option maxRecDepth 100000 in
set_option maxHeartbeats 1000000 in
theorem fKnown_blk (w : World) : Calls Try.prog 38 #[] w fun e w' => e = .returned (.slice (some ⟨w.heap.size, 0, none⟩) 11 11) ∧ Blk w' w.heap.size 47 (knownL.flatMap fcells).toArray ∧ Below w.heap.size w w' := by
  go_enter Try.func38, Try.ntmps38
  go_wp2_with fail
  go_ret
  exact ⟨rfl, Blk.new _ _ _, (Below.refl _ _).alloc (Nat.le_refl _) _⟩
theorem fKnown_any (w : World) : Calls Try.prog 38 #[] w fun e w' => e = .returned (.slice (some ⟨w.heap.size, 0, none⟩) 11 11) ∧ RdX fcells 2 w' (some ⟨w.heap.size, 0, none⟩) knownL ∧ Below w.heap.size w w' :=
  (fKnown_blk w).mono fun _ _ h => ⟨h.1, known_rd h.2.1, h.2.2⟩
/-- Where a field stands among those that all know: itself, or the first one with its name. -/
def kGo : List Fld → Nat → Nat → Bool → Fld → Nat × Bool × Bool
  | [], _, at_, there, _ => (at_, false, there)
  | x :: l, i, at_, there, f => if x = f then (i, true, true) else if x.1 = f.1 ∧ there = false then kGo l (i + 1) i true f else kGo l (i + 1) at_ there f
def knownR (f : Fld) : Nat × Bool × Bool := kGo knownL 0 0 false f
theorem drop_getD {α : Type} (l : List α) (d : α) (k : Nat) (h : k < l.length) : l.drop k = l.getD k d :: l.drop (k + 1) := by
  rw [List.drop_eq_getElem_cons h]; simp [List.getD, h]
set_option maxRecDepth 100000 in
set_option maxHeartbeats 2000000 in
theorem fknown_any (x y : ByteArray) (K : Nat) (s t : Bool) (hK : knownR (x, y) = (K, s, t)) (w : World) :
    Calls Try.prog 25 #[.agg #[.string x, .string y]] w fun e w' => e = .returned (.tuple #[.int .i64 (K : Int), .bool s, .bool t]) ∧ Below w.heap.size w w' := by
  have HK := Lib.hid hK
  clear hK
  go_enter Try.func25, Try.ntmps25
  go_wp2_with fail
  refine (fKnown_any _).mono ?_
  rintro e w1 ⟨rfl, hr, hb1⟩
  have hX : Blk w1 w.heap.size 47 #[.string x, .string y] := (Blk.new _ _ _).carry hb1
  have hbz : Below w.heap.size w w1 := ((Below.refl _ _).alloc (Nat.le_refl _) _).trans (hb1.mono (by simp))
  have HR := Lib.hid hr
  have HX := Lib.hid hX
  have HBZ := Lib.hid hbz
  clear hr hX hbz hb1
  go_wp2_with fail
  go_loopw [5, 6, 11] (fun s5 s6 iv wr => ∃ (k at_ : Nat) (th : Bool), k ≤ 11 ∧ iv = .int .i64 (k : Int) ∧ s5 = .int .i64 (at_ : Int) ∧ s6 = .bool th ∧ kGo (knownL.drop k) k at_ th (x, y) = (K, s, t) ∧ Below w1.heap.size w1 wr) (fun _ _ iv _ => 11 - (intOf iv).toNat)
  case atStart => exact ⟨0, 0, false, by omega, rfl, rfl, rfl, HK.out, Below.refl _ _⟩
  case round =>
    obtain ⟨k, at_, th, hk, rfl, rfl, rfl, hq, hb⟩ := hrel
    have HQ := Lib.hid hq
    have HBX := Lib.hid hb
    clear hq hb
    by_cases hlt : k < 11
    · obtain ⟨b, off, hA, hcell⟩ := (RdX.below HR.out HBX.out).fcell (by decide)
      obtain ⟨c0, c1⟩ := hcell k (by rw [knownL_len]; exact hlt)
      obtain ⟨⟨p, q⟩, hpq⟩ : ∃ f, knownL.getD k fnil = f := ⟨_, rfl⟩
      rw [hpq] at c0 c1
      have hst := HQ.out
      rw [drop_getD knownL fnil k (by rw [knownL_len]; exact hlt), hpq, kGo] at hst
      have HST := Lib.hid hst
      have hX := HX.out.carry HBX.out
      have FX := hX.two
      have hlx := hX.lt
      have hi0 : (0 : Int) ≤ (k : Int) := by omega
      have hi1 : (k : Int) < 11 := by omega
      injection hA with hA
      injection hA with hA1 hA2
      simp at hA1
      subst hA1
      subst hA2
      rw [Nat.zero_add] at c0 c1
      clear hcell hpq hX hst HQ
      by_cases hp : p = x
      · subst hp
        by_cases hqy : q = y
        · subst hqy
          obtain ⟨h1, h2, h3⟩ : k = K ∧ true = s ∧ true = t := by have h := HST.out; rw [if_pos rfl] at h; injection h with h1 h2; injection h2 with h2 h3; exact ⟨h1, h2, h3⟩
          subst h1 h2 h3
          go_wp2_with fail
          go_ret3
          exact ⟨by first | rfl | (simp; done), HBZ.out.trans ((HBX.out.trans ((Below.refl _ _).alloc (Nat.le_refl _) _ |>.mono HBX.out.size)).mono HBZ.out.size)⟩
        · have hne := str_ne hqy
          have h2 := HST.out
          rw [if_neg (fun e => hqy (by injection e))] at h2
          have H2 := Lib.hid h2
          clear h2 HST
          cases th with
          | true =>
            go_wp2_with fail
            go_roundw
            case rel => exact ⟨k + 1, at_, true, by omega, by go_num, rfl, rfl, by have h := H2.out; rw [if_neg (by simp)] at h; exact h, HBX.out.trans ((Below.refl _ _).alloc (Nat.le_refl _) _ |>.mono HBX.out.size)⟩
            case measure => simp [intOf]; omega
          | false =>
            go_wp2_with fail
            go_roundw
            case rel => exact ⟨k + 1, k, true, by omega, by go_num, rfl, rfl, by have h := H2.out; rw [if_pos ⟨rfl, rfl⟩] at h; exact h, HBX.out.trans ((Below.refl _ _).alloc (Nat.le_refl _) _ |>.mono HBX.out.size)⟩
            case measure => simp [intOf]; omega
      · have hne := str_ne hp
        have h2 := HST.out
        rw [if_neg (fun e => hp (by injection e)), if_neg (fun e => hp e.1)] at h2
        have H2 := Lib.hid h2
        clear h2 HST
        go_wp2_with fail
        go_roundw
        case rel => exact ⟨k + 1, at_, th, by omega, by go_num, rfl, rfl, H2.out, HBX.out.trans ((Below.refl _ _).alloc (Nat.le_refl _) _ |>.mono HBX.out.size)⟩
        case measure => simp [intOf]; omega
    · obtain rfl : k = 11 := by omega
      have hst := HQ.out
      obtain ⟨h1, h2, h3⟩ : at_ = K ∧ false = s ∧ th = t := by
        have h : (at_, false, th) = (K, s, t) := hst
        injection h with h1 h2; injection h2 with h2 h3; exact ⟨h1, h2, h3⟩
      subst h1 h2 h3
      clear hst HQ
      have hb := HBZ.out.trans (HBX.out.mono HBZ.out.size)
      go_wp2_with fail
      go_ret3
      exact ⟨by first | rfl | (simp; done), hb⟩
end Go.Proofs.Ytihngonemdaihaa
