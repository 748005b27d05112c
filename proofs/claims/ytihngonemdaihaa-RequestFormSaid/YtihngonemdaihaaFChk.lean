/- The contract of fields.Check. -/
import Derived.Test.YtihngonemdaihaaFPlain
import Derived.Test.YtihngonemdaihaaTableWalk
namespace Go.Proofs.Ytihngonemdaihaa
open Go.ChangeShapes Go.WideShapes Go.ChangeAt Go.RowKit
set_option linter.unusedVariables false

def fokB (f : Fld) : Bool := decide (1 ≤ f.1.size) && decide (f.1.size ≤ 20) && decide (f.2.size ≤ 40)
theorem fokB_iff (f : Fld) : fokB f = true ↔ FOk f := by unfold fokB FOk; simp; exact and_assoc
/-- What Check answers. -/
def fchkR (l : List Fld) : Int := if 8 < l.length then 1 else if l.all fokB then 0 else 3
theorem getD_inF {α : Type} (l : List α) (k : Nat) (d : α) (h : k < l.length) : l.getD k d ∈ l := by
  rw [List.getD, List.getElem?_eq_getElem h]; exact List.getElem_mem _
theorem fchkR_bad {l : List Fld} {k : Nat} (h : l.length ≤ 8) (hk : k < l.length) (hb : fokB (l.getD k fnil) = false) : fchkR l = 3 := by
  unfold fchkR
  rw [if_neg (by omega), if_neg]
  intro ha
  rw [List.all_eq_true] at ha
  have := ha (l.getD k fnil) (getD_inF l k fnil hk)
  rw [hb] at this; cases this
theorem fchkR_ok {l : List Fld} (h : l.length ≤ 8) (ha : ∀ j, j < l.length → fokB (l.getD j fnil) = true) : fchkR l = 0 := by
  unfold fchkR
  rw [if_neg (by omega), if_pos]
  rw [List.all_eq_true]
  intro f hf
  obtain ⟨j, hj, rfl⟩ := List.getElem_of_mem hf
  have := ha j hj
  simpa [List.getD, hj] using this

set_option maxRecDepth 100000 in
set_option maxHeartbeats 2000000 in
theorem fCheck_any (A : Option Addr) (n c : Nat) (l : List Fld) (hn : l.length = n) (hnc : n ≤ c) (hcm : c ≤ 9223372036854775807) (w : World) (hr : RdX fcells 2 w A l) (R : Int) (hR : fchkR l = R) :
    Calls Try.prog 22 #[.slice A n c] w fun e w' => e = .returned (.int .i64 R) ∧ Below w.heap.size w w' := by
  have HN := Lib.hid hn
  have HR := Lib.hid hr
  have HRR := Lib.hid hR
  clear hn hr hR
  go_enter Try.func22, Try.ntmps22
  by_cases h8 : 8 < n
  · have d1 : decide ((8 : Int) < (n : Int)) = true := decide_eq_true (by omega)
    have d2 : decide (8 < n) = true := decide_eq_true h8
    obtain rfl : R = 1 := by rw [← HRR.out]; unfold fchkR; rw [if_pos (by rw [HN.out]; exact h8)]
    go_wp2_with fail
    go_ret
    exact ⟨rfl, Below.refl _ _⟩
  · have d1 : decide ((8 : Int) < (n : Int)) = false := decide_eq_false (by omega)
    have d2 : decide (8 < n) = false := decide_eq_false h8
    go_wp2_with fail
    go_loopw [10] (fun iv wr => ∃ k : Nat, k ≤ n ∧ iv = .int .i64 (k : Int) ∧ Hid (∀ j, j < k → fokB (l.getD j fnil) = true) ∧ Below w.heap.size w wr) (fun iv _ => n - (intOf iv).toNat)
    case atStart => exact ⟨0, Nat.zero_le _, rfl, fun j hj => absurd hj (by omega), Below.refl _ _⟩
    case round =>
      obtain ⟨k, hk, rfl, HA, hb⟩ := hrel
      by_cases hlt : k < n
      · have hlen := HN.out
        obtain ⟨b, off, rfl, hcell⟩ := (RdX.below HR.out hb).fcell (by omega)
        obtain ⟨c0, c1⟩ := hcell k (by omega)
        obtain ⟨⟨x, y⟩, hx⟩ : ∃ f, l.getD k fnil = f := ⟨_, rfl⟩
        rw [hx] at c0 c1
        have HX := Lib.hid hx
        have hi0 : (0 : Int) ≤ (k : Int) := by omega
        have hi1 : (k : Int) < (n : Int) := by omega
        have HL := Lib.hid hlen
        clear hx hlen hcell
        have hb2 : ∀ o, Below w.heap.size w (wr.alloc o) := fun o => hb.alloc hb.size o
        by_cases k1 : x.size < 1
        · have e1 : decide ((x.size : Int) < 1) = true := decide_eq_true (by omega)
          have e1' : decide (x.size < 1) = true := decide_eq_true k1
          obtain rfl : R = 3 := by rw [← HRR.out]; exact fchkR_bad (k := k) (by rw [HL.out]; omega) (by rw [HL.out]; exact hlt) (by rw [HX.out]; unfold fokB; simp; omega)
          go_wp2_with fail
          all_goals first
            | (exfalso; rename_i hx hy; simp at hx; done)
            | (go_ret; exact ⟨rfl, hb2 _⟩)
        · have e1 : decide ((x.size : Int) < 1) = false := decide_eq_false (by omega)
          have e1' : decide (x.size < 1) = false := decide_eq_false k1
          have e1a : ¬ x.size = 0 := by omega
          by_cases k2 : 20 < x.size
          · have e2 : decide ((20 : Int) < (x.size : Int)) = true := decide_eq_true (by omega)
            have e2' : decide (20 < x.size) = true := decide_eq_true k2
            obtain rfl : R = 3 := by rw [← HRR.out]; exact fchkR_bad (k := k) (by rw [HL.out]; omega) (by rw [HL.out]; exact hlt) (by rw [HX.out]; unfold fokB; simp; omega)
            go_wp2_with fail
            all_goals first
              | (exfalso; rename_i hx hy; simp at hx; done)
              | (go_ret; exact ⟨rfl, hb2 _⟩)
          · have e2 : decide ((20 : Int) < (x.size : Int)) = false := decide_eq_false (by omega)
            have e2' : decide (20 < x.size) = false := decide_eq_false k2
            by_cases k3 : 40 < y.size
            · have e3 : decide ((40 : Int) < (y.size : Int)) = true := decide_eq_true (by omega)
              have e3' : decide (40 < y.size) = true := decide_eq_true k3
              obtain rfl : R = 3 := by rw [← HRR.out]; exact fchkR_bad (k := k) (by rw [HL.out]; omega) (by rw [HL.out]; exact hlt) (by rw [HX.out]; unfold fokB; simp; omega)
              go_wp2_with fail
              all_goals first
                | (exfalso; rename_i hx hy; simp at hx; done)
                | (go_ret; exact ⟨rfl, hb2 _⟩)
            · have e3 : decide ((40 : Int) < (y.size : Int)) = false := decide_eq_false (by omega)
              have e3' : decide (40 < y.size) = false := decide_eq_false k3
              have hok : fokB (x, y) = true := by unfold fokB; simp; omega
              have HOK := Lib.hid hok
              clear hok
              go_wp2_with fail
              go_roundw
              case rel => exact ⟨k + 1, by omega, by go_num, fun j hj => by rcases Nat.lt_or_ge j k with h | h; exact HA.out j h; (obtain rfl : j = k := by omega); rw [HX.out]; exact HOK.out, hb2 _⟩
              case measure => simp [intOf]; omega
      · obtain rfl : k = n := by omega
        obtain rfl : R = 0 := by rw [← HRR.out]; exact fchkR_ok (by rw [HN.out]; omega) (by rw [HN.out]; exact HA.out)
        go_wp2_with fail
        go_ret
        exact ⟨rfl, hb⟩
end Go.Proofs.Ytihngonemdaihaa
