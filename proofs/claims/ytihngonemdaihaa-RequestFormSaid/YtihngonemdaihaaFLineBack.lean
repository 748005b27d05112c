/- Plain: a line of a section is read as it was written. -/
import Derived.Test.YtihngonemdaihaaFBack
import Derived.Test.YtihngonemdaihaaFDec
namespace Go.Proofs.Ytihngonemdaihaa
open Go.RowKit
set_option linter.unusedVariables false

theorem kGo_what (f : Fld) : ∀ (l : List Fld) (i at_ : Nat) (th : Bool) (K : Nat) (s t : Bool), kGo l i at_ th f = (K, s, t) →
    (s = true → ∃ k, k < l.length ∧ K = i + k ∧ l.getD k fnil = f) ∧ (s = false → t = true → (th = true ∧ K = at_) ∨ ∃ k, k < l.length ∧ K = i + k ∧ (l.getD k fnil).1 = f.1)
  | [], i, at_, th, K, s, t, h => by
    unfold kGo at h
    injection h with h1 h2
    injection h2 with h2 h3
    subst h1 h2 h3
    exact ⟨(fun e => Bool.noConfusion e), fun _ e => .inl ⟨e, rfl⟩⟩
  | x :: l, i, at_, th, K, s, t, h => by
    unfold kGo at h
    by_cases c1 : x = f
    · rw [if_pos c1] at h
      injection h with h1 h2
      injection h2 with h2 h3
      subst h1 h2 h3
      exact ⟨fun _ => ⟨0, by simp, rfl, by simpa using c1⟩, (fun e => Bool.noConfusion e)⟩
    · rw [if_neg c1] at h
      by_cases c2 : x.1 = f.1 ∧ th = false
      · rw [if_pos c2] at h
        obtain ⟨a, b⟩ := kGo_what f l (i + 1) i true K s t h
        refine ⟨fun e => ?_, fun e1 e2 => ?_⟩
        · obtain ⟨k, k1, k2, k3⟩ := a e
          exact ⟨k + 1, by simp; omega, by omega, by simpa using k3⟩
        · rcases b e1 e2 with ⟨_, k2⟩ | ⟨k, k1, k2, k3⟩
          · exact .inr ⟨0, by simp, by omega, by simpa using c2.1⟩
          · exact .inr ⟨k + 1, by simp; omega, by omega, by simpa using k3⟩
      · rw [if_neg c2] at h
        obtain ⟨a, b⟩ := kGo_what f l (i + 1) at_ th K s t h
        refine ⟨fun e => ?_, fun e1 e2 => ?_⟩
        · obtain ⟨k, k1, k2, k3⟩ := a e
          exact ⟨k + 1, by simp; omega, by omega, by simpa using k3⟩
        · rcases b e1 e2 with h1 | ⟨k, k1, k2, k3⟩
          · exact .inl h1
          · exact .inr ⟨k + 1, by simp; omega, by omega, by simpa using k3⟩
theorem known_same {f : Fld} {K : Nat} {t : Bool} (h : knownR f = (K, true, t)) : K < 11 ∧ knownL.getD K fnil = f := by
  obtain ⟨k, k1, k2, k3⟩ := (kGo_what f knownL 0 0 false K true t h).1 rfl
  rw [knownL_len] at k1
  obtain rfl : K = k := by omega
  exact ⟨k1, k3⟩
theorem known_there {f : Fld} {K : Nat} (h : knownR f = (K, false, true)) : K < 11 ∧ (knownL.getD K fnil).1 = f.1 := by
  rcases (kGo_what f knownL 0 0 false K false true h).2 rfl rfl with ⟨e, _⟩ | ⟨k, k1, k2, k3⟩
  · cases e
  · rw [knownL_len] at k1
    obtain rfl : K = k := by omega
    exact ⟨k1, k3⟩
/-- The line of a field: ref is its number in the table, or -1. -/
def lineB (need : Nat) (f : Fld) (ref : Int) : List UInt8 :=
  if (knownR f).2.1 then pEnc 6 192 (knownR f).1 else
  if 0 ≤ ref then pEnc 6 128 (need - 1 - ref.toNat) else
  if (knownR f).2.2 then pEnc 4 64 (knownR f).1 ++ txtB 7 0 f.2 else
  txtB 3 32 f.1 ++ txtB 7 0 f.2
theorem yKnown_back (w : Nat) (h1 : 1 ≤ w) (h8 : w ≤ 8) (c : UInt8) (hc : c.toNat % 2 ^ w = 0) (K : Nat) (hK : K < 11) (more : List UInt8) : yKnown w ⟨pEnc w c K ++ more, 0⟩ = (knownL.getD K fnil, ⟨more, 0⟩) := by
  unfold yKnown
  rw [yNumber_back w h1 h8 c hc K (by omega) more]
  rw [if_neg (by simp), if_neg (by simp only; omega)]
  simp
theorem head_of {w : Nat} (h1 : 1 ≤ w) (h8 : w ≤ 8) {c : UInt8} (n : Nat) (hc : c.toNat + 2 ^ w ≤ 256) (more : List UInt8) : c.toNat ≤ ((pEnc w c n ++ more).getD 0 0).toNat ∧ ((pEnc w c n ++ more).getD 0 0).toNat < c.toNat + 2 ^ w := by
  obtain ⟨b, l, e, a1, a2⟩ := pEnc_head w h1 h8 c n hc
  rw [e]
  simpa using ⟨a1, a2⟩
/-- A line is read as it was written. -/
theorem yLine_back (put : Int) (l : List Fld) (need : Nat) (f : Fld) (hf : FOk f) (ref : Int) (hr : (knownR f).2.1 = false → 0 ≤ ref → ref < need ∧ tGetR put l ref = (f, 0)) (hneed : (need : Int) ≤ 4611686018427387903) (more : List UInt8) :
    yLine put l need ⟨lineB need f ref ++ more, 0⟩ = (f, ⟨more, 0⟩) := by
  obtain ⟨K, s, t, hk⟩ : ∃ K s t, knownR f = (K, s, t) := ⟨_, _, _, rfl⟩
  unfold lineB
  rw [hk] at hr ⊢
  dsimp only at hr ⊢
  cases s with
  | true =>
    obtain ⟨k1, k2⟩ := known_same hk
    rw [if_pos rfl]
    have hh := head_of (w := 6) (by decide) (by decide) (c := 192) K (by decide) more
    have e1 : (192 : UInt8).toNat = 192 := rfl
    rw [e1] at hh
    unfold yLine
    dsimp only
    rw [if_pos hh.1, yKnown_back 6 (by decide) (by decide) 192 (by decide) K k1 more, k2]
  | false =>
    rw [if_neg (by simp)]
    by_cases h0 : 0 ≤ ref
    · obtain ⟨r1, r2⟩ := hr rfl h0
      obtain ⟨R, rfl⟩ := Int.eq_ofNat_of_zero_le h0
      rw [if_pos h0]
      simp only [Int.toNat_natCast]
      have hh := head_of (w := 6) (by decide) (by decide) (c := 128) (need - 1 - R) (by decide) more
      have e1 : (128 : UInt8).toNat = 128 := rfl
      rw [e1] at hh
      unfold yLine
      dsimp only
      rw [if_neg (by omega), if_pos hh.1, yNumber_back 6 (by decide) (by decide) 128 (by decide) (need - 1 - R) (by omega) more]
      dsimp only
      rw [if_neg (by simp), if_neg (by omega), show ((need : Nat) : Int) - 1 - ((need - 1 - R : Nat) : Int) = (R : Int) by omega, r2]
    · rw [if_neg h0]
      cases t with
      | true =>
        obtain ⟨k1, k2⟩ := known_there hk
        rw [if_pos rfl, List.append_assoc]
        have hh := head_of (w := 4) (by decide) (by decide) (c := 64) K (by decide) (txtB 7 0 f.2 ++ more)
        have e1 : (64 : UInt8).toNat = 64 := rfl
        rw [e1] at hh
        unfold yLine
        dsimp only
        rw [if_neg (by omega), if_neg (by omega), if_pos ⟨hh.1, by omega⟩, yKnown_back 4 (by decide) (by decide) 64 (by decide) K k1 _]
        dsimp only
        rw [yText_back 7 (by decide) (by decide) 0 (by decide) f.2 (by have := hf.2.2; omega) more]
        dsimp only
        rw [k2]
      | false =>
        rw [if_neg (by simp), List.append_assoc]
        have hh := head_of (w := 3) (by decide) (by decide) (c := 32) f.1.size (by decide) (bts f.1 ++ (txtB 7 0 f.2 ++ more))
        have e1 : (32 : UInt8).toNat = 32 := rfl
        rw [e1] at hh
        have e2 : txtB 3 32 f.1 ++ (txtB 7 0 f.2 ++ more) = pEnc 3 32 f.1.size ++ (bts f.1 ++ (txtB 7 0 f.2 ++ more)) := by unfold txtB; rw [List.append_assoc]
        rw [← e2] at hh
        unfold yLine
        dsimp only
        rw [if_neg (by omega), if_neg (by omega), if_neg (by omega), if_pos ⟨hh.1, by omega⟩, yText_back 3 (by decide) (by decide) 32 (by decide) f.1 (by have := hf.2.1; omega) _]
        dsimp only
        rw [yText_back 7 (by decide) (by decide) 0 (by decide) f.2 (by have := hf.2.2; omega) more]
end Go.Proofs.Ytihngonemdaihaa
