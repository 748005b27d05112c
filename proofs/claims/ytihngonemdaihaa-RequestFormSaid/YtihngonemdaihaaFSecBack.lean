/- Plain: a section is read as it was written; or a field of it is gone out of the table. -/
import Derived.Test.YtihngonemdaihaaFLineBack
namespace Go.Proofs.Ytihngonemdaihaa
open Go.RowKit
set_option linter.unusedVariables false

def linesB (need : Nat) (ps : List (Fld × Int)) : List UInt8 := ps.flatMap fun p => lineB need p.1 p.2
def secB (need : Nat) (ps : List (Fld × Int)) : List UInt8 := pEnc 8 0 need ++ linesB need ps
theorem linesB_cons (need : Nat) (p : Fld × Int) (ps : List (Fld × Int)) : linesB need (p :: ps) = lineB need p.1 p.2 ++ linesB need ps := rfl
theorem linesB_snoc (need : Nat) (p : Fld × Int) (ps : List (Fld × Int)) : linesB need (ps ++ [p]) = linesB need ps ++ lineB need p.1 p.2 := by unfold linesB; simp
theorem lineB_pos (need : Nat) (f : Fld) (ref : Int) : 0 < (lineB need f ref).length := by
  unfold lineB
  split
  · exact (pEnc_len _ _ _).1
  · split
    · exact (pEnc_len _ _ _).1
    · split
      · rw [List.length_append]; have := (pEnc_len 4 64 (knownR f).1).1; omega
      · rw [List.length_append, txtB_len]; have := (pEnc_len 3 32 f.1.size).1; omega
/-- What may be said of a field's number in the table: it is there. -/
def RefOk (put : Int) (l : List Fld) (need : Nat) (p : Fld × Int) : Prop := FOk p.1 ∧ ((knownR p.1).2.1 = false → 0 ≤ p.2 → p.2 < need ∧ tGetR put l p.2 = (p.1, 0))
/-- .. or it is gone. -/
def RefGone (put : Int) (l : List Fld) (need : Nat) (p : Fld × Int) : Prop := (knownR p.1).2.1 = false ∧ 0 ≤ p.2 ∧ p.2 < need ∧ tGetR put l p.2 = (fnil, 16)
theorem yLine_gone (put : Int) (l : List Fld) (need : Nat) (p : Fld × Int) (h : RefGone put l need p) (hneed : (need : Int) ≤ 4611686018427387903) (more : List UInt8) :
    yLine put l need ⟨lineB need p.1 p.2 ++ more, 0⟩ = (fnil, ⟨more, 16⟩) := by
  obtain ⟨h1, h2, h3, h4⟩ := h
  obtain ⟨f, ref⟩ := p
  dsimp only at h1 h2 h3 h4 ⊢
  unfold lineB
  rw [if_neg (by rw [h1]; simp), if_pos h2]
  obtain ⟨R, rfl⟩ := Int.eq_ofNat_of_zero_le h2
  simp only [Int.toNat_natCast]
  have hh := head_of (w := 6) (by decide) (by decide) (c := 128) (need - 1 - R) (by decide) more
  have e1 : (128 : UInt8).toNat = 128 := rfl
  rw [e1] at hh
  unfold yLine
  dsimp only
  rw [if_neg (by omega), if_pos hh.1, yNumber_back 6 (by decide) (by decide) 128 (by decide) (need - 1 - R) (by omega) more]
  dsimp only
  rw [if_neg (by simp), if_neg (by omega), show ((need : Nat) : Int) - 1 - ((need - 1 - R : Nat) : Int) = (R : Int) by omega, h4]
theorem fdGo_later (put : Int) (l : List Fld) (need : Nat) (hneed : (need : Int) ≤ 4611686018427387903) : ∀ (ps : List (Fld × Int)) (k : Nat) (out : List Fld), ps.length < k → out.length + ps.length ≤ 8 → (∀ f ∈ out, FOk f) → (∀ p ∈ ps, FOk p.1) → (∀ p ∈ ps, RefOk put l need p ∨ RefGone put l need p) →
    fdGo put l need k ⟨linesB need ps, 0⟩ out = (out ++ ps.map Prod.fst, 0) ∨ (fdGo put l need k ⟨linesB need ps, 0⟩ out = ([], 16) ∧ ∃ p ∈ ps, RefGone put l need p)
  | [], k, out, hk, ho, hf, _, _ => by
    obtain ⟨k, rfl⟩ : ∃ q, k = q + 1 := ⟨k - 1, by simp at hk; omega⟩
    left
    have hc : fchkR out = 0 := fchkR_ok (by simpa using ho) fun j hj => (fokB_iff _).2 (hf _ (getD_inF _ _ _ hj))
    unfold fdGo
    rw [if_pos (show (linesB need []).length = 0 from rfl), if_neg (by simp [hc])]
    simp
  | p :: ps, k, out, hk, ho, hf, hg, hr => by
    obtain ⟨k, rfl⟩ : ∃ q, k = q + 1 := ⟨k - 1, by simp at hk; omega⟩
    have hp := lineB_pos need p.1 p.2
    simp only [List.length_cons] at hk ho
    unfold fdGo
    rw [linesB_cons]
    dsimp only
    rw [if_neg (by rw [List.length_append]; omega), if_neg (by omega)]
    rcases hr p List.mem_cons_self with h1 | h1
    · rw [yLine_back put l need p.1 h1.1 p.2 h1.2 hneed (linesB need ps)]
      dsimp only
      rw [if_neg (by simp)]
      rcases fdGo_later put l need hneed ps k (out ++ [p.1]) (by omega) (by rw [List.length_append]; simp; omega) (fun f hf' => by
        rcases List.mem_append.1 hf' with h2 | h2
        · exact hf f h2
        · rw [List.mem_singleton.1 h2]; exact hg p List.mem_cons_self) (fun q hq => hg q (List.mem_cons_of_mem _ hq)) (fun q hq => hr q (List.mem_cons_of_mem _ hq)) with h2 | ⟨h2, q, hq, h3⟩
      · left; rw [h2]; simp
      · exact .inr ⟨h2, q, List.mem_cons_of_mem _ hq, h3⟩
    · right
      rw [yLine_gone put l need p h1 hneed (linesB need ps)]
      dsimp only
      rw [if_pos (by simp)]
      exact ⟨rfl, p, List.mem_cons_self, h1⟩
/-- A section, read later. -/
theorem fdec_later (put : Int) (l : List Fld) (need : Nat) (hn : (need : Int) ≤ put) (hput : put ≤ 4611686018427387903) (ps : List (Fld × Int)) (h8 : ps.length ≤ 8) (hf : ∀ p ∈ ps, FOk p.1) (hr : ∀ p ∈ ps, RefOk put l need p ∨ RefGone put l need p) :
    fdecR put l (secB need ps) = (ps.map Prod.fst, 0) ∨ (fdecR put l (secB need ps) = ([], 16) ∧ ∃ p ∈ ps, RefGone put l need p) := by
  unfold fdecR secB
  rw [yNumber_back 8 (by decide) (by decide) 0 (by decide) need (by omega) _]
  dsimp only
  rw [if_neg (by simp), if_neg (by omega)]
  have h := fdGo_later put l need (by omega) ps 9 [] (by omega) (by simpa using h8) (fun f hf => absurd hf List.not_mem_nil) hf hr
  simpa using h
/-- A section, read with the same table. -/
theorem fdec_back (put : Int) (l : List Fld) (need : Nat) (hn : (need : Int) ≤ put) (hput : put ≤ 4611686018427387903) (ps : List (Fld × Int)) (h8 : ps.length ≤ 8) (hr : ∀ p ∈ ps, RefOk put l need p) : fdecR put l (secB need ps) = (ps.map Prod.fst, 0) := by
  rcases fdec_later put l need hn hput ps h8 (fun p hp => (hr p hp).1) (fun p hp => .inl (hr p hp)) with h | ⟨_, p, hp, h1, h2, h3, h4⟩
  · exact h
  · have := ((hr p hp).2 h1 h2).2
    rw [h4] at this
    injection this with _ h5
    cases h5
/-- Who has not heard what was told ahead waits. -/
theorem fdec_wait (put : Int) (l : List Fld) (need : Nat) (hn : put < need) (hneed : (need : Int) ≤ 4611686018427387903) (ps : List (Fld × Int)) : fdecR put l (secB need ps) = ([], 14) := by
  unfold fdecR secB
  rw [yNumber_back 8 (by decide) (by decide) 0 (by decide) need hneed _]
  dsimp only
  rw [if_neg (by simp), if_pos (by omega)]
end Go.Proofs.Ytihngonemdaihaa
