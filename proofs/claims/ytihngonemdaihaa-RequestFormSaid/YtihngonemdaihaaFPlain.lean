/- Plain: what an eye reads of a section of fields. -/
import Derived.Test.YtihngonemdaihaaPrefix
import Derived.Test.YtihngonemdaihaaStrApp
import Derived.Test.YtihngonemdaihaaTable
namespace Go.Proofs.Ytihngonemdaihaa
open Go.RowKit
set_option linter.unusedVariables false

theorem pGo_cases (l : List UInt8) : ∀ (i : Nat) (n : Int), 0 ≤ n → n ≤ 4611686018427387903 →
    ((pGo l i n).1 = 0 ∧ (pGo l i n).2.1 = 0 ∧ ((pGo l i n).2.2 = 1 ∨ (pGo l i n).2.2 = 4 ∨ (pGo l i n).2.2 = 6)) ∨
    ((pGo l i n).2.2 = 0 ∧ 0 ≤ (pGo l i n).1 ∧ (pGo l i n).1 ≤ 4611686018427387903 ∧ (i : Int) + 2 ≤ (pGo l i n).2.1 ∧ (pGo l i n).2.1 ≤ (i : Int) + 1 + l.length) := by
  induction l with
  | nil => intro i n h0 h1; left; simp [pGo]
  | cons c l ih =>
    intro i n h0 h1
    unfold pGo
    by_cases h9 : i = 9
    · rw [if_pos h9]; left; simp
    · rw [if_neg h9]
      generalize hX : c.toNat % 128 * 2 ^ (7 * i) = X
      by_cases h2 : 4611686018427387903 - n < (X : Int)
      · rw [if_pos h2]; left; simp
      · rw [if_neg h2]
        by_cases h3 : c.toNat < 128
        · rw [if_pos h3]; right
          refine ⟨rfl, ?_, ?_, ?_, ?_⟩ <;> dsimp only [List.length_cons] <;> omega
        · rw [if_neg h3]
          rcases ih (i + 1) (n + X) (by omega) (by omega) with h | ⟨a, b, d, e, f⟩
          · exact .inl h
          · right
            simp only [List.length_cons]
            push_cast at e f ⊢
            omega
/-- A number is read, or an error tells why not. -/
theorem pDec_cases (w : Nat) (bs : List UInt8) :
    (∃ e : Int, pDec w bs = (0, 0, e) ∧ (e = 1 ∨ e = 4 ∨ e = 6)) ∨
    (∃ n k : Nat, pDec w bs = ((n : Int), (k : Int), 0) ∧ (n : Int) ≤ 4611686018427387903 ∧ 1 ≤ k ∧ k ≤ bs.length) := by
  have key : ∀ r : Int × Int × Int, (r.1 = 0 ∧ r.2.1 = 0 ∧ (r.2.2 = 1 ∨ r.2.2 = 4 ∨ r.2.2 = 6)) ∨ (r.2.2 = 0 ∧ 0 ≤ r.1 ∧ r.1 ≤ 4611686018427387903 ∧ 1 ≤ r.2.1 ∧ r.2.1 ≤ bs.length) →
      ((∃ e : Int, r = (0, 0, e) ∧ (e = 1 ∨ e = 4 ∨ e = 6)) ∨ (∃ n k : Nat, r = ((n : Int), (k : Int), 0) ∧ (n : Int) ≤ 4611686018427387903 ∧ 1 ≤ k ∧ k ≤ bs.length)) := by
    rintro ⟨a, b, c⟩ (⟨h1, h2, h3⟩ | ⟨h1, h2, h3, h4, h5⟩)
    · simp only at h1 h2 h3
      subst h1 h2
      exact .inl ⟨c, rfl, h3⟩
    · simp only at h1 h2 h3 h4 h5
      subst h1
      refine .inr ⟨a.toNat, b.toNat, ?_, by omega, by omega, by omega⟩
      rw [Int.toNat_of_nonneg h2, Int.toNat_of_nonneg (by omega)]
  apply key
  cases bs with
  | nil => left; simp [pDec]
  | cons c l =>
    have hc := c.toNat_lt
    have hm := Nat.mod_le c.toNat (2 ^ w)
    unfold pDec
    dsimp only
    generalize c.toNat % 2 ^ w = M at *
    by_cases h : M < 2 ^ w - 1
    · rw [if_pos h]
      right
      refine ⟨rfl, ?_, ?_, ?_, ?_⟩ <;> dsimp only [List.length_cons] <;> omega
    · rw [if_neg h]
      rcases pGo_cases l 0 (M : Int) (by omega) (by omega) with h | ⟨a, b, d, e, f⟩
      · exact .inl h
      · right
        refine ⟨a, b, d, by omega, by simp only [List.length_cons]; omega⟩
/-- What Read answers: a text, how many bytes it has, and what is wrong. -/
def pRead (w : Nat) (bs : List UInt8) : ByteArray × Int × Int :=
  if (pDec w bs).2.2 ≠ 0 then (ByteArray.empty, 0, (pDec w bs).2.2) else
  if 120 < (pDec w bs).1 then (ByteArray.empty, 0, 1) else
  if (bs.length : Int) - (pDec w bs).2.1 < (pDec w bs).1 then (ByteArray.empty, 0, 4) else
  (byt ((bs.drop (pDec w bs).2.1.toNat).take (pDec w bs).1.toNat), (pDec w bs).2.1 + (pDec w bs).1, 0)
theorem pRead_cases (w : Nat) (bs : List UInt8) :
    (∃ e : Int, pRead w bs = (ByteArray.empty, 0, e) ∧ (e = 1 ∨ e = 4 ∨ e = 6)) ∨
    (∃ n k : Nat, pDec w bs = ((n : Int), (k : Int), 0) ∧ pRead w bs = (byt ((bs.drop k).take n), ((k + n : Nat) : Int), 0) ∧ n ≤ 120 ∧ 1 ≤ k ∧ k + n ≤ bs.length) := by
  rcases pDec_cases w bs with ⟨e, h, he⟩ | ⟨n, k, h, h1, h2, h3⟩
  · left
    refine ⟨e, ?_, he⟩
    unfold pRead
    rw [h, if_pos (by simp only; omega)]
  · by_cases h4 : 120 < n
    · left
      refine ⟨1, ?_, .inl rfl⟩
      unfold pRead
      rw [h, if_neg (by simp), if_pos (by simp only; omega)]
    · by_cases h5 : bs.length < k + n
      · left
        refine ⟨4, ?_, .inr (.inl rfl)⟩
        unfold pRead
        rw [h, if_neg (by simp), if_neg (by simp only; omega), if_pos (by simp only; omega)]
      · right
        refine ⟨n, k, h, ?_, by omega, h2, by omega⟩
        unfold pRead
        rw [h, if_neg (by simp), if_neg (by simp only; omega), if_neg (by simp only; omega)]
        simp
/-- What an eye has before it, and what is wrong. -/
structure YeD where
  b : List UInt8
  e : Int
def yNumber (w : Nat) (y : YeD) : Int × YeD := if y.e ≠ 0 then (0, y) else if (pDec w y.b).2.2 ≠ 0 then (0, ⟨y.b, (pDec w y.b).2.2⟩) else ((pDec w y.b).1, ⟨y.b.drop (pDec w y.b).2.1.toNat, 0⟩)
def yText (w : Nat) (y : YeD) : ByteArray × YeD := if y.e ≠ 0 then (ByteArray.empty, y) else if (pRead w y.b).2.2 ≠ 0 then (ByteArray.empty, ⟨y.b, (pRead w y.b).2.2⟩) else ((pRead w y.b).1, ⟨y.b.drop (pRead w y.b).2.1.toNat, 0⟩)
theorem yNumber_off {w : Nat} {y : YeD} (h : y.e ≠ 0) : yNumber w y = (0, y) := by unfold yNumber; rw [if_pos h]
theorem yText_off {w : Nat} {y : YeD} (h : y.e ≠ 0) : yText w y = (ByteArray.empty, y) := by unfold yText; rw [if_pos h]
theorem yNumber_bad {w : Nat} {b : List UInt8} {e : Int} (h : pDec w b = (0, 0, e)) (he : e ≠ 0) : yNumber w ⟨b, 0⟩ = (0, ⟨b, e⟩) := by unfold yNumber; simp [h, he]
theorem yNumber_good {w : Nat} {b : List UInt8} {n k : Nat} (h : pDec w b = ((n : Int), (k : Int), 0)) : yNumber w ⟨b, 0⟩ = ((n : Int), ⟨b.drop k, 0⟩) := by unfold yNumber; simp [h]
theorem yText_bad {w : Nat} {b : List UInt8} {e : Int} (h : pRead w b = (ByteArray.empty, 0, e)) (he : e ≠ 0) : yText w ⟨b, 0⟩ = (ByteArray.empty, ⟨b, e⟩) := by unfold yText; simp [h, he]
theorem yText_good {w : Nat} {b : List UInt8} {s : ByteArray} {k : Nat} (h : pRead w b = (s, (k : Int), 0)) : yText w ⟨b, 0⟩ = (s, ⟨b.drop k, 0⟩) := by unfold yText; simp [h]
/-- Fields that all know. -/
def kPath : ByteArray := ⟨#[58, 112, 97, 116, 104]⟩
def kMethod : ByteArray := ⟨#[58, 109, 101, 116, 104, 111, 100]⟩
def kStatus : ByteArray := ⟨#[58, 115, 116, 97, 116, 117, 115]⟩
def kAuth : ByteArray := ⟨#[58, 97, 117, 116, 104, 111, 114, 105, 116, 121]⟩
def knownL : List Fld := [(kPath, ⟨#[47]⟩), (kMethod, ⟨#[71, 69, 84]⟩), (kMethod, ⟨#[80, 79, 83, 84]⟩), (kStatus, ⟨#[50, 48, 48]⟩), (kStatus, ⟨#[52, 48, 52]⟩), (⟨#[97, 103, 101]⟩, ⟨#[48]⟩), (⟨#[100, 97, 116, 101]⟩, ByteArray.empty), (⟨#[101, 116, 97, 103]⟩, ByteArray.empty), (⟨#[99, 111, 111, 107, 105, 101]⟩, ByteArray.empty), (⟨#[115, 101, 114, 118, 101, 114]⟩, ByteArray.empty), (kAuth, ByteArray.empty)]
theorem knownL_len : knownL.length = 11 := rfl
theorem knownL_ok : ∀ f ∈ knownL, FOk f := by
  intro f hf
  simp only [knownL, List.mem_cons, List.not_mem_nil, or_false] at hf
  rcases hf with rfl | rfl | rfl | rfl | rfl | rfl | rfl | rfl | rfl | rfl | rfl <;> exact ⟨by decide, by decide, by decide⟩
def yKnown (w : Nat) (y : YeD) : Fld × YeD :=
  if (yNumber w y).2.e ≠ 0 then (fnil, (yNumber w y).2) else if 11 ≤ (yNumber w y).1 then (fnil, ⟨(yNumber w y).2.b, 5⟩) else (knownL.getD (yNumber w y).1.toNat fnil, (yNumber w y).2)
/-- A number of a table: the field, or what is wrong. -/
def tGetR (put : Int) (l : List Fld) (k : Int) : Fld × Int :=
  if k < 0 ∨ put ≤ k then (fnil, 5) else if k < put - l.length then (fnil, 16) else (l.getD (k - (put - l.length)).toNat fnil, 0)
end Go.Proofs.Ytihngonemdaihaa
