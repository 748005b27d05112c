/- Plain: what an eye reads of what a pen has written. -/
import Derived.Test.YtihngonemdaihaaFPlain
import Derived.Test.YtihngonemdaihaaFChk
namespace Go.Proofs.Ytihngonemdaihaa
open Go.RowKit
set_option linter.unusedVariables false

/-- A text behind bits. -/
def txtB (w : Nat) (c : UInt8) (s : ByteArray) : List UInt8 := pEnc w c s.size ++ bts s
theorem txtB_len (w : Nat) (c : UInt8) (s : ByteArray) : (txtB w c s).length = (pEnc w c s.size).length + s.size := by
  unfold txtB; rw [List.length_append, bts_len]
theorem pRead_back (w : Nat) (h1 : 1 ≤ w) (h8 : w ≤ 8) (c : UInt8) (hc : c.toNat % 2 ^ w = 0) (s : ByteArray) (hs : s.size ≤ 120) (more : List UInt8) :
    pRead w (txtB w c s ++ more) = (s, (((txtB w c s).length : Nat) : Int), 0) := by
  have hd := pDec_back w h1 h8 c hc s.size (by omega) (bts s ++ more)
  have hl := bts_len s
  unfold txtB
  rw [List.append_assoc]
  unfold pRead
  rw [hd]
  rw [if_neg (by simp), if_neg (by simp only; omega), if_neg (by simp only [List.length_append]; push_cast; omega)]
  simp only [Int.toNat_natCast]
  rw [List.drop_left, show s.size = (bts s).length from hl.symm, List.take_left, byt_bts, List.length_append]
  push_cast
  rfl
theorem pRead_cut (w : Nat) (h1 : 1 ≤ w) (h8 : w ≤ 8) (c : UInt8) (hc : c.toNat % 2 ^ w = 0) (s : ByteArray) (hs : s.size ≤ 120) (j : Nat) (hj : j < (txtB w c s).length) :
    pRead w ((txtB w c s).take j) = (ByteArray.empty, 0, 4) := by
  rw [txtB_len] at hj
  unfold txtB
  by_cases h : j < (pEnc w c s.size).length
  · rw [List.take_append_of_le_length (by omega)]
    have hd := pDec_cut w h1 h8 c hc s.size (by omega) j h
    unfold pRead
    rw [hd, if_pos (by simp)]
  · rw [List.take_append, List.take_of_length_le (by omega)]
    have hd := pDec_back w h1 h8 c hc s.size (by omega) ((bts s).take (j - (pEnc w c s.size).length))
    unfold pRead
    rw [hd]
    rw [if_neg (by simp), if_neg (by simp only; omega), if_pos (by simp only [List.length_append, List.length_take, bts_len]; push_cast; omega)]
theorem yText_back (w : Nat) (h1 : 1 ≤ w) (h8 : w ≤ 8) (c : UInt8) (hc : c.toNat % 2 ^ w = 0) (s : ByteArray) (hs : s.size ≤ 120) (more : List UInt8) :
    yText w ⟨txtB w c s ++ more, 0⟩ = (s, ⟨more, 0⟩) := by
  rw [yText_good (pRead_back w h1 h8 c hc s hs more), List.drop_left]
theorem yText_cut (w : Nat) (h1 : 1 ≤ w) (h8 : w ≤ 8) (c : UInt8) (hc : c.toNat % 2 ^ w = 0) (s : ByteArray) (hs : s.size ≤ 120) (j : Nat) (hj : j < (txtB w c s).length) :
    yText w ⟨(txtB w c s).take j, 0⟩ = (ByteArray.empty, ⟨(txtB w c s).take j, 4⟩) := yText_bad (pRead_cut w h1 h8 c hc s hs j hj) (by decide)
theorem yNumber_back (w : Nat) (h1 : 1 ≤ w) (h8 : w ≤ 8) (c : UInt8) (hc : c.toNat % 2 ^ w = 0) (n : Nat) (hn : (n : Int) ≤ 4611686018427387903) (more : List UInt8) :
    yNumber w ⟨pEnc w c n ++ more, 0⟩ = ((n : Int), ⟨more, 0⟩) := by
  rw [yNumber_good (pDec_back w h1 h8 c hc n hn more), List.drop_left]
/-- The first byte of a number behind bits keeps the bits. -/
theorem pEnc_head (w : Nat) (h1 : 1 ≤ w) (h8 : w ≤ 8) (c : UInt8) (n : Nat) (hc : c.toNat + 2 ^ w ≤ 256) : ∃ b l, pEnc w c n = b :: l ∧ c.toNat ≤ b.toNat ∧ b.toNat < c.toNat + 2 ^ w := by
  have hp := pow_w w h1 h8
  unfold pEnc
  by_cases h : n < 2 ^ w - 1
  · rw [if_pos h]
    refine ⟨_, _, rfl, ?_, ?_⟩ <;> rw [ofNat_lt _ (by omega)] <;> omega
  · rw [if_neg h]
    refine ⟨_, _, rfl, ?_, ?_⟩ <;> rw [ofNat_lt _ (by omega)] <;> omega
/-- A field that is told ahead. -/
def tellF (f : Fld) : List UInt8 := txtB 5 64 f.1 ++ txtB 7 0 f.2
def tellB (gs : List Fld) : List UInt8 := gs.flatMap tellF
theorem tellB_cons (f : Fld) (gs : List Fld) : tellB (f :: gs) = tellF f ++ tellB gs := rfl
theorem tellB_snoc (f : Fld) (gs : List Fld) : tellB (gs ++ [f]) = tellB gs ++ tellF f := by unfold tellB; simp
end Go.Proofs.Ytihngonemdaihaa
