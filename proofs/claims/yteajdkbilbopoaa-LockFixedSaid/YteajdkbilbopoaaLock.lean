/- Plain: bytes that are locked, and opened again. -/
import Derived.Test.YteajdkbilbopoaaMix
import Derived.Test.YteajdkbilbopoaaVar
namespace Go.Proofs.Yteajdkbilbopoaa
open Go.RowKit
set_option linter.unusedVariables false

/-- The word with which the turning begins. -/
def startI (key n : Int) : Int := mixI (bits .xor .u64 key (mixI (IntKind.u64.wrap n)))
theorem startI_range (key n : Int) : 0 ≤ startI key n ∧ startI key n < 18446744073709551616 := mixI_range _
/-- The word that turns byte i. -/
def ksW (start : Int) (i : Nat) : Int := mixI (IntKind.u64.wrap (start + (i : Int) / 8))
/-- The byte that turns byte i. -/
def ksB (start : Int) (i : Nat) : UInt8 := UInt8.ofNat (ksW start i / 2 ^ (8 * (i % 8))).toNat
theorem ksB_eq (start : Int) (i : Nat) : ksW start i / 2 ^ (8 * (i % 8)) % 256 = ((ksB start i).toNat : Int) := by
  have h := mixI_range (IntKind.u64.wrap (start + (i : Int) / 8))
  have h0 : 0 ≤ ksW start i / 2 ^ (8 * (i % 8)) := Int.ediv_nonneg h.1 (Int.le_of_lt (Int.pow_pos (by decide)))
  unfold ksB
  rw [UInt8.toNat_ofNat']
  generalize ksW start i / 2 ^ (8 * (i % 8)) = x at *
  omega
/-- The word shifted. -/
def ksY (start : Int) (i : Nat) : Int := ksW start i / 2 ^ (8 * (i % 8))
theorem ksY_shift (start : Int) (i : Nat) : Op.shift .shr .u64 (mixI (IntKind.u64.wrap (start + (i : Int) / 8))) .i64 (IntKind.i64.wrap (8 * (i : Int).tmod 8)) = pure (.int .u64 (ksY start i)) := by
  have e : IntKind.i64.wrap (8 * (i : Int).tmod 8) = ((8 * (i % 8) : Nat) : Int) := by
    rw [Int.tmod_eq_emod_of_nonneg (by omega), IntKind.wrap_i64]; omega
  rw [e, shift_shr .u64 .i64 _ _ (by omega) (by simp [IntKind.bits]; omega), Int.toNat_natCast]
  rfl
theorem ksY_wrap (start : Int) (i : Nat) : IntKind.u8.wrap (ksY start i) = ((ksB start i).toNat : Int) := by
  rw [IntKind.wrap_u8']; exact ksB_eq start i
theorem xor_u8 (a b : UInt8) : bits .xor .u8 (a.toNat : Int) (b.toNat : Int) = ((a ^^^ b).toNat : Int) := by
  rw [u8_xor_nat _ _ a.toNat_lt b.toNat_lt]; simp

/-- The bytes turned. -/
def turnB (start : Int) (bs : List UInt8) : List UInt8 := bs.mapIdx fun i b => b ^^^ ksB start i
theorem turnB_length (start : Int) (bs : List UInt8) : (turnB start bs).length = bs.length := by simp [turnB]
theorem turnB_twice (start : Int) (bs : List UInt8) : turnB start (turnB start bs) = bs := by
  apply List.ext_getElem
  · simp [turnB]
  · intro i h1 h2
    simp [turnB, UInt8.xor_assoc]
/-- The first k bytes turned. -/
def turnTo (start : Int) (bs : List UInt8) (k : Nat) : List UInt8 := (turnB start bs).take k ++ bs.drop k
theorem turnTo_length (start : Int) (bs : List UInt8) (k : Nat) : (turnTo start bs k).length = bs.length := by
  simp [turnTo, turnB]; omega
theorem turnTo_zero (start : Int) (bs : List UInt8) : turnTo start bs 0 = bs := by simp [turnTo]
theorem turnTo_all (start : Int) (bs : List UInt8) : turnTo start bs bs.length = turnB start bs := by
  unfold turnTo; rw [List.take_of_length_le (by rw [turnB_length]; exact Nat.le_refl _)]; simp
theorem turnTo_get (start : Int) (bs : List UInt8) (k : Nat) (h : k < bs.length) : (turnTo start bs k).getD k 0 = bs.getD k 0 := by
  unfold turnTo
  simp only [List.getD]
  rw [List.getElem?_append_right (by simp [turnB]; omega), List.length_take, turnB_length, Nat.min_eq_left (by omega), Nat.sub_self, List.getElem?_drop, Nat.add_zero]
theorem turnTo_set (start : Int) (bs : List UInt8) (k : Nat) (h : k < bs.length) : (turnTo start bs k).set k (bs.getD k 0 ^^^ ksB start k) = turnTo start bs (k + 1) := by
  unfold turnTo
  rw [List.set_append_right _ _ (by simp [turnB]; omega), List.length_take, turnB_length, Nat.min_eq_left (by omega), Nat.sub_self, List.drop_eq_getElem_cons h, List.set_cons_zero, List.take_succ_eq_append_getElem (by rw [turnB_length]; exact h), List.append_assoc]
  simp [turnB, List.getD, h]

/-- The word of one part's bytes. -/
def tagBytes (h : Int) (bs : List UInt8) : Int := bs.foldl (fun h c => mixI (bits .xor .u64 h (c.toNat : Int))) h
/-- The word of a part: its bytes, and how many they are. -/
def tagPart (h : Int) (bs : List UInt8) : Int := mixI (bits .xor .u64 (tagBytes h bs) (IntKind.u64.wrap ((bs.length : Int) * 256)))
/-- The word of two parts. -/
def tagW (key n : Int) (p q : List UInt8) : Int := tagPart (tagPart (bits .xor .u64 (mixI key) (IntKind.u64.wrap n)) p) q
theorem tagW_range (key n : Int) (p q : List UInt8) : 0 ≤ tagW key n p q ∧ tagW key n p q < 18446744073709551616 := mixI_range _
def tagB (key n : Int) (p q : List UInt8) : List UInt8 := beB 8 (tagW key n p q).toNat
theorem tagB_length (key n : Int) (p q : List UInt8) : (tagB key n p q).length = 8 := beB_length _ _
theorem tagBytes_range (h : Int) (bs : List UInt8) (h0 : 0 ≤ h) (h1 : h < 18446744073709551616) : 0 ≤ tagBytes h bs ∧ tagBytes h bs < 18446744073709551616 := by
  unfold tagBytes
  induction bs generalizing h with
  | nil => exact ⟨h0, h1⟩
  | cons c l ih => exact ih _ (mixI_range _).1 (mixI_range _).2
theorem tagBytes_take (h : Int) (bs : List UInt8) (k : Nat) (hk : k < bs.length) : tagBytes h (bs.take (k + 1)) = mixI (bits .xor .u64 (tagBytes h (bs.take k)) ((bs.getD k 0).toNat : Int)) := by
  unfold tagBytes
  rw [List.take_succ_eq_append_getElem hk, List.foldl_append]
  simp [List.getD, hk]

/-- What is sealed. -/
def sealB (key n : Int) (hd t : List UInt8) : List UInt8 := turnB (startI key n) t ++ tagB key n hd t
theorem sealB_length (key n : Int) (hd t : List UInt8) : (sealB key n hd t).length = t.length + 8 := by simp [sealB, turnB_length, tagB_length]
/-- The text of sealed bytes. -/
def openT (key n : Int) (b : List UInt8) : List UInt8 := turnB (startI key n) (b.take (b.length - 8))
/-- Does it open? -/
def opens (key n : Int) (hd b : List UInt8) : Bool := tagB key n hd (openT key n b) == b.drop (b.length - 8)
theorem open_seal (key n : Int) (hd t : List UInt8) : openT key n (sealB key n hd t) = t ∧ opens key n hd (sealB key n hd t) = true := by
  have h1 : openT key n (sealB key n hd t) = t := by
    unfold openT
    rw [sealB_length, Nat.add_sub_cancel]
    have : (sealB key n hd t).take t.length = turnB (startI key n) t := by
      have := List.take_left (l₁ := turnB (startI key n) t) (l₂ := tagB key n hd t)
      rwa [turnB_length] at this
    rw [this, turnB_twice]
  refine ⟨h1, ?_⟩
  unfold opens
  rw [h1, sealB_length, Nat.add_sub_cancel]
  have : (sealB key n hd t).drop t.length = tagB key n hd t := by
    have := List.drop_left (l₁ := turnB (startI key n) t) (l₂ := tagB key n hd t)
    rwa [turnB_length] at this
  rw [this]; simp
theorem seal_open (key n : Int) (hd b : List UInt8) (h8 : 8 ≤ b.length) (h : opens key n hd b = true) : sealB key n hd (openT key n b) = b := by
  unfold opens at h
  rw [beq_iff_eq] at h
  unfold sealB
  rw [h, openT, turnB_twice, List.take_append_drop]
end Go.Proofs.Yteajdkbilbopoaa
