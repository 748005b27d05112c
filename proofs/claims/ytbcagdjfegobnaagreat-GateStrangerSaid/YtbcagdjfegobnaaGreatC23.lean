/- Texts of the proof, laid together: Head. -/
import Derived.Test.YtbcagdjfegobnaaGreatC14
/- Plain: heads of packets in bytes. -/
namespace Go.Proofs.YtbcagdjfegobnaaGreat
open Go.RowKit
set_option linter.unusedVariables false

structure HeadD where
  kind : Nat
  to : Nat
  from_ : Nat
  tok : List UInt8
  number : Nat
  size : Nat
def hnil : HeadD := ⟨0, 0, 0, [], 0, 0⟩
/-- A head that may be. -/
def HeadOk (h : HeadD) : Prop := h.kind ≤ 2 ∧ h.tok.length ≤ 120 ∧ h.to ≤ 255 ∧ h.from_ ≤ 255 ∧ (h.kind = 1 → h.size = 0 ∧ h.number = 0) ∧ (h.kind ≠ 1 → 1 ≤ h.size ∧ h.size ≤ 4) ∧ h.number < 256 ^ h.size ∧ (h.kind = 2 → h.from_ = 0 ∧ h.tok = [])

/-- The bytes ahead of a head's number. -/
def hfront (h : HeadD) : List UInt8 :=
  if h.kind = 2 then [UInt8.ofNat (64 + (h.size - 1)), UInt8.ofNat h.to]
  else [UInt8.ofNat (if h.kind = 0 then 192 + (h.size - 1) else 240), UInt8.ofNat h.to, UInt8.ofNat h.from_] ++ encB h.tok.length ++ h.tok
def henc (h : HeadD) : List UInt8 := hfront h ++ beB h.size h.number

/-- The number behind the others: s bytes from u on. -/
def htail (bs : List UInt8) (k to f : Nat) (t : List UInt8) (u s : Nat) : HeadD × Nat × Int :=
  if bs.length < u + s then (hnil, 0, 4) else (⟨k, to, f, t, valB ((bs.drop u).take s) 0, s⟩, u + s, 0)
/-- What is read behind the first byte, if the head is not short. -/
def hlong (bs : List UInt8) (k s : Nat) : HeadD × Nat × Int :=
  if bs.length < 3 then (hnil, 0, 4) else
  if (decR (bs.drop 3)).2.2 ≠ 0 then (hnil, 0, 4) else
  if 120 < (decR (bs.drop 3)).1.toNat then (hnil, 0, 1) else
  if bs.length < 3 + (decR (bs.drop 3)).2.1.toNat + (decR (bs.drop 3)).1.toNat then (hnil, 0, 4) else
  htail bs k (bs.getD 1 0).toNat (bs.getD 2 0).toNat ((bs.drop (3 + (decR (bs.drop 3)).2.1.toNat)).take (decR (bs.drop 3)).1.toNat) (3 + (decR (bs.drop 3)).2.1.toNat + (decR (bs.drop 3)).1.toNat) s
/-- What is read of bytes: the head, how many bytes it has, what is wrong. -/
def hdec (bs : List UInt8) : HeadD × Nat × Int :=
  if bs.length = 0 then (hnil, 0, 4) else
  if (bs.getD 0 0).toNat / 4 = 16 then (if bs.length < 2 then (hnil, 0, 4) else htail bs 2 (bs.getD 1 0).toNat 0 [] 2 ((bs.getD 0 0).toNat % 4 + 1)) else
  if (bs.getD 0 0).toNat / 4 = 48 then hlong bs 0 ((bs.getD 0 0).toNat % 4 + 1) else
  if (bs.getD 0 0).toNat = 240 then hlong bs 1 0 else (hnil, 0, 2)

theorem valB_bound (bs : List UInt8) : valB bs 0 < 256 ^ bs.length := by
  have := valB_lt bs 0 1 (by decide); simpa using this



theorem drop_app {α : Type} (a b : List α) (k : Nat) (h : a.length = k) : (a ++ b).drop k = b := by subst h; simp
theorem take_app {α : Type} (a b : List α) (k : Nat) (h : a.length = k) : (a ++ b).take k = a := by subst h; simp
theorem htail_back (a b : List UInt8) (k to f : Nat) (t : List UInt8) (u s n : Nat) (ha : a.length = u) (hn : n < 256 ^ s) : htail (a ++ beB s n ++ b) k to f t u s = (⟨k, to, f, t, n, s⟩, u + s, 0) := by
  unfold htail
  rw [if_neg (by simp [beB_length]; omega), List.append_assoc, drop_app _ _ _ ha, take_app _ _ _ (beB_length s n), valB_beB _ _ _ hn]
  simp
theorem henc_length (h : HeadD) : (henc h).length = (hfront h).length + h.size := by simp [henc, beB_length]

/-- A head is read as_v it was written, whatever stands behind it. -/
theorem hdec_back (h : HeadD) (ok : HeadOk h) (more : List UInt8) : hdec (henc h ++ more) = (h, (henc h).length, 0) := by
  obtain ⟨h1, h2, h3, h4, h5, h6, h7, h8⟩ := ok
  obtain ⟨k, to, f, t, n, s⟩ := h
  simp only at *
  by_cases hk : k = 2
  · subst hk
    obtain ⟨rfl, rfl⟩ := h8 rfl
    obtain ⟨h9, h10⟩ := h6 (by decide)
    rw [henc_length]
    simp only [henc, hfront, if_pos]
    unfold hdec
    have e0 : (UInt8.ofNat (64 + (s - 1))).toNat = 64 + (s - 1) := by simp; omega
    have e1 : (UInt8.ofNat to).toNat = to := by simp; omega
    have hb := htail_back [UInt8.ofNat (64 + (s - 1)), UInt8.ofNat to] more 2 to 0 [] 2 s n rfl h7
    simp only [List.cons_append, List.nil_append, List.getD, List.getElem?_cons_zero, List.getElem?_cons_succ, Option.getD_some, List.length_cons, List.length_append, e0, e1] at hb ⊢
    rw [if_neg (by omega), if_pos (by omega), if_neg (by omega), show (64 + (s - 1)) % 4 + 1 = s from by omega, hb]
    simp
  · have hdl : (t.length : Int) ≤ 4611686018427387903 := by omega
    have key : ∀ (c : UInt8), hlong ([c, UInt8.ofNat to, UInt8.ofNat f] ++ encB t.length ++ t ++ beB s n ++ more) k s = (⟨k, to, f, t, n, s⟩, 3 + (encB t.length).length + t.length + s, 0) := by
      intro c
      unfold hlong
      have hdr : decR (([c, UInt8.ofNat to, UInt8.ofNat f] ++ encB t.length ++ t ++ beB s n ++ more).drop 3) = ((t.length : Int), ((encB t.length).length : Int), 0) := by
        have := dec_back t.length hdl (t ++ beB s n ++ more)
        simpa using this
      rw [hdr]
      have hl : ([c, UInt8.ofNat to, UInt8.ofNat f] ++ encB t.length ++ t).length = 3 + (encB t.length).length + t.length := by simp; omega
      have htk : (([c, UInt8.ofNat to, UInt8.ofNat f] ++ encB t.length ++ t ++ beB s n ++ more).drop (3 + (encB t.length).length)).take t.length = t := by
        rw [List.append_assoc, List.append_assoc, drop_app _ _ _ (by simp; omega), take_app _ _ _ rfl]
      simp only [Int.toNat_natCast]
      rw [if_neg (by simp), if_neg (by simp), if_neg (by omega), if_neg (by simp; omega), htk, htail_back _ _ _ _ _ _ _ _ _ hl h7]
      have e1 : (UInt8.ofNat to).toNat = to := by simp; omega
      have e2 : (UInt8.ofNat f).toNat = f := by simp; omega
      simp [e1, e2]
    have hlen : (henc ⟨k, to, f, t, n, s⟩).length = 3 + (encB t.length).length + t.length + s := by
      rw [henc_length]; simp only [hfront, if_neg hk]; simp; omega
    rw [hlen]
    simp only [henc, hfront, if_neg hk]
    rcases (show k = 0 ∨ k = 1 by omega) with rfl | rfl
    · obtain ⟨h9, h10⟩ := h6 (by decide)
      have e0 : (UInt8.ofNat (192 + (s - 1))).toNat = 192 + (s - 1) := by simp; omega
      simp only [if_pos]
      unfold hdec
      simp only [List.cons_append, List.nil_append, List.getD, List.getElem?_cons_zero, Option.getD_some, List.length_cons, e0]
      rw [if_neg (by omega), if_neg (by omega), if_pos (by omega)]
      have := key (UInt8.ofNat (192 + (s - 1)))
      simp only [List.cons_append, List.nil_append] at this
      rw [show (192 + (s - 1)) % 4 + 1 = s from by omega, this]
    · obtain ⟨rfl, rfl⟩ := h5 rfl
      simp only [if_neg (show ¬ (1 : Nat) = 0 by decide)]
      unfold hdec
      have := key (UInt8.ofNat 240)
      simp only [List.cons_append, List.nil_append] at this
      have e0 : (UInt8.ofNat 240).toNat = 240 := by simp
      simp only [List.cons_append, List.nil_append, List.getD, List.getElem?_cons_zero, Option.getD_some, List.length_cons, e0]
      rw [if_neg (by omega), if_neg (by omega), if_neg (by omega), if_pos trivial, this]

end Go.Proofs.YtbcagdjfegobnaaGreat
