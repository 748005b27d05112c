/- Texts of the proof, laid together: Head. -/
import Derived.Test.YtbcagdjfegobnaaGreatC04
/- Plain: heads of packets in bytes. -/
namespace Go.Proofs.YtbcagdjfegobnaaGreat
open Go.RowKit
set_option linter.unusedVariables false

structure HeadD where
  kind : Nat
  to : Nat
  from_ : Nat
  tok : List UInt8
  number : Nat
  size : Nat
def hnil : HeadD := ⟨0, 0, 0, [], 0, 0⟩
/-- A head that may be. -/
def HeadOk (h : HeadD) : Prop := h.kind ≤ 2 ∧ h.tok.length ≤ 120 ∧ h.to ≤ 255 ∧ h.from_ ≤ 255 ∧ (h.kind = 1 → h.size = 0 ∧ h.number = 0) ∧ (h.kind ≠ 1 → 1 ≤ h.size ∧ h.size ≤ 4) ∧ h.number < 256 ^ h.size ∧ (h.kind = 2 → h.from_ = 0 ∧ h.tok = [])

/-- The bytes ahead of a head's number. -/
def hfront (h : HeadD) : List UInt8 :=
  if h.kind = 2 then [UInt8.ofNat (64 + (h.size - 1)), UInt8.ofNat h.to]
  else [UInt8.ofNat (if h.kind = 0 then 192 + (h.size - 1) else 240), UInt8.ofNat h.to, UInt8.ofNat h.from_] ++ encB h.tok.length ++ h.tok
def henc (h : HeadD) : List UInt8 := hfront h ++ beB h.size h.number

/-- The number behind the others: s bytes from u on. -/
def htail (bs : List UInt8) (k to f : Nat) (t : List UInt8) (u s : Nat) : HeadD × Nat × Int :=
  if bs.length < u + s then (hnil, 0, 4) else (⟨k, to, f, t, valB ((bs.drop u).take s) 0, s⟩, u + s, 0)
/-- What is read behind the first byte, if the head is not short. -/
def hlong (bs : List UInt8) (k s : Nat) : HeadD × Nat × Int :=
  if bs.length < 3 then (hnil, 0, 4) else
  if (decR (bs.drop 3)).2.2 ≠ 0 then (hnil, 0, 4) else
  if 120 < (decR (bs.drop 3)).1.toNat then (hnil, 0, 1) else
  if bs.length < 3 + (decR (bs.drop 3)).2.1.toNat + (decR (bs.drop 3)).1.toNat then (hnil, 0, 4) else
  htail bs k (bs.getD 1 0).toNat (bs.getD 2 0).toNat ((bs.drop (3 + (decR (bs.drop 3)).2.1.toNat)).take (decR (bs.drop 3)).1.toNat) (3 + (decR (bs.drop 3)).2.1.toNat + (decR (bs.drop 3)).1.toNat) s
/-- What is read of bytes: the head, how many bytes it has, what is wrong. -/
def hdec (bs : List UInt8) : HeadD × Nat × Int :=
  if bs.length = 0 then (hnil, 0, 4) else
  if (bs.getD 0 0).toNat / 4 = 16 then (if bs.length < 2 then (hnil, 0, 4) else htail bs 2 (bs.getD 1 0).toNat 0 [] 2 ((bs.getD 0 0).toNat % 4 + 1)) else
  if (bs.getD 0 0).toNat / 4 = 48 then hlong bs 0 ((bs.getD 0 0).toNat % 4 + 1) else
  if (bs.getD 0 0).toNat = 240 then hlong bs 1 0 else (hnil, 0, 2)

theorem valB_bound (bs : List UInt8) : valB bs 0 < 256 ^ bs.length := by
  have := valB_lt bs 0 1 (by decide); simpa using this
theorem htail_bad {bs k to f t u s} (h : (htail bs k to f t u s).2.2 ≠ 0) : (htail bs k to f t u s) = (hnil, 0, 4) := by
  unfold htail at *; split
  · rfl
  · rename_i h'; rw [if_neg h'] at h; simp at h
theorem hlong_bad {bs k s} (h : (hlong bs k s).2.2 ≠ 0) : (hlong bs k s).1 = hnil ∧ (hlong bs k s).2.1 = 0 := by
  revert h; unfold hlong; repeat' split
  all_goals first | (intro _; exact ⟨rfl, rfl⟩) | (intro h; rw [htail_bad h]; exact ⟨rfl, rfl⟩)
/-- Where something is wrong, nothing is told. -/
theorem hdec_bad {bs} (h : (hdec bs).2.2 ≠ 0) : (hdec bs).1 = hnil ∧ (hdec bs).2.1 = 0 := by
  revert h; unfold hdec; repeat' split
  all_goals first | (intro _; exact ⟨rfl, rfl⟩) | (intro h; rw [htail_bad h]; exact ⟨rfl, rfl⟩) | (intro h; exact hlong_bad h)

theorem beB_valB (bs : List UInt8) : beB bs.length (valB bs 0) = bs := by
  have key : ∀ (bs : List UInt8) (n : Nat), beB bs.length (valB bs n) = bs := by
    intro bs
    induction bs with
    | nil => intro n; rfl
    | cons c l ih =>
      intro n
      rw [List.length_cons, beB, valB_cons, ih]
      congr 1
      have hc := c.toNat_lt
      have hv : valB l (n * 256 + c.toNat) / 256 ^ l.length = n * 256 + c.toNat := by
        have hp : 0 < 256 ^ l.length := Nat.pow_pos (by decide)
        have h1 := valB_lt l (n * 256 + c.toNat) (n * 256 + c.toNat + 1) (by omega)
        have h2 : (n * 256 + c.toNat) * 256 ^ l.length ≤ valB l (n * 256 + c.toNat) := by
          clear ih h1 hp
          generalize n * 256 + c.toNat = m
          induction l generalizing m with
          | nil => simp [valB]
          | cons d l ih =>
            rw [valB_cons, List.length_cons, Nat.pow_succ, Nat.mul_comm (256 ^ l.length), ← Nat.mul_assoc]
            exact Nat.le_trans (Nat.mul_le_mul_right _ (by omega)) (ih _)
        rw [Nat.div_eq_of_lt_le h2 h1]
      rw [hv]
      apply UInt8.toNat_inj.1
      simp
  exact key bs 0

/-- What is read of a tail may be. -/
theorem htail_ok {bs k to f t u s H used} (h : htail bs k to f t u s = (H, used, 0)) : H = ⟨k, to, f, t, valB ((bs.drop u).take s) 0, s⟩ ∧ used = u + s ∧ u + s ≤ bs.length ∧ H.number < 256 ^ s := by
  unfold htail at h
  split at h
  · simp at h
  · injection h with h1 h2
    injection h2 with h2 h3
    refine ⟨h1.symm, h2.symm, by omega, ?_⟩
    rw [← h1]
    have := valB_bound ((bs.drop u).take s)
    rwa [List.length_take, List.length_drop, Nat.min_eq_left (by omega)] at this
theorem encB_le (m K : Nat) (h : sizeI m ≤ K) : (encB m).length ≤ K := by rw [encB_length]; omega
theorem hlong_ok {bs k s H used} (h : hlong bs k s = (H, used, 0)) : H.kind = k ∧ H.size = s ∧ H.to ≤ 255 ∧ H.from_ ≤ 255 ∧ H.tok.length ≤ 120 ∧ H.number < 256 ^ s ∧ used ≤ bs.length ∧ 3 + (encB H.tok.length).length + H.tok.length + s ≤ used := by
  unfold hlong at h
  split at h
  · simp at h
  split at h
  · simp at h
  split at h
  · simp at h
  split at h
  · simp at h
  rename_i h1 h2 h3 h4
  obtain ⟨rfl, rfl, h7, h8⟩ := htail_ok h
  rcases decR_cases (bs.drop 3) with ⟨e, _⟩ | ⟨n, K, e, e1, e2, e3, e4, e5⟩
  · rw [e] at h2; simp at h2
  · rw [e] at h3 h4 h7 h8 ⊢
    simp only [Int.toNat_natCast] at h3 h4 h7 h8 ⊢
    have hs := (dec_size _ n K e1 e5).2
    have hl : (List.take n (List.drop (3 + K) bs)).length = n := by simp; omega
    rw [hl]
    have := encB_le n K hs
    exact ⟨trivial, trivial, by have := (bs.getD 1 0).toNat_lt; omega, by have := (bs.getD 2 0).toNat_lt; omega, by omega, h8, by omega, by omega⟩
/-- Whatever is read may be, and is written in no more bytes. -/
theorem hdec_ok {bs H used} (h : hdec bs = (H, used, 0)) : HeadOk H ∧ (henc H).length ≤ used ∧ used ≤ bs.length := by
  unfold hdec at h
  split at h
  · simp at h
  split at h
  · split at h
    · simp at h
    · obtain ⟨rfl, rfl, h7, h8⟩ := htail_ok h
      refine ⟨⟨by simp, by simp, by have := (bs.getD 1 0).toNat_lt; simp only; omega, by simp, by simp, fun _ => ⟨by simp, by simp only; omega⟩, h8, fun _ => ⟨rfl, rfl⟩⟩, ?_, h7⟩
      simp [henc, hfront, beB_length]; omega
  split at h
  · obtain ⟨h1, h2, h3, h4, h5, h6, h7, h8⟩ := hlong_ok h
    refine ⟨⟨by omega, h5, h3, h4, fun h => by omega, fun _ => by omega, by rw [h2]; exact h6, fun h => by omega⟩, ?_, h7⟩
    simp only [henc, hfront, h1, h2, if_neg (show ¬ (0 : Nat) = 2 by decide), List.length_append, beB_length, List.length_cons, List.length_nil]
    omega
  split at h
  · obtain ⟨h1, h2, h3, h4, h5, h6, h7, h8⟩ := hlong_ok h
    refine ⟨⟨by omega, h5, h3, h4, fun _ => ⟨h2, by simpa [h2] using h6⟩, fun h => by omega, by rw [h2]; exact h6, fun h => by omega⟩, ?_, h7⟩
    simp only [henc, hfront, h1, h2, if_neg (show ¬ (1 : Nat) = 2 by decide), List.length_append, beB_length]
    simp; omega
  · simp at h

theorem drop_app {α : Type} (a b : List α) (k : Nat) (h : a.length = k) : (a ++ b).drop k = b := by subst h; simp
theorem take_app {α : Type} (a b : List α) (k : Nat) (h : a.length = k) : (a ++ b).take k = a := by subst h; simp
theorem htail_back (a b : List UInt8) (k to f : Nat) (t : List UInt8) (u s n : Nat) (ha : a.length = u) (hn : n < 256 ^ s) : htail (a ++ beB s n ++ b) k to f t u s = (⟨k, to, f, t, n, s⟩, u + s, 0) := by
  unfold htail
  rw [if_neg (by simp [beB_length]; omega), List.append_assoc, drop_app _ _ _ ha, take_app _ _ _ (beB_length s n), valB_beB _ _ _ hn]
  simp
theorem henc_length (h : HeadD) : (henc h).length = (hfront h).length + h.size := by simp [henc, beB_length]

/-- A head is read as_v it was written, whatever stands behind it. -/
theorem hdec_back (h : HeadD) (ok : HeadOk h) (more : List UInt8) : hdec (henc h ++ more) = (h, (henc h).length, 0) := by
  obtain ⟨h1, h2, h3, h4, h5, h6, h7, h8⟩ := ok
  obtain ⟨k, to, f, t, n, s⟩ := h
  simp only at *
  by_cases hk : k = 2
  · subst hk
    obtain ⟨rfl, rfl⟩ := h8 rfl
    obtain ⟨h9, h10⟩ := h6 (by decide)
    rw [henc_length]
    simp only [henc, hfront, if_pos]
    unfold hdec
    have e0 : (UInt8.ofNat (64 + (s - 1))).toNat = 64 + (s - 1) := by simp; omega
    have e1 : (UInt8.ofNat to).toNat = to := by simp; omega
    have hb := htail_back [UInt8.ofNat (64 + (s - 1)), UInt8.ofNat to] more 2 to 0 [] 2 s n rfl h7
    simp only [List.cons_append, List.nil_append, List.getD, List.getElem?_cons_zero, List.getElem?_cons_succ, Option.getD_some, List.length_cons, List.length_append, e0, e1] at hb ⊢
    rw [if_neg (by omega), if_pos (by omega), if_neg (by omega), show (64 + (s - 1)) % 4 + 1 = s from by omega, hb]
    simp
  · have hdl : (t.length : Int) ≤ 4611686018427387903 := by omega
    have key : ∀ (c : UInt8), hlong ([c, UInt8.ofNat to, UInt8.ofNat f] ++ encB t.length ++ t ++ beB s n ++ more) k s = (⟨k, to, f, t, n, s⟩, 3 + (encB t.length).length + t.length + s, 0) := by
      intro c
      unfold hlong
      have hdr : decR (([c, UInt8.ofNat to, UInt8.ofNat f] ++ encB t.length ++ t ++ beB s n ++ more).drop 3) = ((t.length : Int), ((encB t.length).length : Int), 0) := by
        have := dec_back t.length hdl (t ++ beB s n ++ more)
        simpa using this
      rw [hdr]
      have hl : ([c, UInt8.ofNat to, UInt8.ofNat f] ++ encB t.length ++ t).length = 3 + (encB t.length).length + t.length := by simp; omega
      have htk : (([c, UInt8.ofNat to, UInt8.ofNat f] ++ encB t.length ++ t ++ beB s n ++ more).drop (3 + (encB t.length).length)).take t.length = t := by
        rw [List.append_assoc, List.append_assoc, drop_app _ _ _ (by simp; omega), take_app _ _ _ rfl]
      simp only [Int.toNat_natCast]
      rw [if_neg (by simp), if_neg (by simp), if_neg (by omega), if_neg (by simp; omega), htk, htail_back _ _ _ _ _ _ _ _ _ hl h7]
      have e1 : (UInt8.ofNat to).toNat = to := by simp; omega
      have e2 : (UInt8.ofNat f).toNat = f := by simp; omega
      simp [e1, e2]
    have hlen : (henc ⟨k, to, f, t, n, s⟩).length = 3 + (encB t.length).length + t.length + s := by
      rw [henc_length]; simp only [hfront, if_neg hk]; simp; omega
    rw [hlen]
    simp only [henc, hfront, if_neg hk]
    rcases (show k = 0 ∨ k = 1 by omega) with rfl | rfl
    · obtain ⟨h9, h10⟩ := h6 (by decide)
      have e0 : (UInt8.ofNat (192 + (s - 1))).toNat = 192 + (s - 1) := by simp; omega
      simp only [if_pos]
      unfold hdec
      simp only [List.cons_append, List.nil_append, List.getD, List.getElem?_cons_zero, Option.getD_some, List.length_cons, e0]
      rw [if_neg (by omega), if_neg (by omega), if_pos (by omega)]
      have := key (UInt8.ofNat (192 + (s - 1)))
      simp only [List.cons_append, List.nil_append] at this
      rw [show (192 + (s - 1)) % 4 + 1 = s from by omega, this]
    · obtain ⟨rfl, rfl⟩ := h5 rfl
      simp only [if_neg (show ¬ (1 : Nat) = 0 by decide)]
      unfold hdec
      have := key (UInt8.ofNat 240)
      simp only [List.cons_append, List.nil_append] at this
      have e0 : (UInt8.ofNat 240).toNat = 240 := by simp
      simp only [List.cons_append, List.nil_append, List.getD, List.getElem?_cons_zero, Option.getD_some, List.length_cons, e0]
      rw [if_neg (by omega), if_neg (by omega), if_neg (by omega), if_pos trivial, this]

theorem mid_app {α : Type} (p q : List α) (u n : Nat) (h : u + n ≤ p.length) : ((p ++ q).drop u).take n = (p.drop u).take n := by
  rw [List.drop_append_of_le_length (by omega), List.take_append_of_le_length (by simp; omega)]
theorem getD_app {α : Type} (p q : List α) (i : Nat) (d : α) (h : i < p.length) : (p ++ q).getD i d = p.getD i d := by
  simp [List.getD, List.getElem?_append_left h]
theorem decLen_app (p q : List UInt8) (h : p.length ≠ 0) : decLen (p ++ q) = decLen p := by
  unfold decLen; rw [getD_app _ _ _ _ (by omega)]
theorem decR_app (p q : List UInt8) (h : (decR p).2.2 = 0) : decR (p ++ q) = decR p := by
  rcases decR_cases p with ⟨e, _⟩ | ⟨n, K, e, e1, e2, e3, e4, e5⟩
  · rw [e] at h; simp at h
  · have hl := decLen_app p q (by omega)
    rw [e]
    unfold decR
    rw [hl, ← e1, if_neg (by simp; omega), e2]
    have : decN (p ++ q) (K - 1) = decN p (K - 1) := by
      unfold decN; rw [getD_app _ _ _ _ (by omega), mid_app _ _ _ _ (by omega)]
    rw [this]
theorem htail_app (p q : List UInt8) (k to f : Nat) (t : List UInt8) (u s : Nat) (h : (htail p k to f t u s).2.2 ≠ 4) : htail (p ++ q) k to f t u s = htail p k to f t u s := by
  unfold htail at *
  split at h
  · simp at h
  · rw [if_neg (by simp; omega), mid_app _ _ _ _ (by omega), if_neg (by omega)]
theorem hlong_app (p q : List UInt8) (k s : Nat) (h : (hlong p k s).2.2 ≠ 4) : hlong (p ++ q) k s = hlong p k s := by
  unfold hlong at *
  split at h
  · simp at h
  split at h
  · simp at h
  rename_i h1 h2
  have hd : decR ((p ++ q).drop 3) = decR (p.drop 3) := by
    rw [List.drop_append_of_le_length (by omega)]; exact decR_app _ _ (Classical.not_not.1 h2)
  rw [hd, if_neg (by simp; omega), if_neg h1, if_neg h2, if_neg h2]
  split at h
  · rename_i h3; rw [if_pos h3, if_pos h3]
  split at h
  · simp at h
  rename_i h3 h4
  rw [if_neg h3, if_neg h3, if_neg (by simp; omega), if_neg h4, getD_app _ _ _ _ (by omega), getD_app _ _ _ _ (by omega), mid_app _ _ _ _ (by omega), htail_app _ _ _ _ _ _ _ _ h]
/-- What is read does not depend on what stands behind it. -/
theorem hdec_app (p q : List UInt8) (h : (hdec p).2.2 ≠ 4) : hdec (p ++ q) = hdec p := by
  unfold hdec at *
  split at h
  · simp at h
  rename_i h0
  have h00 : ¬ (p ++ q).length = 0 := by rw [List.length_append]; omega
  rw [getD_app p q 0 0 (by omega), if_neg h00, if_neg h0]
  split at h
  · rename_i h1
    rw [if_pos h1, if_pos h1]
    split at h
    · simp at h
    · rename_i h2
      rw [if_neg (by simp; omega), if_neg h2, getD_app _ _ _ _ (by omega), htail_app _ _ _ _ _ _ _ _ h]
  rename_i h1
  rw [if_neg h1, if_neg h1]
  split at h
  · rename_i h2; rw [if_pos h2, if_pos h2, hlong_app _ _ _ _ h]
  rename_i h2
  rw [if_neg h2, if_neg h2]
  split at h
  · rename_i h3; rw [if_pos h3, if_pos h3, hlong_app _ _ _ _ h]
  · rename_i h3; rw [if_neg h3, if_neg h3]
/-- Cut short it is none. -/
theorem hdec_cut (h : HeadD) (ok : HeadOk h) (j : Nat) (hj : j < (henc h).length) : hdec ((henc h).take j) = (hnil, 0, 4) := by
  have hb := hdec_back h ok []
  rw [List.append_nil, ← List.take_append_drop j (henc h)] at hb
  by_cases he : (hdec ((henc h).take j)).2.2 = 4
  · obtain ⟨h1, h2⟩ := hdec_bad (bs := (henc h).take j) (by omega)
    rw [← h1, ← h2, ← he]
  · exfalso
    rw [hdec_app _ _ he] at hb
    have h3 := (hdec_ok hb).2.2
    rw [List.take_append_drop] at h3
    simp at h3; omega
end Go.Proofs.YtbcagdjfegobnaaGreat
