/- Plain: fields, the room that they take, and which of them stay. -/
import Derived.Test.YtihngonemdaihaaOwn
namespace Go.Proofs.Ytihngonemdaihaa
open Go.RowKit
set_option linter.unusedVariables false

abbrev Fld := ByteArray × ByteArray
def fcells (f : Fld) : List Value := [.string f.1, .string f.2]
theorem fcells_len (f : Fld) : (fcells f).length = 2 := rfl
theorem fcells_one (xs : List Fld) : ∀ u ∈ xs.flatMap fcells, u.oneCell' = true := by
  intro u hu
  obtain ⟨x, _, hx⟩ := List.mem_flatMap.1 hu
  simp [fcells] at hx
  rcases hx with rfl | rfl <;> rfl
def fnil : Fld := (ByteArray.empty, ByteArray.empty)
def fsz (f : Fld) : Nat := f.1.size + f.2.size + 32
def tsz : List Fld → Nat
  | [] => 0
  | f :: l => fsz f + tsz l
theorem tsz_append (l m : List Fld) : tsz (l ++ m) = tsz l + tsz m := by
  induction l with
  | nil => simp [tsz]
  | cons f l ih => simp only [List.cons_append, tsz, ih]; omega
theorem tsz_take (l : List Fld) (k : Nat) (hk : k < l.length) : tsz (l.take (k + 1)) = tsz (l.take k) + fsz (l.getD k fnil) := by
  rw [List.take_succ_eq_append_getElem hk, tsz_append]; simp [tsz, List.getD, hk]
theorem tsz_take_le (l : List Fld) (k : Nat) : tsz (l.take k) ≤ tsz l := by
  have := tsz_append (l.take k) (l.drop k)
  rw [List.take_append_drop] at this; omega
theorem tsz_drop_le (l : List Fld) (k : Nat) : tsz (l.drop k) ≤ tsz l := by
  have := tsz_append (l.take k) (l.drop k)
  rw [List.take_append_drop] at this; omega
theorem tsz_len (l : List Fld) : 32 * l.length ≤ tsz l := by
  induction l with
  | nil => simp [tsz]
  | cons f l ih => simp only [tsz, fsz, List.length_cons]; omega
theorem fsz_le (l : List Fld) (k : Nat) (hk : k < l.length) : fsz (l.getD k fnil) ≤ tsz l := by
  have := tsz_take l k hk; have := tsz_take_le l (k + 1); omega
def FOk (f : Fld) : Prop := 1 ≤ f.1.size ∧ f.1.size ≤ 20 ∧ f.2.size ≤ 40
/-- Those that stay: the eldest ones go, till the others have so much room. -/
def fitR : List Fld → Nat → List Fld
  | [], _ => []
  | f :: l, room => if room < tsz (f :: l) then fitR l room else f :: l
theorem fitR_fits (l : List Fld) (room : Nat) : tsz (fitR l room) ≤ room := by
  induction l with
  | nil => simp [fitR, tsz]
  | cons f l ih => rw [fitR]; split <;> omega
theorem fitR_same (l : List Fld) (room : Nat) (h : tsz l ≤ room) : fitR l room = l := by
  cases l with
  | nil => rfl
  | cons f l => rw [fitR, if_neg (by omega)]
/-- What stays is the end of what there was; what went just ahead of it did not fit. -/
theorem fitR_end (l : List Fld) (room : Nat) : ∃ k, k ≤ l.length ∧ fitR l room = l.drop k ∧ (0 < k → room < tsz (l.drop (k - 1))) := by
  induction l with
  | nil => exact ⟨0, by simp, rfl, fun h => absurd h (by omega)⟩
  | cons f l ih =>
    rw [fitR]
    by_cases h : room < tsz (f :: l)
    · rw [if_pos h]
      obtain ⟨k, hk, he, hm⟩ := ih
      refine ⟨k + 1, by simp; omega, by simpa using he, fun _ => ?_⟩
      rw [Nat.add_sub_cancel]
      cases k with
      | zero => exact h
      | succ k => simpa using hm (by omega)
    · rw [if_neg h]; exact ⟨0, by simp, rfl, fun h => absurd h (by omega)⟩
theorem fitR_drop (l : List Fld) (room k : Nat) (hk : k < l.length) (h : room < tsz (l.drop k)) : fitR (l.drop k) room = fitR (l.drop (k + 1)) room := by
  rw [List.drop_eq_getElem_cons hk] at h ⊢
  rw [fitR, if_pos h]
theorem fitR_mem {l : List Fld} {room : Nat} {f : Fld} (h : f ∈ fitR l room) : f ∈ l := by
  obtain ⟨k, _, he, _⟩ := fitR_end l room
  rw [he] at h; exact List.mem_of_mem_drop h
theorem RdX.fcell {w : World} {A : Option Addr} {xs : List Fld} (h : RdX fcells 2 w A xs) (hn : 0 < xs.length) : ∃ b off, A = some ⟨b, off, none⟩ ∧ ∀ k, k < xs.length → w.cell? ⟨b, off + k * 2, none⟩ = some (.string (xs.getD k fnil).1) ∧ w.cell? ⟨b, off + k * 2 + 1, none⟩ = some (.string (xs.getD k fnil).2) := by
  obtain ⟨b, off, e, hc⟩ := RdX.at_ fcells_len h fnil hn
  exact ⟨b, off, e, fun k hk => ⟨hc k hk 0 _ (by decide) rfl, hc k hk 1 _ (by decide) rfl⟩⟩
/-- A block of three cells. -/
theorem Blk.facts3 {w : World} {g : Nat} {t : TypeId} {x y z : Value} (h : Blk w g t #[x, y, z]) : g < w.heap.size ∧ w.cell? ⟨g, 0, none⟩ = some x ∧ w.cell? ⟨g, 1, none⟩ = some y ∧ w.cell? ⟨g, 2, none⟩ = some z ∧ w.frozen? ⟨g, 0, none⟩ = false ∧ w.frozen? ⟨g, 1, none⟩ = false ∧ w.frozen? ⟨g, 2, none⟩ = false :=
  ⟨h.lt, by rw [h.cell]; rfl, by rw [h.cell]; rfl, by rw [h.cell]; rfl, h.frozen 0, h.frozen 1, h.frozen 2⟩
end Go.Proofs.Ytihngonemdaihaa
