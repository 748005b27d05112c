/- The contract of table.Find. -/
import Derived.Test.YtihngonemdaihaaTableWalk
import Derived.Test.YtihngonemdaihaaGetWalk
namespace Go.Proofs.Ytihngonemdaihaa
open Go.ChangeShapes Go.WideShapes Go.ChangeAt Go.RowKit
set_option linter.unusedVariables false

theorem str_ne {a b : ByteArray} (h : a ≠ b) : (a.toList == b.toList) = false := by
  rw [beq_eq_false_iff_ne]
  intro e
  rw [ByteArray.toList_eq, ByteArray.toList_eq] at e
  exact h (ByteArray.ext (Array.ext' e))
theorem str_eq (a : ByteArray) : (a.toList == a.toList) = true := by simp

/-- None from number m on is the same. -/
def noSame (l : List Fld) (x y : ByteArray) (m : Nat) : Prop := ∀ j, m ≤ j → j < l.length → l.getD j fnil ≠ (x, y)
/-- None from number m on has the name. -/
def noName (l : List Fld) (x : ByteArray) (m : Nat) : Prop := ∀ j, m ≤ j → j < l.length → (l.getD j fnil).1 ≠ x
theorem noSame_mem {l : List Fld} {x y : ByteArray} (h : noSame l x y 0) : ∀ f ∈ l, f ≠ (x, y) := fun f hf => by
  obtain ⟨j, hj, rfl⟩ := List.getElem_of_mem hf
  have := h j (Nat.zero_le _) hj
  simpa [List.getD, hj] using this
theorem noName_mem {l : List Fld} {x : ByteArray} (h : noName l x 0) : ∀ f ∈ l, f.1 ≠ x := fun f hf => by
  obtain ⟨j, hj, rfl⟩ := List.getElem_of_mem hf
  have := h j (Nat.zero_le _) hj
  simpa [List.getD, hj] using this
/-- What Find answers. -/
def FindOut (l : List Fld) (n : Nat) (put : Int) (x y : ByteArray) (w : World) (e : Ending) (w' : World) : Prop :=
  ((∃ (j : Nat) (v : ByteArray), j < n ∧ e = .returned (.tuple #[.int .i64 (put - n + j), .bool true, .int .i64 0]) ∧ l.getD j fnil = (x, y)) ∨
   (∃ (j : Nat) (v : ByteArray), j < n ∧ e = .returned (.tuple #[.int .i64 (put - n + j), .bool false, .int .i64 0]) ∧ l.getD j fnil = (x, v) ∧ ∀ f ∈ l, f ≠ (x, y)) ∨
   (e = .returned (.tuple #[.int .i64 0, .bool false, .int .i64 5]) ∧ ∀ f ∈ l, f.1 ≠ x)) ∧ Below w.heap.size w w'

set_option maxRecDepth 100000 in
set_option maxHeartbeats 1000000 in
theorem tFind_any (r : Nat) (put : Int) (A : Option Addr) (n c : Nat) (l : List Fld) (hn : l.length = n) (hnc : n ≤ c) (hcm : c ≤ 9223372036854775807) (h1 : r ≤ 160) (h2 : (n : Int) ≤ put) (h3 : put ≤ 4611686018427387903) (hf : ∀ f ∈ l, FOk f) (hs : tsz l ≤ r)
    (x y : ByteArray) (w : World) (hr : RdX fcells 2 w A l) :
    Calls Try.prog 26 #[.agg #[.int .i64 (r : Int), .int .i64 put, .slice A n c], .agg #[.string x, .string y]] w (FindOut l n put x y w) := by
  have HN := Lib.hid hn
  have HR := Lib.hid hr
  have HF := Lib.hid hf
  have HS := Lib.hid hs
  clear hn hr hf hs
  go_enter Try.func26, Try.ntmps26
  go_wp2_with fail
  refine (tCheck_ok r put A n c l HN.out hnc hcm (by omega) (by omega) h2 (by omega) HF.out (by have := HS.out; omega) _ ((HR.out.alloc _).alloc _)).mono ?_
  rintro e w1 ⟨rfl, hb1⟩
  have hB : Blk w1 w.heap.size 29 #[.int .i64 (r : Int), .int .i64 put, .slice A n c] := ((Blk.new _ _ _).alloc _).carry hb1
  have hX : Blk w1 (w.heap.size + 1) 47 #[.string x, .string y] := (Blk.new1 _ _ _ _).carry hb1
  have hbz : Below w.heap.size w w1 := (((Below.refl _ _).alloc (Nat.le_refl _) _).alloc (by simp) _).trans (hb1.mono (by simp; omega))
  have HR1 := Lib.hid (RdX.below ((HR.out.alloc _).alloc _) hb1)
  clear hb1 HR
  have FB := hB.facts3
  go_wp2_with fail
  have HB := Lib.hid hB
  have HX := Lib.hid hX
  have HBZ := Lib.hid hbz
  clear hB hX hbz FB
  have hi0 : ∀ w, (Instr.index 88 (.agg #[.bool true, .bool false]) (.int .i64 0)).run Try.prog w = .ok (.bool true) w := fun _ => by kernel_rfl
  have hi1 : ∀ w, (Instr.index 88 (.agg #[.bool true, .bool false]) (.int .i64 1)).run Try.prog w = .ok (.bool false) w := fun _ => by kernel_rfl
  go_loopw [25] (fun ki wr => ∃ k : Int, 0 ≤ k ∧ k ≤ 2 ∧ ki = .int .i64 k ∧ (1 ≤ k → noSame l x y 0) ∧ (2 ≤ k → noName l x 0) ∧ Below w1.heap.size w1 wr) (fun ki _ => (2 - intOf ki).toNat)
  case atStart => exact ⟨0, by omega, by omega, rfl, fun h => absurd h (by omega), fun h => absurd h (by omega), Below.refl _ _⟩
  case round =>
    obtain ⟨k, hk0, hk, rfl, hq1, hq2, hb⟩ := hrel
    have hB := HB.out.carry hb
    have FB := hB.facts3
    have HQ1 := Lib.hid hq1
    have HQ2 := Lib.hid hq2
    clear hq1 hq2 hB
    obtain rfl | rfl | rfl : k = 0 ∨ k = 1 ∨ k = 2 := by omega
    · go_wp2_with fail
      go_loopw [11] (fun i wx => ∃ m : Nat, m ≤ n ∧ i = .int .i64 ((m : Int) - 1) ∧ noSame l x y m ∧ Below w1.heap.size w1 wx) (fun i _ => (intOf i + 1).toNat)
      case atStart => exact ⟨n, Nat.le_refl _, rfl, fun j h1 h2 => by have := HN.out; omega, hb⟩
      case round =>
        obtain ⟨m, hm, rfl, hno, hbx⟩ := hrel
        have HNO := Lib.hid hno
        have hB := HB.out.carry hbx
        have FB := hB.facts3
        clear hno hB
        rcases Nat.eq_zero_or_pos m with rfl | hpos
        · go_wp2_with fail
          go_roundw
          case rel => exact ⟨1, by omega, by omega, rfl, fun _ => HNO.out, fun h => absurd h (by omega), hbx⟩
          case measure => simp [intOf]
        · obtain ⟨i, rfl⟩ : ∃ i, m = i + 1 := ⟨m - 1, by omega⟩
          have hX := HX.out.carry hbx
          have FX := hX.two
          have hlx := hX.lt
          obtain ⟨b, off, hA, hcell⟩ := (RdX.below HR1.out hbx).fcell (by have := HN.out; omega)
          subst hA
          obtain ⟨c0, c1⟩ := hcell i (by have := HN.out; omega)
          obtain ⟨⟨p, q⟩, hpq⟩ : ∃ f, l.getD i fnil = f := ⟨_, rfl⟩
          rw [hpq] at c0 c1
          have HPQ := Lib.hid hpq
          have hi0 : (0 : Int) ≤ (i : Int) := by omega
          have hi1 : (i : Int) < (n : Int) := by omega
          have hii : ((i + 1 : Nat) : Int) - 1 = (i : Int) := by omega
          rw [hii]
          clear hcell hpq hX
          by_cases hp : p = x
          · subst hp
            by_cases hqy : q = y
            · subst hqy
              go_wp2_with fail
              go_ret3
              refine ⟨.inl ⟨i, q, by omega, ?_, HPQ.out⟩, HBZ.out.trans ((hbx.trans ((Below.refl _ _).alloc (Nat.le_refl _) _ |>.mono hbx.size)).mono HBZ.out.size)⟩
              first | rfl | simp
            · have hne := str_ne hqy
              have hno2 : noSame l p y i := fun j h1 h2 => by
                rcases Nat.eq_or_lt_of_le h1 with h | h
                · subst h; rw [HPQ.out]; intro e; injection e with _ e; exact hqy e
                · exact HNO.out j h h2
              have HNO2 := Lib.hid hno2
              clear hno2
              go_wp2_with fail
              go_roundw
              case rel => exact ⟨i, by omega, by go_num, HNO2.out, hbx.trans ((Below.refl _ _).alloc (Nat.le_refl _) _ |>.mono hbx.size)⟩
              case measure => simp [intOf]
          · have hne := str_ne hp
            have hno2 : noSame l x y i := fun j h1 h2 => by
              rcases Nat.eq_or_lt_of_le h1 with h | h
              · subst h; rw [HPQ.out]; intro e; injection e with e _; exact hp e
              · exact HNO.out j h h2
            have HNO2 := Lib.hid hno2
            clear hno2
            go_wp2_with fail
            go_roundw
            case rel => exact ⟨i, by omega, by go_num, HNO2.out, hbx.trans ((Below.refl _ _).alloc (Nat.le_refl _) _ |>.mono hbx.size)⟩
            case measure => simp [intOf]
    · have HQ3 := Lib.hid (HQ1.out (by omega))
      clear HQ2
      go_wp2_with fail
      go_loopw [11] (fun i wx => ∃ m : Nat, m ≤ n ∧ i = .int .i64 ((m : Int) - 1) ∧ noName l x m ∧ Below w1.heap.size w1 wx) (fun i _ => (intOf i + 1).toNat)
      case atStart => exact ⟨n, Nat.le_refl _, rfl, fun j h1 h2 => by have := HN.out; omega, hb⟩
      case round =>
        obtain ⟨m, hm, rfl, hno, hbx⟩ := hrel
        have HNO := Lib.hid hno
        have hB := HB.out.carry hbx
        have FB := hB.facts3
        clear hno hB
        rcases Nat.eq_zero_or_pos m with rfl | hpos
        · go_wp2_with fail
          go_roundw
          case rel => exact ⟨2, by omega, by omega, rfl, fun _ => HQ3.out, fun _ => HNO.out, hbx⟩
          case measure => simp [intOf]
        · obtain ⟨i, rfl⟩ : ∃ i, m = i + 1 := ⟨m - 1, by omega⟩
          have hX := HX.out.carry hbx
          have FX := hX.two
          have hlx := hX.lt
          obtain ⟨b, off, hA, hcell⟩ := (RdX.below HR1.out hbx).fcell (by have := HN.out; omega)
          subst hA
          obtain ⟨c0, c1⟩ := hcell i (by have := HN.out; omega)
          obtain ⟨⟨p, q⟩, hpq⟩ : ∃ f, l.getD i fnil = f := ⟨_, rfl⟩
          rw [hpq] at c0 c1
          have HPQ := Lib.hid hpq
          have hi0 : (0 : Int) ≤ (i : Int) := by omega
          have hi1 : (i : Int) < (n : Int) := by omega
          have hii : ((i + 1 : Nat) : Int) - 1 = (i : Int) := by omega
          rw [hii]
          clear hcell hpq hX
          by_cases hp : p = x
          · subst hp
            have hqc : (q.toList == y.toList) = true ∨ (q.toList == y.toList) = false := by cases q.toList == y.toList <;> simp
            rcases hqc with hqc | hqc
            all_goals
              go_wp2_with fail
              go_ret3
              refine ⟨.inr (.inl ⟨i, q, by omega, ?_, HPQ.out, noSame_mem HQ3.out⟩), HBZ.out.trans ((hbx.trans ((Below.refl _ _).alloc (Nat.le_refl _) _ |>.mono hbx.size)).mono HBZ.out.size)⟩
              first | rfl | simp
          · have hne := str_ne hp
            have hno2 : noName l x i := fun j h1 h2 => by
              rcases Nat.eq_or_lt_of_le h1 with h | h
              · subst h; rw [HPQ.out]; exact hp
              · exact HNO.out j h h2
            have HNO2 := Lib.hid hno2
            clear hno2
            go_wp2_with fail
            go_roundw
            case rel => exact ⟨i, by omega, by go_num, HNO2.out, hbx.trans ((Below.refl _ _).alloc (Nat.le_refl _) _ |>.mono hbx.size)⟩
            case measure => simp [intOf]
    · have HQ3 := Lib.hid (HQ2.out (by omega))
      clear HQ1
      go_wp2_with fail
      go_ret3
      exact ⟨.inr (.inr ⟨rfl, noName_mem HQ3.out⟩), HBZ.out.trans (hb.mono HBZ.out.size)⟩
end Go.Proofs.Ytihngonemdaihaa
