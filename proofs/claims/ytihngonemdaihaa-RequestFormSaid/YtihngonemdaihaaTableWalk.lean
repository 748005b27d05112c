/- The contracts of table.Size, size, field, Check. -/
import Derived.Test.YtihngonemdaihaaPickWalk
import Derived.Test.YtihngonemdaihaaTable
import Derived.BigQuiet
namespace Go.Proofs.Ytihngonemdaihaa
open Go.ChangeShapes Go.WideShapes Go.ChangeAt Go.RowKit
set_option linter.unusedVariables false

theorem tSize_any (n v : ByteArray) (s : Nat) (hs : n.size + v.size + 32 = s) (hn : s ≤ 1000000) (w : World) :
    Calls Try.prog 28 #[.agg #[.string n, .string v]] w fun e w' => e = .returned (.int .i64 (s : Int)) ∧ Below w.heap.size w w' := by
  have h1 : n.size ≤ 1000000 := by omega
  have h2 : v.size ≤ 1000000 := by omega
  have HS := Lib.hid hs
  clear hs
  go_enter Try.func28, Try.ntmps28
  go_wp2
  go_ret
  exact ⟨by rw [← HS.out]; simp, (Below.refl _ _).alloc (Nat.le_refl _) _⟩

theorem tfield_ok (n v : ByteArray) (h1 : 1 ≤ n.size) (h2 : n.size ≤ 20) (h3 : v.size ≤ 40) (w : World) :
    Calls Try.prog 35 #[.agg #[.string n, .string v]] w fun e w' => e = .returned (.bool true) ∧ Below w.heap.size w w' := by
  go_enter Try.func35, Try.ntmps35
  go_wp2
  go_ret
  exact ⟨by simp; try omega, (Below.refl _ _).alloc (Nat.le_refl _) _⟩

set_option maxHeartbeats 1000000 in
theorem tsize_any (A : Option Addr) (n c : Nat) (l : List Fld) (hn : l.length = n) (hnc : n ≤ c) (hcm : c ≤ 9223372036854775807) (s : Nat) (hs : tsz l = s) (hs1 : s ≤ 1000000) (w : World) (hr : RdX fcells 2 w A l) :
    Calls Try.prog 36 #[.slice A n c] w fun e w' => e = .returned (.int .i64 (s : Int)) ∧ Below w.heap.size w w' := by
  have HN := Lib.hid hn
  have HR := Lib.hid hr
  have HS := Lib.hid hs
  clear hn hr hs
  go_enter Try.func36, Try.ntmps36
  go_wp2_with fail
  go_loopw [3, 8] (fun t i wr => ∃ (k q : Nat), k ≤ n ∧ i = .int .i64 k ∧ t = .int .i64 (q : Int) ∧ Hid (tsz (l.take k) = q) ∧ q ≤ 1000000 ∧ Below w.heap.size w wr) (fun _ i _ => n - (intOf i).toNat)
  case atStart => exact ⟨0, 0, Nat.zero_le _, rfl, rfl, rfl, by decide, Below.refl _ _⟩
  case round =>
    obtain ⟨k, q, hk, rfl, rfl, HQ, hq1, hb⟩ := hrel
    by_cases hlt : k < n
    · have hlen := HN.out
      obtain ⟨b, off, rfl, hcell⟩ := (RdX.below HR.out hb).fcell (by omega)
      obtain ⟨c0, c1⟩ := hcell k (by omega)
      have ht := tsz_take l k (by omega)
      have hle := tsz_take_le l (k + 1)
      rw [HS.out] at hle
      rw [HQ.out] at ht
      obtain ⟨x, y, hx⟩ : ∃ x y, l.getD k fnil = (x, y) := ⟨_, _, rfl⟩
      rw [hx] at c0 c1 ht
      obtain ⟨p, hp⟩ : ∃ p, x.size + y.size + 32 = p := ⟨_, rfl⟩
      have hf : fsz (x, y) = p := hp
      rw [hf] at ht
      have hp1 : p ≤ 1000000 := by omega
      have hqp : q + p ≤ 1000000 := by omega
      have HP := Lib.hid hp
      have HT := Lib.hid ht
      clear hx hlen hcell hp hf ht hle
      go_wp2_with fail
      refine (tSize_any x y p HP.out hp1 _).mono ?_
      rintro e w2 ⟨rfl, hb2⟩
      have hbz := (hb.alloc hb.size (.cells #[.string x, .string y] 47)).trans (hb2.mono (by have := hb.size; simp; omega))
      clear hb hb2 c0 c1
      go_wp2_with fail
      go_roundw
      case rel => exact ⟨k + 1, q + p, by omega, by go_num, by go_num, HT.out, hqp, hbz⟩
      case measure => simp [intOf]; omega
    · obtain rfl : k = n := by omega
      have : q = s := by rw [← HQ.out, ← HS.out, List.take_of_length_le (by have := HN.out; omega)]
      subst this
      go_wp2_with fail
      go_ret
      exact ⟨rfl, hb⟩

set_option maxRecDepth 100000 in
set_option maxHeartbeats 1000000 in
theorem tCheck_ok (room put : Int) (A : Option Addr) (n c : Nat) (l : List Fld) (hn : l.length = n) (hnc : n ≤ c) (hcm : c ≤ 9223372036854775807) (h0 : 0 ≤ room) (h1 : room ≤ 160) (h2 : (n : Int) ≤ put) (h3 : put ≤ 4611686018427387903) (hf : ∀ f ∈ l, FOk f) (hs : (tsz l : Int) ≤ room) (w : World) (hr : RdX fcells 2 w A l) :
    Calls Try.prog 23 #[.agg #[.int .i64 room, .int .i64 put, .slice A n c]] w fun e w' => e = .returned (.int .i64 0) ∧ Below w.heap.size w w' := by
  have HN := Lib.hid hn
  have HR := Lib.hid hr
  have HF := Lib.hid hf
  obtain ⟨s, hs2⟩ : ∃ s, tsz l = s := ⟨_, rfl⟩
  rw [hs2] at hs
  have HS := Lib.hid hs2
  clear hn hr hf hs2
  go_enter Try.func23, Try.ntmps23
  go_wp2_with fail
  have hB0 := Blk.new w 29 #[.int .i64 room, .int .i64 put, .slice A n c]
  go_loopw [3, 30] (fun ok i wr => ∃ k : Nat, k ≤ n ∧ i = .int .i64 k ∧ ok = .bool true ∧ Blk wr w.heap.size 29 #[.int .i64 room, .int .i64 put, .slice A n c] ∧ Below w.heap.size w wr) (fun _ i _ => n - (intOf i).toNat)
  case atStart => exact ⟨0, Nat.zero_le _, rfl, by simp; try omega, hB0, (Below.refl _ _).alloc (Nat.le_refl _) _⟩
  case round =>
    obtain ⟨k, hk, rfl, rfl, hB, hb⟩ := hrel
    clear hB0
    by_cases hlt : k < n
    · have hlen := HN.out
      obtain ⟨b, off, rfl, hcell⟩ := (RdX.below HR.out hb).fcell (by omega)
      obtain ⟨c0, c1⟩ := hcell k (by omega)
      obtain ⟨g0, g1, g2⟩ := HF.out (l.getD k fnil) (by simp [List.getD, show k < l.length by omega])
      obtain ⟨x, y, hx⟩ : ∃ x y, l.getD k fnil = (x, y) := ⟨_, _, rfl⟩
      rw [hx] at c0 c1 g0 g1 g2
      clear hx hlen hcell
      go_wp2_with fail
      refine (tfield_ok x y g0 g1 g2 _).mono ?_
      rintro e w2 ⟨rfl, hb2⟩
      have hB2 := (hB.alloc (.cells #[.string x, .string y] 47)).carry hb2
      have hbz := (hb.alloc hb.size (.cells #[.string x, .string y] 47)).trans (hb2.mono (by have := hb.size; simp; omega))
      clear hB hb hb2 c0 c1
      go_wp2_with fail
      go_roundw
      case rel => exact ⟨k + 1, by omega, by go_num, rfl, hB2, hbz⟩
      case measure => simp [intOf]; omega
    · obtain rfl : k = n := by omega
      have hfacts : ∀ w', Below wr.heap.size wr w' → w'.cell? ⟨w.heap.size, 0, none⟩ = some (.int .i64 room) ∧ w'.cell? ⟨w.heap.size, 2, none⟩ = some (.slice A k c) := fun w' hw' => ⟨(hB.carry hw').facts3.2.1, (hB.carry hw').facts3.2.2.2.1⟩
      have HFA := Lib.hid hfacts
      have HR2 := Lib.hid (RdX.below HR.out hb)
      have hd : decide (room < (s : Int)) = false := decide_eq_false (by omega)
      clear hfacts
      go_upto_region 7 with (fail)
      refine wp_region_quiet (C := fun w' => Below (wr).heap.size (wr) w') (by kernel_rfl) (by kernel_rfl) (Below.refl _ _).drew ?_
      repeat (
        with_reducible refine wpQuiet_step ?_
        intro K hK
        go_simp
        first
          | (refine hK _ ?_; clear hK K)
          | (apply Exists.intro
             refine ⟨fun w' hw' => ?_, hK _ ?_⟩
             first
               | (go_at_call 36; exact (tsize_any A k c l HN.out hnc hcm s HS.out (by omega) w' (RdX.below HR2.out hw')).mono (fun e w'' ⟨he, hb⟩ => ⟨he, hw'.trans (hb.mono hw'.size)⟩))
               | (have FF := HFA.out w' hw'; go_simp; done)
               | (have FF := HFA.out w' hw'; go_simp; exact rfl)
             clear hK K))
      
      refine wpQuiet_nil ?_
      intro wq hwq
      have hb2 := hb.trans (hwq.mono hb.size)
      clear hb hB HFA hwq
      go_wp2_with fail
      go_ret
      exact ⟨rfl, hb2⟩
end Go.Proofs.Ytihngonemdaihaa
