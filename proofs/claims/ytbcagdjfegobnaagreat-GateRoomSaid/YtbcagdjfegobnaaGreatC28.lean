/- Texts of the proof, laid together: HeadWalk. -/
import Derived.Test.YtbcagdjfegobnaaGreatC27
import Derived.Test.YtbcagdjfegobnaaGreatC19
import Derived.Test.YtbcagdjfegobnaaGreatC23
import Derived.Test.YtbcagdjfegobnaaGreatC01
import Derived.BigRegion
import Derived.BigQuiet
import Derived.Deep.QuietTactic
/- The contracts of head.Check. -/
namespace Go.Proofs.YtbcagdjfegobnaaGreat
open Go.ChangeShapes Go.WideShapes Go.ChangeAt Go.RowKit
set_option linter.unusedVariables false

theorem Blk.facts6 {w : World} {g : Nat} {t : TypeId} {a b c d e f : Value} (h : Blk w g t #[a, b, c, d, e, f]) : g < w.heap.size ∧ w.cell? ⟨g, 0, none⟩ = some a ∧ w.cell? ⟨g, 1, none⟩ = some b ∧ w.cell? ⟨g, 2, none⟩ = some c ∧ w.cell? ⟨g, 3, none⟩ = some d ∧ w.cell? ⟨g, 4, none⟩ = some e ∧ w.cell? ⟨g, 5, none⟩ = some f ∧
    w.frozen? ⟨g, 0, none⟩ = false ∧ w.frozen? ⟨g, 1, none⟩ = false ∧ w.frozen? ⟨g, 2, none⟩ = false ∧ w.frozen? ⟨g, 3, none⟩ = false ∧ w.frozen? ⟨g, 4, none⟩ = false ∧ w.frozen? ⟨g, 5, none⟩ = false :=
  ⟨h.lt, by rw [h.cell]; rfl, by rw [h.cell]; rfl, by rw [h.cell]; rfl, by rw [h.cell]; rfl, by rw [h.cell]; rfl, by rw [h.cell]; rfl, h.frozen 0, h.frozen 1, h.frozen 2, h.frozen 3, h.frozen 4, h.frozen 5⟩

/-- The cells of a head whose token lies in the slice A. -/
def hcells (h : HeadD) (A : Option Addr) (c : Nat) : Array Value := #[.int .i64 h.kind, .int .i64 h.to, .int .i64 h.from_, .slice A h.tok.length c, .int .i64 h.number, .int .i64 h.size]

theorem below_drewN {B : Nat} {a w : World} (h : Below B a w) (n : Nat) : Below B a (w.drewN n) := ⟨h.os, h.tape, h.output, h.size, h.block⟩

theorem byteOf_ok (n : Int) (h0 : 0 ≤ n) (h1 : n ≤ 255) (w : World) : Calls Tryz.prog 84 #[.int .i64 n] w fun e w' => e = .returned (.bool true) ∧ w = w' := by
  go_enter Tryz.func84, Tryz.ntmps84
  go_wp2
  go_ret
  exact ⟨rfl, rfl⟩

set_option maxHeartbeats 1000000 in
theorem hCheck_retry (t f : Int) (n c : Nat) (A : Option Addr) (ht0 : 0 ≤ t) (ht : t ≤ 255) (hf0 : 0 ≤ f) (hf : f ≤ 255) (hn : (n : Int) ≤ 120) (w : World) :
    Calls Tryz.prog 50 #[.agg #[.int .i64 1, .int .i64 t, .int .i64 f, .slice A n c, .int .i64 0, .int .i64 0]] w fun e w' => e = .returned (.int .i64 0) ∧ Below w.heap.size w w' := by
  have hn2 := decide_eq_false (show ¬ (120 : Int) < (n : Int) by omega)
  go_enter Tryz.func50, Tryz.ntmps50
  go_wp2_with fail
  refine (byteOf_ok t ht0 ht _).mono ?_
  rintro e w' ⟨rfl, rfl⟩
  go_wp2_with fail
  refine (byteOf_ok f hf0 hf _).mono ?_
  rintro e w' ⟨rfl, rfl⟩
  go_wp2_with fail
  go_ret
  exact ⟨rfl, (Below.refl _ _).alloc (Nat.le_refl _) _⟩

set_option maxHeartbeats 2000000 in
theorem hCheck_init (t f m s : Int) (n c : Nat) (A : Option Addr) (ht0 : 0 ≤ t) (ht : t ≤ 255) (hf0 : 0 ≤ f) (hf : f ≤ 255) (hn : (n : Int) ≤ 120) (hm0 : 0 ≤ m) (hs : s = 1 ∧ m < 256 ∨ s = 2 ∧ m < 65536 ∨ s = 3 ∧ m < 16777216 ∨ s = 4 ∧ m < 4294967296) (w : World) :
    Calls Tryz.prog 50 #[.agg #[.int .i64 0, .int .i64 t, .int .i64 f, .slice A n c, .int .i64 m, .int .i64 s]] w fun e w' => e = .returned (.int .i64 0) ∧ Below w.heap.size w w' := by
  have hn2 := decide_eq_false (show ¬ (120 : Int) < (n : Int) by omega)
  have hk : ∃ q v : Int, (s = 1 ∧ q = 8 ∧ v = 256 ∨ s = 2 ∧ q = 16 ∧ v = 65536 ∨ s = 3 ∧ q = 24 ∧ v = 16777216 ∨ s = 4 ∧ q = 32 ∧ v = 4294967296) := by
    rcases hs with ⟨h, _⟩ | ⟨h, _⟩ | ⟨h, _⟩ | ⟨h, _⟩
    · exact ⟨8, 256, by omega⟩
    · exact ⟨16, 65536, by omega⟩
    · exact ⟨24, 16777216, by omega⟩
    · exact ⟨32, 4294967296, by omega⟩
  obtain ⟨q, v, hk⟩ := hk
  have hq : 8 * s = q := by omega
  have hmv : m < v := by omega
  have hs1 : 1 ≤ s := by omega
  have hs4 : s ≤ 4 := by omega
  have hqi : IntKind.i64.wrap q = q := by rcases hk with ⟨_, h, _⟩ | ⟨_, h, _⟩ | ⟨_, h, _⟩ | ⟨_, h, _⟩ <;> rw [h] <;> rfl
  have hpw : wrap64 (2 ^ q.toNat) = v := by
    rcases hk with ⟨_, h, h'⟩ | ⟨_, h, h'⟩ | ⟨_, h, h'⟩ | ⟨_, h, h'⟩ <;> rw [h, h'] <;> first | kernel_rfl | decide | (simp [wrap64]; done)
  have hb1 := decide_eq_false (show ¬ s < 1 by omega)
  have hb2 := decide_eq_false (show ¬ (4 : Int) < s by omega)
  have hb3 := decide_eq_false (show ¬ m < 0 by omega)
  have hb4 := decide_eq_false (show ¬ v ≤ m by omega)
  clear hs hk
  go_enter Tryz.func50, Tryz.ntmps50
  go_wp2_with fail
  refine (byteOf_ok t ht0 ht _).mono ?_
  rintro e w' ⟨rfl, rfl⟩
  go_wp2_with fail
  refine (byteOf_ok f hf0 hf _).mono ?_
  rintro e w' ⟨rfl, rfl⟩
  go_wp2_with fail
  go_quiet (fail)
  go_wp2_with fail
  go_ret
  exact ⟨rfl, below_drewN ((Below.refl _ _).alloc (Nat.le_refl _) _) _⟩

set_option maxHeartbeats 2000000 in
theorem hCheck_short (t m s : Int) (c : Nat) (A : Option Addr) (ht0 : 0 ≤ t) (ht : t ≤ 255) (hm0 : 0 ≤ m) (hs : s = 1 ∧ m < 256 ∨ s = 2 ∧ m < 65536 ∨ s = 3 ∧ m < 16777216 ∨ s = 4 ∧ m < 4294967296) (w : World) :
    Calls Tryz.prog 50 #[.agg #[.int .i64 2, .int .i64 t, .int .i64 0, .slice A 0 c, .int .i64 m, .int .i64 s]] w fun e w' => e = .returned (.int .i64 0) ∧ Below w.heap.size w w' := by
  have hk : ∃ q v : Int, (s = 1 ∧ q = 8 ∧ v = 256 ∨ s = 2 ∧ q = 16 ∧ v = 65536 ∨ s = 3 ∧ q = 24 ∧ v = 16777216 ∨ s = 4 ∧ q = 32 ∧ v = 4294967296) := by
    rcases hs with ⟨h, _⟩ | ⟨h, _⟩ | ⟨h, _⟩ | ⟨h, _⟩
    · exact ⟨8, 256, by omega⟩
    · exact ⟨16, 65536, by omega⟩
    · exact ⟨24, 16777216, by omega⟩
    · exact ⟨32, 4294967296, by omega⟩
  obtain ⟨q, v, hk⟩ := hk
  have hq : 8 * s = q := by omega
  have hmv : m < v := by omega
  have hs1 : 1 ≤ s := by omega
  have hs4 : s ≤ 4 := by omega
  have hqi : IntKind.i64.wrap q = q := by rcases hk with ⟨_, h, _⟩ | ⟨_, h, _⟩ | ⟨_, h, _⟩ | ⟨_, h, _⟩ <;> rw [h] <;> rfl
  have hpw : wrap64 (2 ^ q.toNat) = v := by
    rcases hk with ⟨_, h, h'⟩ | ⟨_, h, h'⟩ | ⟨_, h, h'⟩ | ⟨_, h, h'⟩ <;> rw [h, h'] <;> first | kernel_rfl | decide | (simp [wrap64]; done)
  have hb1 := decide_eq_false (show ¬ s < 1 by omega)
  have hb2 := decide_eq_false (show ¬ (4 : Int) < s by omega)
  have hb3 := decide_eq_false (show ¬ m < 0 by omega)
  have hb4 := decide_eq_false (show ¬ v ≤ m by omega)
  clear hs hk
  go_enter Tryz.func50, Tryz.ntmps50
  go_wp2_with fail
  refine (byteOf_ok t ht0 ht _).mono ?_
  rintro e w' ⟨rfl, rfl⟩
  go_wp2_with fail
  refine (byteOf_ok 0 (by decide) (by decide) _).mono ?_
  rintro e w' ⟨rfl, rfl⟩
  go_wp2_with fail
  go_quiet (fail)
  go_wp2_with fail
  go_ret
  exact ⟨rfl, below_drewN ((Below.refl _ _).alloc (Nat.le_refl _) _) _⟩

theorem HeadOk.sized {h : HeadD} (ok : HeadOk h) (hk : h.kind ≠ 1) : ∃ s m : Int, (h.size : Int) = s ∧ (h.number : Int) = m ∧ 0 ≤ m ∧ (s = 1 ∧ m < 256 ∨ s = 2 ∧ m < 65536 ∨ s = 3 ∧ m < 16777216 ∨ s = 4 ∧ m < 4294967296) := by
  obtain ⟨_, _, _, _, _, h6, h7, _⟩ := ok
  obtain ⟨a, b⟩ := h6 hk
  refine ⟨_, _, rfl, rfl, by omega, ?_⟩
  rcases (show h.size = 1 ∨ h.size = 2 ∨ h.size = 3 ∨ h.size = 4 by omega) with e | e | e | e
  all_goals
    rw [e] at h7 ⊢
    simp at h7
    omega

theorem hCheck_ok (h : HeadD) (ok : HeadOk h) (A : Option Addr) (c : Nat) (w : World) :
    Calls Tryz.prog 50 #[.agg (hcells h A c)] w fun e w' => e = .returned (.int .i64 0) ∧ Below w.heap.size w w' := by
  obtain ⟨h1, h2, h3, h4, h5, _, _, h8⟩ := id ok
  have hs := ok.sized
  obtain ⟨k, t, f, tk, n, s⟩ := h
  simp only [hcells] at *
  by_cases h1k : k = 1
  · subst h1k
    obtain ⟨rfl, rfl⟩ := h5 rfl
    exact hCheck_retry t f _ c A (by omega) (by omega) (by omega) (by omega) (by omega) w
  · obtain ⟨z, m, hz, hm, hm0, hs4⟩ := hs h1k
    rw [hz, hm]
    clear ok
    rcases (show k = 0 ∨ k = 2 by omega) with rfl | rfl
    · exact hCheck_init t f m z _ c A (by omega) (by omega) (by omega) (by omega) (by omega) hm0 hs4 w
    · obtain ⟨rfl, rfl⟩ := h8 rfl
      exact hCheck_short t m z c A (by omega) (by omega) hm0 hs4 w
end Go.Proofs.YtbcagdjfegobnaaGreat
