/- Texts of the proof, laid together: HeadWalk HeadEncWalk. -/
import Derived.Test.YtbcagdjfegobnaaGreatC23
import Derived.Test.YtbcagdjfegobnaaGreatC16
import Derived.Test.YtbcagdjfegobnaaGreatC20
import Derived.Test.YtbcagdjfegobnaaGreatC01
import Derived.BigRegion
import Derived.BigQuiet
import Derived.Deep.QuietTactic
import Derived.Deep.RegionLaw
/- The contracts of head.Check. -/
namespace Go.Proofs.YtbcagdjfegobnaaGreat
open Go.ChangeShapes Go.WideShapes Go.ChangeAt Go.RowKit
set_option linter.unusedVariables false

theorem Blk.facts6 {w : World} {g : Nat} {t : TypeId} {a b c d e f : Value} (h : Blk w g t #[a, b, c, d, e, f]) : g < w.heap.size ∧ w.cell? ⟨g, 0, none⟩ = some a ∧ w.cell? ⟨g, 1, none⟩ = some b ∧ w.cell? ⟨g, 2, none⟩ = some c ∧ w.cell? ⟨g, 3, none⟩ = some d ∧ w.cell? ⟨g, 4, none⟩ = some e ∧ w.cell? ⟨g, 5, none⟩ = some f ∧
    w.frozen? ⟨g, 0, none⟩ = false ∧ w.frozen? ⟨g, 1, none⟩ = false ∧ w.frozen? ⟨g, 2, none⟩ = false ∧ w.frozen? ⟨g, 3, none⟩ = false ∧ w.frozen? ⟨g, 4, none⟩ = false ∧ w.frozen? ⟨g, 5, none⟩ = false :=
  ⟨h.lt, by rw [h.cell]; rfl, by rw [h.cell]; rfl, by rw [h.cell]; rfl, by rw [h.cell]; rfl, by rw [h.cell]; rfl, by rw [h.cell]; rfl, h.frozen 0, h.frozen 1, h.frozen 2, h.frozen 3, h.frozen 4, h.frozen 5⟩

/-- The cells of a head whose token lies in the slice A. -/
def hcells (h : HeadD) (A : Option Addr) (c : Nat) : Array Value := #[.int .i64 h.kind, .int .i64 h.to, .int .i64 h.from_, .slice A h.tok.length c, .int .i64 h.number, .int .i64 h.size]

theorem below_drewN {B : Nat} {a w : World} (h : Below B a w) (n : Nat) : Below B a (w.drewN n) := ⟨h.os, h.tape, h.output, h.size, h.block⟩

theorem byteOf_ok (n : Int) (h0 : 0 ≤ n) (h1 : n ≤ 255) (w : World) : Calls Tryz.prog 84 #[.int .i64 n] w fun e w' => e = .returned (.bool true) ∧ w = w' := by
  go_enter Tryz.func84, Tryz.ntmps84
  go_wp2
  go_ret
  exact ⟨rfl, rfl⟩

set_option maxHeartbeats 1000000 in
theorem hCheck_retry (t f : Int) (n c : Nat) (A : Option Addr) (ht0 : 0 ≤ t) (ht : t ≤ 255) (hf0 : 0 ≤ f) (hf : f ≤ 255) (hn : (n : Int) ≤ 120) (w : World) :
    Calls Tryz.prog 50 #[.agg #[.int .i64 1, .int .i64 t, .int .i64 f, .slice A n c, .int .i64 0, .int .i64 0]] w fun e w' => e = .returned (.int .i64 0) ∧ Below w.heap.size w w' := by
  have hn2 := decide_eq_false (show ¬ (120 : Int) < (n : Int) by omega)
  go_enter Tryz.func50, Tryz.ntmps50
  go_wp2_with fail
  refine (byteOf_ok t ht0 ht _).mono ?_
  rintro e w' ⟨rfl, rfl⟩
  go_wp2_with fail
  refine (byteOf_ok f hf0 hf _).mono ?_
  rintro e w' ⟨rfl, rfl⟩
  go_wp2_with fail
  go_ret
  exact ⟨rfl, (Below.refl _ _).alloc (Nat.le_refl _) _⟩

set_option maxHeartbeats 2000000 in
theorem hCheck_init (t f m s : Int) (n c : Nat) (A : Option Addr) (ht0 : 0 ≤ t) (ht : t ≤ 255) (hf0 : 0 ≤ f) (hf : f ≤ 255) (hn : (n : Int) ≤ 120) (hm0 : 0 ≤ m) (hs : s = 1 ∧ m < 256 ∨ s = 2 ∧ m < 65536 ∨ s = 3 ∧ m < 16777216 ∨ s = 4 ∧ m < 4294967296) (w : World) :
    Calls Tryz.prog 50 #[.agg #[.int .i64 0, .int .i64 t, .int .i64 f, .slice A n c, .int .i64 m, .int .i64 s]] w fun e w' => e = .returned (.int .i64 0) ∧ Below w.heap.size w w' := by
  have hn2 := decide_eq_false (show ¬ (120 : Int) < (n : Int) by omega)
  have hk : ∃ q v : Int, (s = 1 ∧ q = 8 ∧ v = 256 ∨ s = 2 ∧ q = 16 ∧ v = 65536 ∨ s = 3 ∧ q = 24 ∧ v = 16777216 ∨ s = 4 ∧ q = 32 ∧ v = 4294967296) := by
    rcases hs with ⟨h, _⟩ | ⟨h, _⟩ | ⟨h, _⟩ | ⟨h, _⟩
    · exact ⟨8, 256, by omega⟩
    · exact ⟨16, 65536, by omega⟩
    · exact ⟨24, 16777216, by omega⟩
    · exact ⟨32, 4294967296, by omega⟩
  obtain ⟨q, v, hk⟩ := hk
  have hq : 8 * s = q := by omega
  have hmv : m < v := by omega
  have hs1 : 1 ≤ s := by omega
  have hs4 : s ≤ 4 := by omega
  have hqi : IntKind.i64.wrap q = q := by rcases hk with ⟨_, h, _⟩ | ⟨_, h, _⟩ | ⟨_, h, _⟩ | ⟨_, h, _⟩ <;> rw [h] <;> rfl
  have hpw : wrap64 (2 ^ q.toNat) = v := by
    rcases hk with ⟨_, h, h'⟩ | ⟨_, h, h'⟩ | ⟨_, h, h'⟩ | ⟨_, h, h'⟩ <;> rw [h, h'] <;> first | kernel_rfl | decide | (simp [wrap64]; done)
  have hb1 := decide_eq_false (show ¬ s < 1 by omega)
  have hb2 := decide_eq_false (show ¬ (4 : Int) < s by omega)
  have hb3 := decide_eq_false (show ¬ m < 0 by omega)
  have hb4 := decide_eq_false (show ¬ v ≤ m by omega)
  clear hs hk
  go_enter Tryz.func50, Tryz.ntmps50
  go_wp2_with fail
  refine (byteOf_ok t ht0 ht _).mono ?_
  rintro e w' ⟨rfl, rfl⟩
  go_wp2_with fail
  refine (byteOf_ok f hf0 hf _).mono ?_
  rintro e w' ⟨rfl, rfl⟩
  go_wp2_with fail
  go_quiet (fail)
  go_wp2_with fail
  go_ret
  exact ⟨rfl, below_drewN ((Below.refl _ _).alloc (Nat.le_refl _) _) _⟩

set_option maxHeartbeats 2000000 in
theorem hCheck_short (t m s : Int) (c : Nat) (A : Option Addr) (ht0 : 0 ≤ t) (ht : t ≤ 255) (hm0 : 0 ≤ m) (hs : s = 1 ∧ m < 256 ∨ s = 2 ∧ m < 65536 ∨ s = 3 ∧ m < 16777216 ∨ s = 4 ∧ m < 4294967296) (w : World) :
    Calls Tryz.prog 50 #[.agg #[.int .i64 2, .int .i64 t, .int .i64 0, .slice A 0 c, .int .i64 m, .int .i64 s]] w fun e w' => e = .returned (.int .i64 0) ∧ Below w.heap.size w w' := by
  have hk : ∃ q v : Int, (s = 1 ∧ q = 8 ∧ v = 256 ∨ s = 2 ∧ q = 16 ∧ v = 65536 ∨ s = 3 ∧ q = 24 ∧ v = 16777216 ∨ s = 4 ∧ q = 32 ∧ v = 4294967296) := by
    rcases hs with ⟨h, _⟩ | ⟨h, _⟩ | ⟨h, _⟩ | ⟨h, _⟩
    · exact ⟨8, 256, by omega⟩
    · exact ⟨16, 65536, by omega⟩
    · exact ⟨24, 16777216, by omega⟩
    · exact ⟨32, 4294967296, by omega⟩
  obtain ⟨q, v, hk⟩ := hk
  have hq : 8 * s = q := by omega
  have hmv : m < v := by omega
  have hs1 : 1 ≤ s := by omega
  have hs4 : s ≤ 4 := by omega
  have hqi : IntKind.i64.wrap q = q := by rcases hk with ⟨_, h, _⟩ | ⟨_, h, _⟩ | ⟨_, h, _⟩ | ⟨_, h, _⟩ <;> rw [h] <;> rfl
  have hpw : wrap64 (2 ^ q.toNat) = v := by
    rcases hk with ⟨_, h, h'⟩ | ⟨_, h, h'⟩ | ⟨_, h, h'⟩ | ⟨_, h, h'⟩ <;> rw [h, h'] <;> first | kernel_rfl | decide | (simp [wrap64]; done)
  have hb1 := decide_eq_false (show ¬ s < 1 by omega)
  have hb2 := decide_eq_false (show ¬ (4 : Int) < s by omega)
  have hb3 := decide_eq_false (show ¬ m < 0 by omega)
  have hb4 := decide_eq_false (show ¬ v ≤ m by omega)
  clear hs hk
  go_enter Tryz.func50, Tryz.ntmps50
  go_wp2_with fail
  refine (byteOf_ok t ht0 ht _).mono ?_
  rintro e w' ⟨rfl, rfl⟩
  go_wp2_with fail
  refine (byteOf_ok 0 (by decide) (by decide) _).mono ?_
  rintro e w' ⟨rfl, rfl⟩
  go_wp2_with fail
  go_quiet (fail)
  go_wp2_with fail
  go_ret
  exact ⟨rfl, below_drewN ((Below.refl _ _).alloc (Nat.le_refl _) _) _⟩

theorem HeadOk.sized {h : HeadD} (ok : HeadOk h) (hk : h.kind ≠ 1) : ∃ s m : Int, (h.size : Int) = s ∧ (h.number : Int) = m ∧ 0 ≤ m ∧ (s = 1 ∧ m < 256 ∨ s = 2 ∧ m < 65536 ∨ s = 3 ∧ m < 16777216 ∨ s = 4 ∧ m < 4294967296) := by
  obtain ⟨_, _, _, _, _, h6, h7, _⟩ := ok
  obtain ⟨a, b⟩ := h6 hk
  refine ⟨_, _, rfl, rfl, by omega, ?_⟩
  rcases (show h.size = 1 ∨ h.size = 2 ∨ h.size = 3 ∨ h.size = 4 by omega) with e | e | e | e
  all_goals
    rw [e] at h7 ⊢
    simp at h7
    omega

theorem hCheck_ok (h : HeadD) (ok : HeadOk h) (A : Option Addr) (c : Nat) (w : World) :
    Calls Tryz.prog 50 #[.agg (hcells h A c)] w fun e w' => e = .returned (.int .i64 0) ∧ Below w.heap.size w w' := by
  obtain ⟨h1, h2, h3, h4, h5, _, _, h8⟩ := id ok
  have hs := ok.sized
  obtain ⟨k, t, f, tk, n, s⟩ := h
  simp only [hcells] at *
  by_cases h1k : k = 1
  · subst h1k
    obtain ⟨rfl, rfl⟩ := h5 rfl
    exact hCheck_retry t f _ c A (by omega) (by omega) (by omega) (by omega) (by omega) w
  · obtain ⟨z, m, hz, hm, hm0, hs4⟩ := hs h1k
    rw [hz, hm]
    clear ok
    rcases (show k = 0 ∨ k = 2 by omega) with rfl | rfl
    · exact hCheck_init t f m z _ c A (by omega) (by omega) (by omega) (by omega) (by omega) hm0 hs4 w
    · obtain ⟨rfl, rfl⟩ := h8 rfl
      exact hCheck_short t m z c A (by omega) (by omega) hm0 hs4 w
end Go.Proofs.YtbcagdjfegobnaaGreat
/- The contract of head.Encode. -/
namespace Go.Proofs.YtbcagdjfegobnaaGreat
open Go.ChangeShapes Go.WideShapes Go.ChangeAt Go.RowKit
set_option linter.unusedVariables false

theorem step_appB {P : Program} {w : World} {ops : Array Oper} {o : Oper} {a : Act} {K : Act → World → Prop} {Q : Exit → Act → World → Prop} {E' : Prop} (hg : o.guard = none) (s x : Operand) (t : TypeId)
    (ho : o.op = .call { callee := .builtin .append, args := #[s, x], argTypes := #[t, t] })
    (base : Nat) (E : TypeId) (ht : P.underlying t = some (.slice E)) (hinfo : (P.info? E).map (fun i => (i.zero, i.size, i.bytes)) = some (some (.int .u8 0), 1, 1))
    (A0 : Option Addr) (n0 c0 : Nat) (us : List UInt8) (hs : a.eval s = .slice A0 n0 c0) (hn0 : us.length = n0) (hown : OwnB w base E A0 c0 us)
    (A : Option Addr) (m0 c : Nat) (bs : List UInt8) (hx : a.eval x = .slice A m0 c) (hm0 : bs.length = m0) (hr : RdB w A bs)
    (zs : List UInt8) (hz : us ++ bs = zs) (k : Nat) (hk : n0 + m0 = k) (hbytes : n0 + m0 ≤ 140737488355328) (hbase : base ≤ w.heap.size)
    (h : ∀ A' c' w', OwnB w' base E A' c' zs → k ≤ c' → c' ≤ 9223372036854775807 → Below base w w' → K (a.put o.dst (.slice A' k c')) w') :
    if Region.wanted o (yielded ops a.tmps) = true then Oper.wp P o a w K Q else E' := by
  subst hz; subst hn0; subst hm0; subst hk
  refine step_app hg s x t ho base E (.int .u8 0) 1 1 ht hinfo rfl (by decide) (by decide) A0 c0 us.length (u8s us) hs hown A bs.length c (u8s bs) hx hr (u8s_one bs) (by omega) hbase fun A' c' w' h2 h3 h4 h5 _ => ?_
  rw [← u8s_append, ← List.length_append] at h2
  exact h A' c' w' h2 h3 (by unfold maxLen at h4; omega) h5

theorem RdB.stays {w w1 w2 : World} {A : Option Addr} {bs : List UInt8} {B : Nat} (h : RdB w A bs) (h1 : RdB w1 A bs) (hb : Below B w1 w2) (hB : w.heap.size ≤ B) : RdB w2 A bs :=
  ⟨h1.1, fun hn => by
    obtain ⟨b, off, e, hc⟩ := h.2 hn
    obtain ⟨b', off', e', hc'⟩ := h1.2 hn
    obtain ⟨rfl, rfl⟩ : b' = b ∧ off' = off := by rw [e] at e'; injection e' with e'; injection e' with h1 h2; exact ⟨h1.symm, h2.symm⟩
    have hlt : b' < B := by
      have := World.block_lt_of_cell? w _ (hc 0 _ (List.getElem?_eq_getElem (show 0 < (u8s bs).length by rw [u8s_length]; exact hn)))
      exact Nat.lt_of_lt_of_le this hB
    exact ⟨b', off', e, fun j u hu => (hb.cell (p := ⟨b', off' + j, none⟩) hlt).trans (hc' j u hu)⟩⟩

theorem beB_snoc (us : List UInt8) (s m r : Nat) (h1 : r + 1 ≤ s) : (us ++ (beB s m).take (s - (r + 1))) ++ [UInt8.ofNat (m / 256 ^ r)] = us ++ (beB s m).take (s - r) := by
  rw [List.append_assoc]
  congr 1
  have hl := beB_length s m
  rw [show s - r = (s - (r + 1)) + 1 from by omega, List.take_succ_eq_append_getElem (by omega)]
  congr 1
  have := beB_get s m (s - (r + 1)) (by omega)
  simp only [List.getD, List.getElem?_eq_getElem (show s - (r + 1) < (beB s m).length by omega), Option.getD_some] at this
  rw [this, show s - 1 - (s - (r + 1)) = r from by omega]

theorem or192 (s : Int) (h1 : 1 ≤ s) (h4 : s ≤ 4) : bits .or .u8 192 (s - 1) = ((UInt8.ofNat (192 + (s.toNat - 1))).toNat : Int) := by
  obtain rfl | rfl | rfl | rfl : s = 1 ∨ s = 2 ∨ s = 3 ∨ s = 4 := by omega
  all_goals kernel_rfl
theorem or64 (s : Int) (h1 : 1 ≤ s) (h4 : s ≤ 4) : bits .or .u8 64 (s - 1) = ((UInt8.ofNat (64 + (s.toNat - 1))).toNat : Int) := by
  obtain rfl | rfl | rfl | rfl : s = 1 ∨ s = 2 ∨ s = 3 ∨ s = 4 := by omega
  all_goals kernel_rfl
theorem u8_nat (t : Nat) (h : t ≤ 255) : (t : Int) = ((UInt8.ofNat t).toNat : Int) := by simp; omega

set_option maxRecDepth 100000 in
set_option maxHeartbeats 3000000 in
theorem hEnc_init (t f m s : Nat) (tk : List UInt8) (n c : Nat) (A : Option Addr) (ht : t ≤ 255) (hf : f ≤ 255) (hl : tk.length = n) (hn : n ≤ 120) (hs1 : 1 ≤ s) (hs4 : s ≤ 4) (hm : m < 256 ^ s) (w : World) (hA : RdB w A tk) :
    Calls Tryz.prog 22 #[.agg #[.int .i64 0, .int .i64 t, .int .i64 f, .slice A n c, .int .i64 m, .int .i64 s]] w fun e w' => ∃ A' k c', e = .returned (.tuple #[.slice A' k c', .int .i64 0]) ∧ (henc ⟨0, t, f, tk, m, s⟩).length = k ∧ OwnB w' w.heap.size 5 A' c' (henc ⟨0, t, f, tk, m, s⟩) ∧ k ≤ c' ∧ c' ≤ 9223372036854775807 ∧ Below w.heap.size w w' := by
  have ok : HeadOk ⟨0, t, f, tk, m, s⟩ := ⟨by simp, by simp only; omega, ht, hf, by simp, fun _ => ⟨hs1, hs4⟩, hm, by simp⟩
  have hck := fun W => hCheck_ok _ ok A c W
  simp only [hcells, hl] at hck
  have HCK : Hid (∀ W, Calls Tryz.prog 50 #[.agg #[.int .i64 0, .int .i64 t, .int .i64 f, .slice A n c, .int .i64 m, .int .i64 s]] W fun e w' => e = .returned (.int .i64 0) ∧ Below W.heap.size W w') := hck
  have hm4 : m < 4294967296 := by
    have : 256 ^ s ≤ 256 ^ 4 := Nat.pow_le_pow_right (by decide) hs4
    omega
  have hsi1 : (1 : Int) ≤ s := by omega
  have hsi4 : (s : Int) ≤ 4 := by omega
  obtain ⟨z, hz⟩ : ∃ z, bits .or .u8 192 ((s : Int) - 1) = z := ⟨_, rfl⟩
  have hor := or192 s hsi1 hsi4
  rw [Int.toNat_natCast, hz] at hor
  have HOR := Lib.hid hor
  clear hor
  have HL := Lib.hid hl
  have HOK := Lib.hid ok
  clear hck hm hl
  go_enter Tryz.func22, Tryz.ntmps22
  go_wp2_with fail
  refine (HCK.out _).mono ?_
  rintro e w1 ⟨rfl, hb1⟩
  have hB : Blk w1 w.heap.size 61 #[.int .i64 0, .int .i64 t, .int .i64 f, .slice A n c, .int .i64 m, .int .i64 s] := (Blk.new _ _ _).carry hb1
  have HA0 := Lib.hid hA
  have hA1 := (RdB.below hA ((Below.refl _ _).alloc (Nat.le_refl _) _)).below hb1
  have hb : Below w.heap.size w w1 := ((Below.refl _ _).alloc (Nat.le_refl _) _).trans (hb1.mono (by simp))
  clear HCK hb1 hA
  have FB := hB.facts6
  go_upto_region 11 with (fail)
  have hcs : #[Value.int .u8 z, .int .u8 t, .int .u8 f] = (u8s [UInt8.ofNat (192 + (s - 1)), UInt8.ofNat t, UInt8.ofNat f]).toArray := by
    simp only [u8s, List.map_cons, List.map_nil, ← u8_nat t ht, ← u8_nat f hf, ← HOR.out]
  refine wp_world (fun w' => Blk w' w.heap.size 61 #[.int .i64 0, .int .i64 t, .int .i64 f, .slice A n c, .int .i64 m, .int .i64 s] ∧ OwnB w' (w.heap.size + 1) 5 (some ⟨w1.heap.size, 0, none⟩) 3 [UInt8.ofNat (192 + (s - 1)), UInt8.ofNat t, UInt8.ofNat f] ∧ RdB w' A tk ∧ w1.heap.size < w'.heap.size ∧ Below w.heap.size w w') ⟨hB.alloc _, ((Blk.new _ _ _).as hcs).ownB (bs := [UInt8.ofNat (192 + (s - 1)), UInt8.ofNat t, UInt8.ofNat f]) hB.lt (by show 3 ≤ _; decide), hA1.below ((Below.refl _ _).alloc (Nat.le_refl _) _), by simp, hb.alloc hb.size _⟩ ?_
  obtain ⟨fr, hfr⟩ : ∃ fr, [UInt8.ofNat (192 + (s - 1)), UInt8.ofNat t, UInt8.ofNat f] = fr := ⟨_, rfl⟩
  have HFR := Lib.hid hfr
  have hfl : fr.length = 3 := by rw [← hfr]; rfl
  have HFL := Lib.hid hfl
  rw [hfr]
  clear FB hB hA1 hb hcs HOR hfr hfl
  rintro w2 ⟨hB, hO, hA, hg, hb⟩
  have FB := hB.facts6
  go_wp2_with fail
  refine (encode_any n (by omega) _).mono ?_
  rintro e w3 ⟨rfl, hE, hb3⟩
  have hB3 := hB.carry hb3
  have hO3 := hO.below hb3 (Nat.le_refl _)
  have hA3 := hA.below hb3
  have hE3 := hE.rdB
  have hz3 := hb3.size
  have hbz : Below w.heap.size w w3 := hb.trans (hb3.mono hb.size)
  have HB := Lib.hid hB3
  have HO := Lib.hid hO3
  have HA := Lib.hid hA3
  have HE := Lib.hid hE3
  have HBZ := Lib.hid hbz
  clear FB hB hO hA hE hb hb3 hB3 hO3 hA3 hE3 hbz
  have FB := HB.out.facts6
  have hen : (encB n).length ≤ 8 := (encB_pos n (by omega)).2
  obtain ⟨k, hk⟩ : ∃ k, (encB n).length = k := ⟨_, rfl⟩
  rw [hk] at hen ⊢
  have HK := Lib.hid hk
  clear hk
  go_upto_region 13 with (fail)
  go_region_law ((first
    | (refine step_appB (by rfl) _ _ _ (by rfl) (w.heap.size + 1) 5 Tryz.underlying30 u8_info A5 (3 + k) c5 (fr ++ encB n) (by rfl) HL5.out HO5.out A n c tk (by rfl) HL.out HA5.out (fr ++ encB n ++ tk) rfl (3 + k + n) rfl (by omega) hbs5 ?_; intro A6 c6 w6 hO6 hc6 hm6 hb6)
    | (refine step_appB (by rfl) _ _ _ (by rfl) (w.heap.size + 1) 5 Tryz.underlying30 u8_info (some ⟨w1.heap.size, 0, none⟩) 3 3 fr (by rfl) HFL.out HO.out (some ⟨w2.heap.size, 0, none⟩) k k (encB n) (by rfl) HK.out HE.out (fr ++ encB n) rfl (3 + k) rfl (by omega) (by show _ ≤ w3.heap.size; omega) ?_; intro A5 c5 w5 hO5 hc5 hm5 hb5; have hB5 := HB.out.drew.below hb5 (Nat.lt_succ_self _); have FB5 := hB5.facts6; have HA5 := Lib.hid (HA0.out.stays (Rd.drew HA.out) hb5 (by omega)); have HO5 := Lib.hid hO5; have HL5 := Lib.hid (show (fr ++ encB n).length = 3 + k by rw [List.length_append, HFL.out, HK.out]); have hbs5 : w.heap.size + 1 ≤ w5.heap.size := by have h5 := hb5.size; have h5' : w3.heap.size ≤ w5.heap.size := h5; omega)))
  all_goals
    have hB6 := hB5.below hb6 (Nat.lt_succ_self _)
    have hbz : Below w.heap.size w w6 := HBZ.out.trans (((show Below (w.heap.size + 1) w3 w5 from ⟨hb5.os, hb5.tape, hb5.output, hb5.size, hb5.block⟩).trans hb6).mono (by omega))
    have hbs6 : w.heap.size + 1 ≤ w6.heap.size := by have := hb6.size; omega
    have HB := Lib.hid hB6
    have HBZ := Lib.hid hbz
    have HO := Lib.hid hO6
    have HL6 := Lib.hid (show (fr ++ encB n ++ tk).length = 3 + k + n by rw [List.length_append, List.length_append, HFL.out, HK.out, HL.out])
    clear hB5 FB5 HA5 HO5 hb5 hc5 hm5 hbs5 hbz hB6 hO6 hb6 HE HA0 FB
    obtain ⟨q, hq⟩ : ∃ q, 3 + k + n = q := ⟨_, rfl⟩
    have hq2 : q ≤ 131 := by omega
    rw [hq] at hc6 HL6 ⊢
    have HQ := Lib.hid hq
    clear hq hc6
    have FB := HB.out.facts6
    have hBE : Hid (henc ⟨0, t, f, tk, m, s⟩ = fr ++ encB n ++ tk ++ beB s m) := by
      show _ = _
      simp only [henc, hfront, if_neg (show ¬ (0 : Nat) = 2 by decide), if_pos, HFR.out, HL.out]
    generalize fr ++ encB n ++ tk = us at *
    go_wp2_with fail
    go_loopw [5, 8] (fun b i wr => ∃ (r : Nat) (A' : Option Addr) (l c' : Nat), r ≤ s ∧ i = .int .i64 ((r : Int) - 1) ∧ b = .slice A' l c' ∧ (us ++ (beB s m).take (s - r)).length = l ∧ l ≤ 135 ∧ l ≤ c' ∧ c' ≤ 9223372036854775807 ∧ OwnB wr (w.heap.size + 1) 5 A' c' (us ++ (beB s m).take (s - r)) ∧ Below (w.heap.size + 1) w6 wr) (fun _ i _ => (intOf i + 1).toNat)
    case atStart => exact ⟨s, A6, q, c6, Nat.le_refl _, rfl, rfl, by simp [HL6.out], by omega, by have := HO.out.cap; rw [HL6.out] at this; exact this.1, hm6, by simpa using HO.out, Below.refl _ _⟩
    case round =>
      obtain ⟨r, A7, l, c7, hr, rfl, rfl, hl7, hl135, hlc, hc7, hO7, hb7⟩ := hrel
      have HO7 := Lib.hid hO7
      have HL7 := Lib.hid hl7
      have hB7 := HB.out.below hb7 (Nat.lt_succ_self _)
      have hg7 := hb7.size
      have hbs7 : w.heap.size + 1 ≤ wr.heap.size := by omega
      clear FB hO7 hl7
      have FB := hB7.facts6
      rcases Nat.eq_zero_or_pos r with rfl | hpos
      · go_wp2_with fail
        go_ret2
        refine ⟨A7, l, c7, rfl, ?_, ?_, hlc, hc7, HBZ.out.trans (hb7.mono (by omega))⟩
        · rw [hBE.out]; have := HL7.out; rwa [Nat.sub_zero, List.take_of_length_le (by rw [beB_length]; exact Nat.le_refl _)] at this
        · rw [hBE.out]; have := HO7.out; rw [Nat.sub_zero, List.take_of_length_le (by rw [beB_length]; exact Nat.le_refl _)] at this; exact own_mono this (by omega)
      · obtain ⟨r, rfl⟩ : ∃ k, r = k + 1 := ⟨r - 1, by omega⟩
        obtain ⟨x, hx⟩ : ∃ x : UInt8, UInt8.ofNat (m / 256 ^ r) = x := ⟨_, rfl⟩
        have hz7 : Hid ((us ++ (beB s m).take (s - (r + 1))) ++ [x] = us ++ (beB s m).take (s - r)) := by rw [← hx]; exact beB_snoc us s m r hr
        have hxv : (x.toNat : Int) = (m / 256 ^ r % 256 : Nat) := by rw [← hx]; simp
        have HXV := Lib.hid hxv
        have hl8 : Hid ((us ++ (beB s m).take (s - r)).length = l + 1) := by show _ = _; rw [← hz7.out, List.length_append, HL7.out]; rfl
        have hl135 : l + 1 ≤ 135 := by rw [← hl8.out, List.length_append, HL6.out, List.length_take, beB_length]; omega
        clear hx hxv
        rcases (show r = 0 ∨ r = 1 ∨ r = 2 ∨ r = 3 by omega) with rfl | rfl | rfl | rfl
        all_goals
          go_wp2_with (at_builtin; refine wpList_appB _ rfl (.tmp 71) (.tmp 78) _ rfl (w.heap.size + 1) 5 Tryz.underlying30 u8_info A7 l c7 _ rfl HL7.out (HO7.out.alloc _) _ 1 1 [x] rfl rfl (RdB.one _ _ _ _ (by rw [HXV.out]; simp; try omega)) _ hz7.out (l + 1) rfl (by omega) (by simp; omega) ?_; intro A8 c8 w8 hO8 hc8 hm8 hb8; have hb78 := hb7.trans (((Below.refl _ _).alloc hbs7 _).trans hb8))
          go_roundw
          case rel => exact ⟨_, A8, l + 1, c8, by omega, by go_num, rfl, hl8.out, hl135, hc8, hm8, hO8, hb78⟩
          case measure => simp [intOf]
set_option maxRecDepth 100000 in
set_option maxHeartbeats 3000000 in
theorem hEnc_retry (t f : Nat) (tk : List UInt8) (n c : Nat) (A : Option Addr) (ht : t ≤ 255) (hf : f ≤ 255) (hl : tk.length = n) (hn : n ≤ 120) (w : World) (hA : RdB w A tk) :
    Calls Tryz.prog 22 #[.agg #[.int .i64 1, .int .i64 t, .int .i64 f, .slice A n c, .int .i64 0, .int .i64 0]] w fun e w' => ∃ A' k c', e = .returned (.tuple #[.slice A' k c', .int .i64 0]) ∧ (henc ⟨1, t, f, tk, 0, 0⟩).length = k ∧ OwnB w' w.heap.size 5 A' c' (henc ⟨1, t, f, tk, 0, 0⟩) ∧ k ≤ c' ∧ c' ≤ 9223372036854775807 ∧ Below w.heap.size w w' := by
  have ok : HeadOk ⟨1, t, f, tk, 0, 0⟩ := ⟨by simp, by simp only; omega, ht, hf, by simp, by simp, by simp, by simp⟩
  have hck := fun W => hCheck_ok _ ok A c W
  simp only [hcells, hl] at hck
  have HCK : Hid (∀ W, Calls Tryz.prog 50 #[.agg #[.int .i64 1, .int .i64 t, .int .i64 f, .slice A n c, .int .i64 0, .int .i64 0]] W fun e w' => e = .returned (.int .i64 0) ∧ Below W.heap.size W w') := hck
  have HL := Lib.hid hl
  have HOK := Lib.hid ok
  clear hck hl
  go_enter Tryz.func22, Tryz.ntmps22
  go_wp2_with fail
  refine (HCK.out _).mono ?_
  rintro e w1 ⟨rfl, hb1⟩
  have hB : Blk w1 w.heap.size 61 #[.int .i64 1, .int .i64 t, .int .i64 f, .slice A n c, .int .i64 0, .int .i64 0] := (Blk.new _ _ _).carry hb1
  have HA0 := Lib.hid hA
  have hA1 := (RdB.below hA ((Below.refl _ _).alloc (Nat.le_refl _) _)).below hb1
  have hb : Below w.heap.size w w1 := ((Below.refl _ _).alloc (Nat.le_refl _) _).trans (hb1.mono (by simp))
  clear HCK hb1 hA
  have FB := hB.facts6
  go_upto_region 11 with (fail)
  have hcs : #[Value.int .u8 240, .int .u8 t, .int .u8 f] = (u8s [UInt8.ofNat 240, UInt8.ofNat t, UInt8.ofNat f]).toArray := by
    simp only [u8s, List.map_cons, List.map_nil, ← u8_nat t ht, ← u8_nat f hf]
    rfl
  refine wp_world (fun w' => Blk w' w.heap.size 61 #[.int .i64 1, .int .i64 t, .int .i64 f, .slice A n c, .int .i64 0, .int .i64 0] ∧ OwnB w' (w.heap.size + 1) 5 (some ⟨w1.heap.size, 0, none⟩) 3 [UInt8.ofNat 240, UInt8.ofNat t, UInt8.ofNat f] ∧ RdB w' A tk ∧ w1.heap.size < w'.heap.size ∧ Below w.heap.size w w') ⟨hB.alloc _, ((Blk.new _ _ _).as hcs).ownB (bs := [UInt8.ofNat 240, UInt8.ofNat t, UInt8.ofNat f]) hB.lt (by show 3 ≤ _; decide), hA1.below ((Below.refl _ _).alloc (Nat.le_refl _) _), by simp, hb.alloc hb.size _⟩ ?_
  obtain ⟨fr, hfr⟩ : ∃ fr, [UInt8.ofNat 240, UInt8.ofNat t, UInt8.ofNat f] = fr := ⟨_, rfl⟩
  have HFR := Lib.hid hfr
  have hfl : fr.length = 3 := by rw [← hfr]; rfl
  have HFL := Lib.hid hfl
  rw [hfr]
  clear FB hB hA1 hb hcs hfr hfl
  rintro w2 ⟨hB, hO, hA, hg, hb⟩
  have FB := hB.facts6
  go_wp2_with fail
  refine (encode_any n (by omega) _).mono ?_
  rintro e w3 ⟨rfl, hE, hb3⟩
  have hB3 := hB.carry hb3
  have hO3 := hO.below hb3 (Nat.le_refl _)
  have hA3 := hA.below hb3
  have hE3 := hE.rdB
  have hz3 := hb3.size
  have hbz : Below w.heap.size w w3 := hb.trans (hb3.mono hb.size)
  have HB := Lib.hid hB3
  have HO := Lib.hid hO3
  have HA := Lib.hid hA3
  have HE := Lib.hid hE3
  have HBZ := Lib.hid hbz
  clear FB hB hO hA hE hb hb3 hB3 hO3 hA3 hE3 hbz
  have FB := HB.out.facts6
  have hen : (encB n).length ≤ 8 := (encB_pos n (by omega)).2
  obtain ⟨k, hk⟩ : ∃ k, (encB n).length = k := ⟨_, rfl⟩
  rw [hk] at hen ⊢
  have HK := Lib.hid hk
  clear hk
  go_upto_region 13 with (fail)
  go_region_law ((first
    | (refine step_appB (by rfl) _ _ _ (by rfl) (w.heap.size + 1) 5 Tryz.underlying30 u8_info A5 (3 + k) c5 (fr ++ encB n) (by rfl) HL5.out HO5.out A n c tk (by rfl) HL.out HA5.out (fr ++ encB n ++ tk) rfl (3 + k + n) rfl (by omega) hbs5 ?_; intro A6 c6 w6 hO6 hc6 hm6 hb6)
    | (refine step_appB (by rfl) _ _ _ (by rfl) (w.heap.size + 1) 5 Tryz.underlying30 u8_info (some ⟨w1.heap.size, 0, none⟩) 3 3 fr (by rfl) HFL.out HO.out (some ⟨w2.heap.size, 0, none⟩) k k (encB n) (by rfl) HK.out HE.out (fr ++ encB n) rfl (3 + k) rfl (by omega) (by show _ ≤ w3.heap.size; omega) ?_; intro A5 c5 w5 hO5 hc5 hm5 hb5; have hB5 := HB.out.drew.below hb5 (Nat.lt_succ_self _); have FB5 := hB5.facts6; have HA5 := Lib.hid (HA0.out.stays (Rd.drew HA.out) hb5 (by omega)); have HO5 := Lib.hid hO5; have HL5 := Lib.hid (show (fr ++ encB n).length = 3 + k by rw [List.length_append, HFL.out, HK.out]); have hbs5 : w.heap.size + 1 ≤ w5.heap.size := by have h5 := hb5.size; have h5' : w3.heap.size ≤ w5.heap.size := h5; omega)))
  all_goals
    have hB6 := hB5.below hb6 (Nat.lt_succ_self _)
    have hbz : Below w.heap.size w w6 := HBZ.out.trans (((show Below (w.heap.size + 1) w3 w5 from ⟨hb5.os, hb5.tape, hb5.output, hb5.size, hb5.block⟩).trans hb6).mono (by omega))
    have hbs6 : w.heap.size + 1 ≤ w6.heap.size := by have := hb6.size; omega
    have HB := Lib.hid hB6
    have HBZ := Lib.hid hbz
    have HO := Lib.hid hO6
    have HL6 := Lib.hid (show (fr ++ encB n ++ tk).length = 3 + k + n by rw [List.length_append, List.length_append, HFL.out, HK.out, HL.out])
    clear hB5 FB5 HA5 HO5 hb5 hc5 hm5 hbs5 hbz hB6 hO6 hb6 HE HA0 FB
    obtain ⟨q, hq⟩ : ∃ q, 3 + k + n = q := ⟨_, rfl⟩
    have hq2 : q ≤ 131 := by omega
    rw [hq] at hc6 HL6 ⊢
    have HQ := Lib.hid hq
    clear hq hc6
    have FB := HB.out.facts6
    have hBE : Hid (henc ⟨1, t, f, tk, 0, 0⟩ = fr ++ encB n ++ tk ++ beB 0 0) := by
      show _ = _
      simp only [henc, hfront, if_neg (show ¬ (1 : Nat) = 2 by decide), if_neg (show ¬ (1 : Nat) = 0 by decide), HFR.out, HL.out]
    generalize fr ++ encB n ++ tk = us at *
    go_wp2_with fail
    refine wp_loop_rounds 1 ?_
    rw [rounds_succ]
    go_wp2_with fail
    go_ret2
    refine ⟨A6, q, c6, rfl, ?_, ?_, ?_, hm6, HBZ.out⟩
    · rw [hBE.out]; simpa [beB] using HL6.out
    · rw [hBE.out]; rw [show us ++ beB 0 0 = us from by simp [beB]]; exact own_mono HO.out (by omega)
    · have := HO.out.cap; rw [HL6.out] at this; exact this.1

set_option maxRecDepth 100000 in
set_option maxHeartbeats 3000000 in
theorem hEnc_short (t m s : Nat) (c : Nat) (A : Option Addr) (ht : t ≤ 255) (hs1 : 1 ≤ s) (hs4 : s ≤ 4) (hm : m < 256 ^ s) (w : World) :
    Calls Tryz.prog 22 #[.agg #[.int .i64 2, .int .i64 t, .int .i64 0, .slice A 0 c, .int .i64 m, .int .i64 s]] w fun e w' => ∃ A' k c', e = .returned (.tuple #[.slice A' k c', .int .i64 0]) ∧ (henc ⟨2, t, 0, [], m, s⟩).length = k ∧ OwnB w' w.heap.size 5 A' c' (henc ⟨2, t, 0, [], m, s⟩) ∧ k ≤ c' ∧ c' ≤ 9223372036854775807 ∧ Below w.heap.size w w' := by
  have ok : HeadOk ⟨2, t, 0, [], m, s⟩ := ⟨by simp, by simp, ht, by simp, by simp, fun _ => ⟨hs1, hs4⟩, hm, by simp⟩
  have hck := fun W => hCheck_ok _ ok A c W
  simp only [hcells, List.length_nil] at hck
  have HCK : Hid (∀ W, Calls Tryz.prog 50 #[.agg #[.int .i64 2, .int .i64 t, .int .i64 0, .slice A 0 c, .int .i64 m, .int .i64 s]] W fun e w' => e = .returned (.int .i64 0) ∧ Below W.heap.size W w') := hck
  have hm4 : m < 4294967296 := by
    have : 256 ^ s ≤ 256 ^ 4 := Nat.pow_le_pow_right (by decide) hs4
    omega
  have hsi1 : (1 : Int) ≤ s := by omega
  have hsi4 : (s : Int) ≤ 4 := by omega
  obtain ⟨z, hz⟩ : ∃ z, bits .or .u8 64 ((s : Int) - 1) = z := ⟨_, rfl⟩
  have hor := or64 s hsi1 hsi4
  rw [Int.toNat_natCast, hz] at hor
  have HOR := Lib.hid hor
  clear hor
  have HOK := Lib.hid ok
  clear hck hm
  go_enter Tryz.func22, Tryz.ntmps22
  go_wp2_with fail
  refine (HCK.out _).mono ?_
  rintro e w1 ⟨rfl, hb1⟩
  have hB : Blk w1 w.heap.size 61 #[.int .i64 2, .int .i64 t, .int .i64 0, .slice A 0 c, .int .i64 m, .int .i64 s] := (Blk.new _ _ _).carry hb1
  have hb : Below w.heap.size w w1 := ((Below.refl _ _).alloc (Nat.le_refl _) _).trans (hb1.mono (by simp))
  clear HCK hb1
  have FB := hB.facts6
  go_upto_region 11 with (fail)
  have hcs : #[Value.int .u8 z, .int .u8 t] = (u8s [UInt8.ofNat (64 + (s - 1)), UInt8.ofNat t]).toArray := by
    simp only [u8s, List.map_cons, List.map_nil, ← u8_nat t ht, ← HOR.out]
  refine wp_world (fun w' => Blk w' w.heap.size 61 #[.int .i64 2, .int .i64 t, .int .i64 0, .slice A 0 c, .int .i64 m, .int .i64 s] ∧ OwnB w' (w.heap.size + 1) 5 (some ⟨w1.heap.size, 0, none⟩) 2 [UInt8.ofNat (64 + (s - 1)), UInt8.ofNat t] ∧ w1.heap.size < w'.heap.size ∧ Below w.heap.size w w') ⟨hB.alloc _, ((Blk.new _ _ _).as hcs).ownB (bs := [UInt8.ofNat (64 + (s - 1)), UInt8.ofNat t]) hB.lt (by show 2 ≤ _; decide), by simp, hb.alloc hb.size _⟩ ?_
  obtain ⟨fr, hfr⟩ : ∃ fr, [UInt8.ofNat (64 + (s - 1)), UInt8.ofNat t] = fr := ⟨_, rfl⟩
  have HFR := Lib.hid hfr
  have hfl : fr.length = 2 := by rw [← hfr]; rfl
  have HFL := Lib.hid hfl
  rw [hfr]
  clear FB hB hb hcs HOR hfr hfl
  rintro w2 ⟨hB, hO, hg, hb⟩
  have FB := hB.facts6
  have HB := Lib.hid hB
  have HO := Lib.hid hO
  have HBZ := Lib.hid hb
  have hbs6 : w.heap.size + 1 ≤ w2.heap.size := by have := HB.out.lt; omega
  clear hB hO hb
  have hBE : Hid (henc ⟨2, t, 0, [], m, s⟩ = fr ++ beB s m) := by
    show _ = _
    simp only [henc, hfront, if_pos, HFR.out]
  have FB := HB.out.facts6
  go_wp2_with fail
  go_loopw [5, 8] (fun b i wr => ∃ (r : Nat) (A' : Option Addr) (l c' : Nat), r ≤ s ∧ i = .int .i64 ((r : Int) - 1) ∧ b = .slice A' l c' ∧ (fr ++ (beB s m).take (s - r)).length = l ∧ l ≤ 135 ∧ l ≤ c' ∧ c' ≤ 9223372036854775807 ∧ OwnB wr (w.heap.size + 1) 5 A' c' (fr ++ (beB s m).take (s - r)) ∧ Below (w.heap.size + 1) w2 wr) (fun _ i _ => (intOf i + 1).toNat)
  case atStart => exact ⟨s, some ⟨w1.heap.size, 0, none⟩, 2, 2, Nat.le_refl _, rfl, rfl, by simp [HFL.out], by omega, by decide, by decide, by simpa using HO.out, Below.refl _ _⟩
  case round =>
    obtain ⟨r, A7, l, c7, hr, rfl, rfl, hl7, hl135, hlc, hc7, hO7, hb7⟩ := hrel
    have HO7 := Lib.hid hO7
    have HL7 := Lib.hid hl7
    have hB7 := HB.out.below hb7 (Nat.lt_succ_self _)
    have hg7 := hb7.size
    have hbs7 : w.heap.size + 1 ≤ wr.heap.size := by omega
    clear FB hO7 hl7
    have FB := hB7.facts6
    rcases Nat.eq_zero_or_pos r with rfl | hpos
    · go_wp2_with fail
      go_ret2
      refine ⟨A7, l, c7, rfl, ?_, ?_, hlc, hc7, HBZ.out.trans (hb7.mono (by omega))⟩
      · rw [hBE.out]; have := HL7.out; rwa [Nat.sub_zero, List.take_of_length_le (by rw [beB_length]; exact Nat.le_refl _)] at this
      · rw [hBE.out]; have := HO7.out; rw [Nat.sub_zero, List.take_of_length_le (by rw [beB_length]; exact Nat.le_refl _)] at this; exact own_mono this (by omega)
    · obtain ⟨r, rfl⟩ : ∃ k, r = k + 1 := ⟨r - 1, by omega⟩
      obtain ⟨x, hx⟩ : ∃ x : UInt8, UInt8.ofNat (m / 256 ^ r) = x := ⟨_, rfl⟩
      have hz7 : Hid ((fr ++ (beB s m).take (s - (r + 1))) ++ [x] = fr ++ (beB s m).take (s - r)) := by rw [← hx]; exact beB_snoc fr s m r hr
      have hxv : (x.toNat : Int) = (m / 256 ^ r % 256 : Nat) := by rw [← hx]; simp
      have HXV := Lib.hid hxv
      have hl8 : Hid ((fr ++ (beB s m).take (s - r)).length = l + 1) := by show _ = _; rw [← hz7.out, List.length_append, HL7.out]; rfl
      have hl135 : l + 1 ≤ 135 := by rw [← hl8.out, List.length_append, HFL.out, List.length_take, beB_length]; omega
      clear hx hxv
      rcases (show r = 0 ∨ r = 1 ∨ r = 2 ∨ r = 3 by omega) with rfl | rfl | rfl | rfl
      all_goals
        go_wp2_with (at_builtin; refine wpList_appB _ rfl (.tmp 71) (.tmp 78) _ rfl (w.heap.size + 1) 5 Tryz.underlying30 u8_info A7 l c7 _ rfl HL7.out (HO7.out.alloc _) _ 1 1 [x] rfl rfl (RdB.one _ _ _ _ (by rw [HXV.out]; simp; try omega)) _ hz7.out (l + 1) rfl (by omega) (by simp; omega) ?_; intro A8 c8 w8 hO8 hc8 hm8 hb8; have hb78 := hb7.trans (((Below.refl _ _).alloc hbs7 _).trans hb8))
        go_roundw
        case rel => exact ⟨_, A8, l + 1, c8, by omega, by go_num, rfl, hl8.out, hl135, hc8, hm8, hO8, hb78⟩
        case measure => simp [intOf]
theorem hEnc_any (h : HeadD) (ok : HeadOk h) (A : Option Addr) (c : Nat) (w : World) (hA : RdB w A h.tok) :
    Calls Tryz.prog 22 #[.agg (hcells h A c)] w fun e w' => ∃ A' k c', e = .returned (.tuple #[.slice A' k c', .int .i64 0]) ∧ (henc h).length = k ∧ OwnB w' w.heap.size 5 A' c' (henc h) ∧ k ≤ c' ∧ c' ≤ 9223372036854775807 ∧ Below w.heap.size w w' := by
  obtain ⟨h1, h2, h3, h4, h5, h6, h7, h8⟩ := ok
  obtain ⟨k, t, f, tk, m, s⟩ := h
  simp only [hcells] at *
  by_cases h1k : k = 1
  · subst h1k
    obtain ⟨rfl, rfl⟩ := h5 rfl
    exact hEnc_retry t f tk _ c A h3 h4 rfl h2 w hA
  · obtain ⟨hs1, hs4⟩ := h6 h1k
    rcases (show k = 0 ∨ k = 2 by omega) with rfl | rfl
    · exact hEnc_init t f m s tk _ c A h3 h4 rfl h2 hs1 hs4 h7 w hA
    · obtain ⟨rfl, rfl⟩ := h8 rfl
      exact hEnc_short t m s c A h3 hs1 hs4 h7 w
end Go.Proofs.YtbcagdjfegobnaaGreat
