/- What Decode needs besides: Check of a frame that is too large in one number; bytes behind each other in an int. -/
import Derived.Test.YtenlgfeldkfmiaaEyeRngs
namespace Go.Proofs.Ytenlgfeldkfmiaa
open Go.ChangeShapes Go.WideShapes Go.ChangeAt Go.RowKit
set_option linter.unusedVariables false

/-- 'n<<8 | c', whatever n. -/
theorem or_byteW (N c : Nat) (hN : N < 72057594037927936) (hc : c < 256) : bits .or .i64 (wrap64 ((N : Int) * 256)) (c : Int) = wrap64 ((N * 256 + c : Nat) : Int) := by
  have h1 : (BitVec.ofInt 64 (wrap64 ((N : Int) * 256))).toNat = N * 256 := by
    have e : BitVec.ofInt 64 (wrap64 ((N : Int) * 256)) = BitVec.ofInt 64 ((N * 256 : Nat) : Int) := by
      apply BitVec.eq_of_toNat_eq
      rw [BitVec.toNat_ofInt, BitVec.toNat_ofInt]
      unfold wrap64
      omega
    rw [e, BitVec.ofInt_natCast, BitVec.toNat_ofNat]
    exact Nat.mod_eq_of_lt (by omega)
  have h2 : (BitVec.ofInt 64 (c : Int)).toNat = c := by
    rw [BitVec.ofInt_natCast, BitVec.toNat_ofNat]; exact Nat.mod_eq_of_lt (by omega)
  show IntKind.i64.wrap ((BitVec.ofInt 64 (wrap64 ((N : Int) * 256)) ||| BitVec.ofInt 64 (c : Int)).toNat : Int) = _
  rw [BitVec.toNat_or, h1, h2, nat_join 8 (N * 256) c (by omega) (by omega), wrap_i64]
  unfold wrap64
  omega
theorem wrap64_id (n : Nat) (h : n ≤ 4611686018427387903) : wrap64 (n : Int) = (n : Int) := by unfold wrap64; omega
theorem wrap64_bad (n : Nat) (h : 4611686018427387903 < n) (h2 : n < 18446744073709551616) : wrap64 (n : Int) < 0 ∨ 4611686018427387903 < wrap64 (n : Int) := by unfold wrap64; omega

set_option maxRecDepth 100000 in
set_option maxHeartbeats 2000000 in
/-- The code is too large. -/
theorem fCheck_code (k id off n m : Nat) (code : Int) (fin bi bo bc bd bf bw : Bool) (A : Option Addr) (c : Nat) (B : Option Addr) (d : Nat) (w : World)
    (HP : Hid (∀ W, Calls Try.prog 28 #[.int .i64 k] W fun e w' => e = .returned (.tuple #[.agg #[.bool bi, .bool bo, .bool bc, .bool bd, .bool bf, .bool bw], .bool true]) ∧ Below W.heap.size W w'))
    (M1 : Hid (∀ W, Calls Try.prog 35 #[.bool bi, .int .i64 id] W fun e w' => e = .returned (.bool true) ∧ W = w'))
    (M2 : Hid (∀ W, Calls Try.prog 35 #[.bool bo, .int .i64 off] W fun e w' => e = .returned (.bool true) ∧ W = w'))
    (M3 : Hid (∀ W, Calls Try.prog 35 #[.bool bc, .int .i64 code] W fun e w' => e = .returned (.bool false) ∧ W = w'))
    (hm : m ≤ 120) (hn : n ≤ 6) :
    Calls Try.prog 19 #[.agg #[.int .i64 k, .int .i64 id, .int .i64 off, .bool fin, .int .i64 code, .slice A n c, .slice B m d]] w fun e w' => e = .returned (.int .i64 6) ∧ Below w.heap.size w w' := by
  have h120 : decide (120 < (m : Int)) = false := decide_eq_false (by omega)
  have h6 : decide (6 < (n : Int)) = false := decide_eq_false (by omega)
  go_enter Try.func19, Try.ntmps19
  go_wp2_with fail
  refine (HP.out _).mono ?_
  rintro e w1 ⟨rfl, hb1⟩
  go_upto_region 2 with (fail)
  refine wp_world (fun w' => Blk w' w.heap.size 40 #[.int .i64 k, .int .i64 id, .int .i64 off, .bool fin, .int .i64 code, .slice A n c, .slice B m d] ∧ Blk w' w1.heap.size 69 #[.bool bi, .bool bo, .bool bc, .bool bd, .bool bf, .bool bw] ∧ Below w.heap.size w w') ⟨?_, ?_, ?_⟩ ?_
  · have h := (Blk.new w 40 #[.int .i64 k, .int .i64 id, .int .i64 off, .bool fin, .int .i64 code, .slice A n c, .slice B m d]).carry hb1
    (apply Blk.as; (case h => (repeat (first | with_reducible exact h | with_reducible apply Blk.drew | with_reducible apply Blk.set4 | with_reducible apply Blk.set_ | (with_reducible apply Blk.far4 (hne := ?side); case side => (first | omega | (simp; omega) | (simp; done))) | (with_reducible apply Blk.far (hp := ?side); case side => (first | omega | (simp; omega) | (simp; done))) | with_reducible apply Blk.alloc))); (case e => (first | with_reducible rfl | (simp; done) | rfl)))
  · first | exact Blk.new _ _ _ | exact (Blk.new _ _ _).as (by simp)
  · have h : Below w.heap.size w w1 := ((Below.refl _ _).alloc (Nat.le_refl _) _).trans (hb1.mono (by simp))
    exact h.alloc h.size _
  rintro w2 ⟨hF, hP, hb⟩
  have FF := hF.factsF
  have FP := hP.factsP
  have HB := Lib.hid hb
  clear hb1 hF hP hb
  go_wp2_with fail
  refine (M1.out _).mono ?_
  rintro e w' ⟨rfl, rfl⟩
  go_wp2_with fail
  refine (M2.out _).mono ?_
  rintro e w' ⟨rfl, rfl⟩
  go_wp2_with fail
  refine (M3.out _).mono ?_
  rintro e w' ⟨rfl, rfl⟩
  go_wp2_with fail
  go_ret
  exact ⟨by first | rfl | simp, HB.out⟩
set_option maxRecDepth 100000 in
set_option maxHeartbeats 2000000 in
/-- The end of the data is too far. -/
theorem fCheck_far (k id off n m : Nat) (code : Int) (fin bi bo bc bf bw : Bool) (A : Option Addr) (c : Nat) (B : Option Addr) (d : Nat) (w : World)
    (HP : Hid (∀ W, Calls Try.prog 28 #[.int .i64 k] W fun e w' => e = .returned (.tuple #[.agg #[.bool bi, .bool bo, .bool bc, .bool true, .bool bf, .bool bw], .bool true]) ∧ Below W.heap.size W w'))
    (M1 : Hid (∀ W, Calls Try.prog 35 #[.bool bi, .int .i64 id] W fun e w' => e = .returned (.bool true) ∧ W = w'))
    (M2 : Hid (∀ W, Calls Try.prog 35 #[.bool bo, .int .i64 off] W fun e w' => e = .returned (.bool true) ∧ W = w'))
    (M3 : Hid (∀ W, Calls Try.prog 35 #[.bool bc, .int .i64 code] W fun e w' => e = .returned (.bool true) ∧ W = w'))
    (hm : m ≤ 120) (hn : n ≤ 6) (hfar : 4611686018427387903 < off + m) :
    Calls Try.prog 19 #[.agg #[.int .i64 k, .int .i64 id, .int .i64 off, .bool fin, .int .i64 code, .slice A n c, .slice B m d]] w fun e w' => e = .returned (.int .i64 6) ∧ Below w.heap.size w w' := by
  have h120 : decide (120 < (m : Int)) = false := decide_eq_false (by omega)
  have h6 : decide (6 < (n : Int)) = false := decide_eq_false (by omega)
  have hw : IntKind.i64.wrap (4611686018427387903 - (m : Int)) = 4611686018427387903 - (m : Int) := by rw [IntKind.wrap_i64]; omega
  have hd : decide (4611686018427387903 - (m : Int) < (off : Int)) = true := decide_eq_true (by omega)
  clear hfar
  go_enter Try.func19, Try.ntmps19
  go_wp2_with fail
  refine (HP.out _).mono ?_
  rintro e w1 ⟨rfl, hb1⟩
  go_upto_region 2 with (fail)
  refine wp_world (fun w' => Blk w' w.heap.size 40 #[.int .i64 k, .int .i64 id, .int .i64 off, .bool fin, .int .i64 code, .slice A n c, .slice B m d] ∧ Blk w' w1.heap.size 69 #[.bool bi, .bool bo, .bool bc, .bool true, .bool bf, .bool bw] ∧ Below w.heap.size w w') ⟨?_, ?_, ?_⟩ ?_
  · have h := (Blk.new w 40 #[.int .i64 k, .int .i64 id, .int .i64 off, .bool fin, .int .i64 code, .slice A n c, .slice B m d]).carry hb1
    (apply Blk.as; (case h => (repeat (first | with_reducible exact h | with_reducible apply Blk.drew | with_reducible apply Blk.set4 | with_reducible apply Blk.set_ | (with_reducible apply Blk.far4 (hne := ?side); case side => (first | omega | (simp; omega) | (simp; done))) | (with_reducible apply Blk.far (hp := ?side); case side => (first | omega | (simp; omega) | (simp; done))) | with_reducible apply Blk.alloc))); (case e => (first | with_reducible rfl | (simp; done) | rfl)))
  · first | exact Blk.new _ _ _ | exact (Blk.new _ _ _).as (by simp)
  · have h : Below w.heap.size w w1 := ((Below.refl _ _).alloc (Nat.le_refl _) _).trans (hb1.mono (by simp))
    exact h.alloc h.size _
  rintro w2 ⟨hF, hP, hb⟩
  have FF := hF.factsF
  have FP := hP.factsP
  have HB := Lib.hid hb
  clear hb1 hF hP hb
  go_wp2_with fail
  refine (M1.out _).mono ?_
  rintro e w' ⟨rfl, rfl⟩
  go_wp2_with fail
  refine (M2.out _).mono ?_
  rintro e w' ⟨rfl, rfl⟩
  go_wp2_with fail
  refine (M3.out _).mono ?_
  rintro e w' ⟨rfl, rfl⟩
  go_wp2_with fail
  go_ret
  exact ⟨by first | rfl | simp, HB.out⟩

/-- What a frame that was read may be: all but its code and where its data end. -/
theorem fbody_may (k : Nat) (fin : Bool) {y : EyeD} (hk : kOk k = true) (hf : pFin k = false → fin = false) (h : (fbody k fin y).2.e = 0) :
    FrMay (fbody k fin y).1 ∧ (pCode k = false → (fbody k fin y).1.code = 0) ∧ (pWord k = false → (fbody k fin y).1.code ≤ 4611686018427387903) ∧ (fbody k fin y).1.code < 18446744073709551616 := by
  unfold fbody at *
  simp only at h ⊢
  have h4 := e_of (ifD_good _) h
  have h3 := e_of (ifC_good _ _) h4
  have h2 := e_of (ifN_good _) h3
  have h1 := e_of (ifN_good _) h2
  obtain ⟨r1, r2, r3, r4⟩ := ifR_ok k h1
  generalize ifR (k == 2) y = r at *
  obtain ⟨i1, i2, i3⟩ := ifN_ok _ h2
  generalize ifN (pId k) r.2 = i at *
  obtain ⟨o1, o2, o3⟩ := ifN_ok _ h3
  generalize ifN (pOff k) i.2 = o at *
  obtain ⟨c1, c2⟩ := ifC_ok _ _ (kind_word k).1 h4
  have c3 : pWord k = false → (ifC (pWord k) (pCode k) o.2).1 ≤ 4611686018427387903 := fun hw => by
    rw [hw] at h4 ⊢
    exact (ifN_ok _ h4).2.1
  have c4 : (ifC (pWord k) (pCode k) o.2).1 < 18446744073709551616 := by
    cases hw : pWord k with
    | false => have := c3 hw; rw [hw] at this; omega
    | true =>
      rw [hw] at h4
      have hl := (yTake_ok (n := 8) (y := o.2) h4).2
      have := valB_lt (yTake 8 o.2).1 0 1 (by omega)
      rw [hl] at this
      show valB (yTake 8 o.2).1 0 < _
      omega
  generalize ifC (pWord k) (pCode k) o.2 = c at *
  obtain ⟨d1, d2, d3⟩ := ifD_ok _ h
  generalize ifD (pData k) c.2 = d at *
  exact ⟨⟨hk, d2, r3, i2, i3, o2, o3, d3, hf, r4, r1⟩, c2, c3, c4⟩
/-- Check of a frame that was read. -/
theorem fCheck_read (f : FrD) (m : FrMay f) (hc0 : pCode f.kind = false → f.code = 0) (hc1 : f.code < 18446744073709551616) (A : Option Addr) (c : Nat) (B : Option Addr) (d : Nat) (w : World) (hr : RdX rcells 2 w A f.rngs) (hnc : f.rngs.length ≤ c) (hcm : c ≤ 9223372036854775807) :
    Calls Try.prog 19 #[.agg #[.int .i64 f.kind, .int .i64 f.id, .int .i64 f.off, .bool f.fin, .int .i64 (wrap64 (f.code : Int)), .slice A f.rngs.length c, .slice B f.data.length d]] w fun e w' => e = .returned (.int .i64 (if frB f = false then 6 else 0)) ∧ Below w.heap.size w w' := by
  by_cases hx : f.code ≤ 4611686018427387903
  · rw [wrap64_id _ hx]
    by_cases hfar : pData f.kind = true → f.off + f.data.length ≤ 4611686018427387903
    · have ok : FrOk f := ⟨m.kind, m.len, m.many, m.id, m.noId, m.off, m.noOff, hx, hc0, hfar, m.noData, m.noFin, m.ack, m.rngs⟩
      rw [frB_ok ok]
      exact fCheck_ok f ok A c B d w hr hnc hcm
    · have hp : pData f.kind = true := Classical.byContradiction fun h => hfar fun h2 => absurd h2 h
      have hq : 4611686018427387903 < f.off + f.data.length := by
        rcases Nat.lt_or_ge 4611686018427387903 (f.off + f.data.length) with h | h
        · exact h
        · exact absurd (fun _ => h) hfar
      have hB : frB f = false := by
        unfold frB; rw [hp, decide_eq_true hx]; simp; omega
      rw [hB, if_pos rfl]
      have hP := fun W => partsOf_good f.kind m.kind W
      have hpc : pcells f.kind = #[.bool (pId f.kind), .bool (pOff f.kind), .bool (pCode f.kind), .bool true, .bool (pFin f.kind), .bool (pWord f.kind)] := by unfold pcells; rw [hp]
      rw [hpc] at hP
      exact fCheck_far f.kind f.id f.off f.rngs.length f.data.length f.code f.fin (pId f.kind) (pOff f.kind) (pCode f.kind) (pFin f.kind) (pWord f.kind) A c B d w
        (Lib.hid hP) (Lib.hid fun W => may_ok _ _ m.id m.noId W) (Lib.hid fun W => may_ok _ _ m.off m.noOff W) (Lib.hid fun W => may_ok _ _ hx hc0 W) m.len m.many hq
  · have hB : frB f = false := by
      unfold frB; rw [decide_eq_false hx]; rfl
    rw [hB, if_pos rfl]
    exact fCheck_code f.kind f.id f.off f.rngs.length f.data.length (wrap64 (f.code : Int)) f.fin (pId f.kind) (pOff f.kind) (pCode f.kind) (pData f.kind) (pFin f.kind) (pWord f.kind) A c B d w
      (Lib.hid fun W => partsOf_good f.kind m.kind W) (Lib.hid fun W => may_ok _ _ m.id m.noId W) (Lib.hid fun W => may_ok _ _ m.off m.noOff W) (Lib.hid fun W => may_bad _ _ (wrap64_bad _ (by omega) hc1) W) m.len m.many
end Go.Proofs.Ytenlgfeldkfmiaa
