/- Texts of the proof, laid together: RangeBWalk RangeWalk AddWalk RCutWalk HasBWalk SetBWalk NoteBWalk. -/
import Derived.Test.YtbcagdjfegobnaaGreatC00
import Derived.Test.YtbcagdjfegobnaaGreatC01
import Derived.Test.YtbcagdjfegobnaaGreatC02
import Derived.BigQuiet
import Derived.Deep.RegionHeld3
import Derived.Deep.DeepCutAuto
/- The contracts of ranges.good and Check. -/
namespace Go.Proofs.YtbcagdjfegobnaaGreat
open Go.ChangeShapes Go.WideShapes Go.ChangeAt Go.RowKit
set_option linter.unusedVariables false

def rcells (x : Rng) : List Value := [.int .i64 x.1, .int .i64 x.2]
theorem rcells_len (x : Rng) : (rcells x).length = 2 := rfl
theorem rcells_one (xs : List Rng) : ∀ u ∈ xs.flatMap rcells, u.oneCell' = true := by
  intro u hu
  obtain ⟨x, _, hx⟩ := List.mem_flatMap.1 hu
  simp [rcells] at hx
  rcases hx with rfl | rfl <;> rfl
abbrev RdR (w : World) (A : Option Addr) (xs : List Rng) : Prop := RdX rcells 2 w A xs
theorem RdX.rcell {w : World} {A : Option Addr} {xs : List Rng} (h : RdX rcells 2 w A xs) (hn : 0 < xs.length) : ∃ b off, A = some ⟨b, off, none⟩ ∧ ∀ k, k < xs.length → w.cell? ⟨b, off + k * 2, none⟩ = some (.int .i64 (xs.getD k (0, 0)).1) ∧ w.cell? ⟨b, off + k * 2 + 1, none⟩ = some (.int .i64 (xs.getD k (0, 0)).2) := by
  obtain ⟨b, off, e, hc⟩ := RdX.at_ rcells_len h (0, 0) hn
  exact ⟨b, off, e, fun k hk => ⟨hc k hk 0 _ (by decide) rfl, hc k hk 1 _ (by decide) rfl⟩⟩
theorem goodFrom_at {b : Int} {l : List Rng} (h : goodFrom b l) (hb : 0 ≤ b) (k : Nat) (hk : k < l.length) : 0 ≤ (l.getD k (0, 0)).1 ∧ (l.getD k (0, 0)).1 ≤ (l.getD k (0, 0)).2 ∧ (l.getD k (0, 0)).2 ≤ 4611686018427387903 := by
  induction l generalizing b k with
  | nil => simp at hk
  | cons x l ih =>
    obtain ⟨h1, h2, h3, h4⟩ := h
    cases k with
    | zero => exact ⟨by show 0 ≤ x.1; omega, h2, h3⟩
    | succ k => exact ih h4 (by omega) k (by simpa using hk)
theorem goodFrom_next {b : Int} {l : List Rng} (h : goodFrom b l) (k : Nat) (hk : k + 1 < l.length) : (l.getD k (0, 0)).2 + 2 ≤ (l.getD (k + 1) (0, 0)).1 := by
  induction l generalizing b k with
  | nil => simp at hk
  | cons x l ih =>
    obtain ⟨h1, h2, h3, h4⟩ := h
    cases k with
    | zero =>
      cases l with
      | nil => simp at hk
      | cons y l => exact h4.1
    | succ k => exact ih h4 k (by simpa using hk)

theorem rgood_ok (lo hi : Int) (h0 : 0 ≤ lo) (h1 : lo ≤ hi) (h2 : hi ≤ 4611686018427387903) (w : World) :
    Calls Tryz.prog 162 #[.agg #[.int .i64 lo, .int .i64 hi]] w fun e w' => e = .returned (.bool true) ∧ Below w.heap.size w w' := by
  go_enter Tryz.func162, Tryz.ntmps162
  go_wp2
  go_ret
  exact ⟨by simp, (Below.refl _ _).alloc (Nat.le_refl _) _⟩

set_option maxHeartbeats 1000000 in
theorem rCheck_ok (A : Option Addr) (n c : Nat) (l : List Rng) (hn : l.length = n) (hl : goodFrom 0 l) (hnc : n ≤ c) (hcm : c ≤ 9223372036854775807) (w : World) (hr : RdX rcells 2 w A l) :
    Calls Tryz.prog 124 #[.slice A n c] w fun e w' => e = .returned (.int .i64 0) ∧ Below w.heap.size w w' := by
  have HN := Lib.hid hn
  have HL := Lib.hid hl
  have HR := Lib.hid hr
  clear hn hl hr
  go_enter Tryz.func124, Tryz.ntmps124
  go_wp2_with fail
  go_loopw [7] (fun i wr => ∃ k : Nat, k ≤ n ∧ i = .int .i64 k ∧ Below w.heap.size w wr) (fun i _ => n - (intOf i).toNat)
  case atStart => exact ⟨0, Nat.zero_le _, rfl, Below.refl _ _⟩
  case round =>
    obtain ⟨k, hk, rfl, hb⟩ := hrel
    by_cases hlt : k < n
    · have hlen := HN.out
      obtain ⟨b, off, rfl, hcell⟩ := (RdX.below HR.out hb).rcell (by omega)
      obtain ⟨c0, c1⟩ := hcell k (by omega)
      obtain ⟨g0, g1, g2⟩ := goodFrom_at HL.out (by decide) k (by omega)
      have hprev : 0 < k → wr.cell? ⟨b, off + (k - 1) * 2 + 1, none⟩ = some (.int .i64 (l.getD (k - 1) (0, 0)).2) ∧ 0 ≤ (l.getD (k - 1) (0, 0)).2 ∧ (l.getD (k - 1) (0, 0)).2 + 2 ≤ (l.getD k (0, 0)).1 := fun h0 => by
        have := goodFrom_next HL.out (k - 1) (by omega)
        rw [show k - 1 + 1 = k from by omega] at this
        have h2 := goodFrom_at HL.out (by decide) (k - 1) (by omega)
        exact ⟨(hcell (k - 1) (by omega)).2, by omega, this⟩
      have HPR := Lib.hid hprev
      clear hcell hlen hprev
      obtain ⟨x1, x2, hx⟩ : ∃ x1 x2, l.getD k (0, 0) = (x1, x2) := ⟨_, _, rfl⟩
      have HPR2 : Hid (0 < k → wr.cell? ⟨b, off + (k - 1) * 2 + 1, none⟩ = some (.int .i64 (l.getD (k - 1) (0, 0)).2) ∧ 0 ≤ (l.getD (k - 1) (0, 0)).2 ∧ (l.getD (k - 1) (0, 0)).2 + 2 ≤ x1) := by
        have := HPR.out; rw [hx] at this; exact this
      rw [hx] at c0 c1 g0 g1 g2
      replace g0 : 0 ≤ x1 := g0
      replace g1 : x1 ≤ x2 := g1
      replace g2 : x2 ≤ 4611686018427387903 := g2
      clear hx HPR
      have hbl : b < wr.heap.size := World.block_lt_of_cell? wr _ c0
      go_upto_region 4 with (fail)
      refine wp_world (fun w' => Blk w' wr.heap.size 116 #[.int .i64 x1, .int .i64 x2] ∧ Below w.heap.size w w' ∧ (0 < k → w'.cell? ⟨b, off + (k - 1) * 2 + 1, none⟩ = some (.int .i64 (l.getD (k - 1) (0, 0)).2))) ⟨Blk.new _ _ _, hb.alloc hb.size _, fun h0 => (World.cell?_alloc_lt _ _ _ hbl).trans (HPR2.out h0).1⟩ ?_
      have hwr := hb.size
      clear hb c0 c1
      rintro w2 ⟨hB, hb, hpc⟩
      have HPC := Lib.hid hpc
      clear hpc
      have hg2 := hB.lt
      rcases Nat.eq_zero_or_pos k with h0 | h0
      · subst h0
        have hfacts : ∀ w', Below w2.heap.size w2 w' → w'.cell? ⟨wr.heap.size, 0, none⟩ = some (.int .i64 x1) ∧ w'.cell? ⟨wr.heap.size, 1, none⟩ = some (.int .i64 x2) := fun w' hw' => ⟨(hB.carry hw').two.1, (hB.carry hw').two.2.1⟩
        have HFA := Lib.hid hfacts
        clear hfacts
        refine wp_region_quiet (C := fun w' => Below (w2).heap.size (w2) w') (by kernel_rfl) (by kernel_rfl) (Below.refl _ _).drew ?_
        repeat (
          with_reducible refine wpQuiet_step ?_
          intro K hK
          go_simp
          first
            | (refine hK _ ?_; clear hK K)
            | (apply Exists.intro
               refine ⟨fun w' hw' => ?_, hK _ ?_⟩
               first
                 | (go_at_call 162; exact (rgood_ok x1 x2 g0 g1 g2 _).mono (fun e w'' ⟨he, hb⟩ => ⟨he, hw'.trans (hb.mono hw'.size)⟩))
                 | (have FF := HFA.out w' hw'; go_simp; done)
                 | (have FF := HFA.out w' hw'; go_simp; exact rfl)
               clear hK K))
        
        refine wpQuiet_nil ?_
        intro wq hwq
        have hb2 := hb.trans (hwq.mono hb.size)
        clear hb hB HFA hwq
        go_wp2_with fail
        go_roundw
        case rel => exact ⟨1, by omega, by go_num, hb2⟩
        case measure => simp [intOf]; omega
      · obtain ⟨j, rfl⟩ : ∃ j, k = j + 1 := ⟨k - 1, by omega⟩
        have p1 := HPC.out (by omega)
        obtain ⟨_, p2, p3⟩ := HPR2.out (by omega)
        rw [Nat.add_sub_cancel] at p1 p2 p3
        generalize (l.getD j (0, 0)).2 = z at *
        have hfacts : ∀ w', Below w2.heap.size w2 w' → w'.cell? ⟨wr.heap.size, 0, none⟩ = some (.int .i64 x1) ∧ w'.cell? ⟨wr.heap.size, 1, none⟩ = some (.int .i64 x2) ∧ w'.cell? ⟨b, off + j * 2 + 1, none⟩ = some (.int .i64 z) := fun w' hw' => ⟨(hB.carry hw').two.1, (hB.carry hw').two.2.1, cell_keep hw' p1⟩
        have HFA := Lib.hid hfacts
        have hj0 : (0 : Int) ≤ (j : Int) := by omega
        have hj1 : (j : Int) < (n : Int) := by omega
        have hw1 : IntKind.i64.wrap (j : Int) = (j : Int) := IntWalk.i64_in _ (by omega)
        have hz1 : IntKind.i64.wrap (z + 1) = z + 1 := IntWalk.i64_in _ (by omega)
        have hd : decide (0 < (j : Int) + 1) = true := decide_eq_true (by omega)
        have hd2 : decide (x1 ≤ z + 1) = false := decide_eq_false (by omega)
        clear hfacts p1
        refine wp_region_quiet (C := fun w' => Below (w2).heap.size (w2) w') (by kernel_rfl) (by kernel_rfl) (Below.refl _ _).drew ?_
        repeat (
          with_reducible refine wpQuiet_step ?_
          intro K hK
          go_simp
          first
            | (refine hK _ ?_; clear hK K)
            | (apply Exists.intro
               refine ⟨fun w' hw' => ?_, hK _ ?_⟩
               first
                 | (go_at_call 162; exact (rgood_ok x1 x2 g0 g1 g2 _).mono (fun e w'' ⟨he, hb⟩ => ⟨he, hw'.trans (hb.mono hw'.size)⟩))
                 | (have FF := HFA.out w' hw'; go_simp; done)
                 | (have FF := HFA.out w' hw'; go_simp; exact rfl)
               clear hK K))
        
        refine wpQuiet_nil ?_
        intro wq hwq
        have hb2 := hb.trans (hwq.mono hb.size)
        clear hb hB HFA hwq hw1 hz1
        go_wp2_with fail
        go_roundw
        case rel => exact ⟨j + 1 + 1, by omega, by go_num, hb2⟩
        case measure => simp [intOf]; omega
    · go_wp2_with fail
      go_ret
      exact ⟨rfl, hb⟩

end Go.Proofs.YtbcagdjfegobnaaGreat
/- The contract of ranges.fault. -/
namespace Go.Proofs.YtbcagdjfegobnaaGreat
open Go.ChangeShapes Go.WideShapes Go.ChangeAt Go.RowKit
set_option linter.unusedVariables false

theorem rFault_ok (A : Option Addr) (n c : Nat) (l : List Rng) (hn : l.length = n) (hl : goodFrom 0 l) (hnc : n ≤ c) (hcm : c ≤ 9223372036854775807) (lo hi : Int) (h0 : 0 ≤ lo) (h1 : lo ≤ hi) (h2 : hi ≤ 4611686018427387903) (w : World) (hr : RdX rcells 2 w A l) :
    Calls Tryz.prog 187 #[.slice A n c, .agg #[.int .i64 lo, .int .i64 hi]] w fun e w' => e = .returned (.int .i64 0) ∧ Below w.heap.size w w' := by
  have HN := Lib.hid hn
  have HL := Lib.hid hl
  have HR := Lib.hid hr
  clear hn hl hr
  go_enter Tryz.func187, Tryz.ntmps187
  go_wp2_with fail
  refine (rCheck_ok A n c l HN.out HL.out hnc hcm _ (HR.out.alloc _)).mono ?_
  rintro e w1 ⟨rfl, hb1⟩
  have hB := (Blk.new w 116 #[.int .i64 lo, .int .i64 hi]).carry hb1
  have hb : Below w.heap.size w w1 := ((Below.refl _ _).alloc (Nat.le_refl _) _).trans (hb1.mono (by simp))
  have FB := hB.two
  clear hb1 hB
  go_wp2_with fail
  refine (rgood_ok lo hi h0 h1 h2 _).mono ?_
  rintro e w2 ⟨rfl, hb2⟩
  go_wp2_with fail
  go_ret
  exact ⟨rfl, hb.trans (hb2.mono hb.size)⟩
end Go.Proofs.YtbcagdjfegobnaaGreat
/- The contract of ranges.Add. -/
namespace Go.Proofs.YtbcagdjfegobnaaGreat
open Go.ChangeShapes Go.WideShapes Go.ChangeAt Go.RowKit
set_option linter.unusedVariables false

theorem rngInfo : (Tryz.prog.info? 116).map (fun i => (i.zero, i.size, i.bytes)) = some (some (.agg #[.int .i64 0, .int .i64 0]), 2, 16) := by kernel_rfl

theorem addR_at (l : List Rng) (k : Nat) (hk : k < l.length) (r : Rng) (put : Bool) : addR (l.drop k) r put =
    (let x := l.getD k (0, 0)
     if x.2 + 1 < r.1 then x :: addR (l.drop (k + 1)) r put
     else if r.2 + 1 < x.1 then (if put then x :: addR (l.drop (k + 1)) r put else r :: x :: addR (l.drop (k + 1)) r true)
     else addR (l.drop (k + 1)) (min r.1 x.1, max r.2 x.2) put) := by
  rw [List.drop_eq_getElem_cons hk, show l.getD k (0, 0) = l[k] from by simp [List.getD, hk]]
  rfl

set_option maxRecDepth 100000 in
set_option maxHeartbeats 1000000 in
theorem rAdd_own (A : Option Addr) (n c : Nat) (l : List Rng) (hn : l.length = n) (hl : goodFrom 0 l) (hnc : n ≤ c) (hcm : c ≤ 9223372036854775807) (hnb : n ≤ 1000000) (lo hi : Int) (h0 : 0 ≤ lo) (h1 : lo ≤ hi) (h2 : hi ≤ 4611686018427387903)
    (R : List Rng) (k_ : Nat) (hR : addR l (lo, hi) false = R) (hk : R.length = k_) (w : World) (hr : RdX rcells 2 w A l) :
    Calls Tryz.prog 169 #[.slice A n c, .agg #[.int .i64 lo, .int .i64 hi]] w fun e w' => ∃ A' c', e = .returned (.tuple #[.slice A' k_ c', .int .i64 0]) ∧ k_ ≤ c' ∧ c' ≤ 9223372036854775807 ∧ OwnX rcells 2 w' w.heap.size 116 A' c' R ∧ Below w.heap.size w w' := by
  have HN := Lib.hid hn
  have HL := Lib.hid hl
  have HR := Lib.hid hr
  have HRR := Lib.hid hR
  have HK := Lib.hid hk
  clear hn hl hr hR hk
  go_enter Tryz.func169, Tryz.ntmps169
  go_wp2_with fail
  refine (rFault_ok A n c l HN.out HL.out hnc hcm lo hi h0 h1 h2 _ (HR.out.alloc _)).mono ?_
  rintro e w1 ⟨rfl, hb1⟩
  have hB := (Blk.new w 116 #[.int .i64 lo, .int .i64 hi]).carry hb1
  have hb : Below w.heap.size w w1 := ((Below.refl _ _).alloc (Nat.le_refl _) _).trans (hb1.mono (by simp))
  have hg := hB.lt
  clear hb1
  go_wp2_with fail
  go_loopw [7, 8, 19] (fun out put i wr => ∃ (k : Nat) (r1 r2 : Int) (p : Bool) (A' : Option Addr) (m c' : Nat) (xs : List Rng), k ≤ n ∧ i = .int .i64 k ∧ put = .bool p ∧ out = .slice A' m c' ∧ xs.length = m ∧ m ≤ 2 * k ∧
      Hid (xs ++ addR (l.drop k) (r1, r2) p = R) ∧ 0 ≤ r1 ∧ r1 ≤ r2 ∧ r2 ≤ 4611686018427387903 ∧ Blk wr w.heap.size 116 #[.int .i64 r1, .int .i64 r2] ∧ OwnX rcells 2 wr (w.heap.size + 1) 116 A' c' xs ∧ Below w.heap.size w wr) (fun _ _ i _ => n - (intOf i).toNat)
  case atStart => exact ⟨0, lo, hi, false, none, 0, 0, [], Nat.zero_le _, rfl, rfl, rfl, rfl, by decide, HRR.out, h0, h1, h2, hB, OwnX.nil _ _ _, hb⟩
  case round =>
    obtain ⟨k, r1, r2, p, A', m, c', xs, hk, rfl, rfl, rfl, hm, hmk, HX, q0, q1, q2, hB, hown, hb⟩ := hrel
    have HM := Lib.hid hm
    have HO := Lib.hid hown
    clear hm hown
    by_cases hlt : k < n
    · have hlen := HN.out
      obtain ⟨b, off, rfl, hcell⟩ := (RdX.below HR.out hb).rcell (by omega)
      obtain ⟨c0, c1⟩ := hcell k (by omega)
      obtain ⟨g0, g1, g2⟩ := goodFrom_at HL.out (by decide) k (by omega)
      have HX2 : Hid (xs ++ (let x := l.getD k (0, 0)
         if x.2 + 1 < r1 then x :: addR (l.drop (k + 1)) (r1, r2) p
         else if r2 + 1 < x.1 then (if p then x :: addR (l.drop (k + 1)) (r1, r2) p else (r1, r2) :: x :: addR (l.drop (k + 1)) (r1, r2) true)
         else addR (l.drop (k + 1)) (min r1 x.1, max r2 x.2) p) = R) := by
        have := HX.out; rw [addR_at l k (by omega)] at this; exact this
      obtain ⟨x1, x2, hx⟩ : ∃ x1 x2, l.getD k (0, 0) = (x1, x2) := ⟨_, _, rfl⟩
      rw [hx] at c0 c1 g0 g1 g2 HX2
      replace g0 : 0 ≤ x1 := g0
      replace g1 : x1 ≤ x2 := g1
      replace g2 : x2 ≤ 4611686018427387903 := g2
      clear hx HX hlen hcell
      have FB := hB.two
      have hgl := hB.lt
      by_cases h3 : x2 + 1 < r1
      · have HX3 : Hid ((xs ++ [(x1, x2)]) ++ addR (l.drop (k + 1)) (r1, r2) p = R) := by
          have := HX2.out; simp only [if_pos h3] at this; rw [List.append_assoc]; exact this
        clear HX2
        go_wp2_with (at_builtin
                     refine wpList_appX rcells 2 rcells_one _ rfl (.tmp 41) (.tmp 43) _ rfl (w.heap.size + 1) 116 _ 16 Tryz.underlying32 rngInfo rfl (by decide) (by decide) A' m c' xs rfl HM.out ((HO.out.alloc _).alloc _) _ 1 1 [(x1, x2)] rfl rfl (RdX.oneH _ _ (x1, x2) _ rfl rfl (by simp)) _ rfl (m + 1) rfl (by omega) (by simp; omega) ?_
                     intro A1 c2 w1 hO1 hc1 hc1' hb1 hgr1)
        have hBn : Blk w1 w.heap.size 116 #[.int .i64 r1, .int .i64 r2] := ((hB.alloc _).alloc _).below hb1 (by omega)
        have hbn := ((hb.alloc hb.size _).alloc (by simp; omega) _).trans (hb1.mono (by omega))
        clear FB hB hb hb1 c0 c1 HO
        go_wp2_with fail
        go_roundw
        case rel => exact ⟨k + 1, r1, r2, p, A1, m + 1, c2, xs ++ [(x1, x2)], by omega, by go_num, rfl, rfl, by simp [HM.out], by omega, HX3, q0, q1, q2, hBn, hO1, hbn⟩
        case measure => simp [intOf]; omega
      · by_cases h4 : r2 + 1 < x1
        · cases p
          · have HX3 : Hid (((xs ++ [(r1, r2)]) ++ [(x1, x2)]) ++ addR (l.drop (k + 1)) (r1, r2) true = R) := by
              have := HX2.out; simp only [if_neg h3, if_pos h4] at this; rw [List.append_assoc, List.append_assoc]; exact this
            clear HX2
            have hl1 : (xs ++ [(r1, r2)]).length = m + 1 := by simp [HM.out]
            have HL1 := Lib.hid hl1
            clear hl1
            go_wp2_with (first
              | (at_builtin
                 refine wpList_appX rcells 2 rcells_one _ rfl (.tmp 54) (.tmp 56) _ rfl (w.heap.size + 1) 116 _ 16 Tryz.underlying32 rngInfo rfl (by decide) (by decide) A' m c' xs rfl HM.out ((HO.out.alloc _).alloc _) _ 1 1 [(r1, r2)] rfl rfl (RdX.oneH _ _ (r1, r2) _ rfl rfl (by simp)) _ rfl (m + 1) rfl (by omega) (by simp; omega) ?_
                 intro A1 c2 w1 hO1 hc1 hc1' hb1 hgr1
                 have FX := (((Blk.new wr 116 #[.int .i64 x1, .int .i64 x2]).alloc _).grown hgr1 (fun h => (by have := (HO.out.lt _ h.symm).2; omega))).two
                 have HO1 := Lib.hid hO1
                 have hgx := hb1.size
                 simp at hgx
                 clear hO1)
              | (at_builtin
                 refine wpList_appX rcells 2 rcells_one _ rfl (.tmp 58) (.tmp 60) _ rfl (w.heap.size + 1) 116 _ 16 Tryz.underlying32 rngInfo rfl (by decide) (by decide) A1 (m + 1) c2 (xs ++ [(r1, r2)]) rfl HL1.out (HO1.out.alloc _) _ 1 1 [(x1, x2)] rfl rfl (RdX.oneH _ _ (x1, x2) _ rfl rfl (by simp)) _ rfl ((m + 1) + 1) rfl (by omega) (by simp; omega) ?_
                 intro A3 c3 w3 hO3 hc3 hc3' hb3 hgr3))
            have hBn : Blk w1 w.heap.size 116 #[.int .i64 r1, .int .i64 r2] := ((hB.alloc _).alloc _).below hb1 (by omega)
            have hbn := ((hb.alloc hb.size _).alloc (by simp; omega) _).trans (hb1.mono (by omega))
            clear FB hB hb hb1 c0 c1 HO
            have hBm : Blk w3 w.heap.size 116 #[.int .i64 r1, .int .i64 r2] := (hBn.alloc _).below hb3 (by omega)
            have hbm := (hbn.alloc hbn.size _).trans (hb3.mono (by omega))
            clear hbn hb3
            go_wp2_with fail
            go_roundw
            case rel => exact ⟨k + 1, r1, r2, true, A3, m + 1 + 1, c3, _, by omega, by go_num, rfl, rfl, by simp [HM.out], by omega, HX3, q0, q1, q2, hBm, hO3, hbm⟩
            case measure => simp [intOf]; omega
          · have HX3 : Hid ((xs ++ [(x1, x2)]) ++ addR (l.drop (k + 1)) (r1, r2) true = R) := by
              have := HX2.out; simp only [if_neg h3, if_pos h4, if_true] at this; rw [List.append_assoc]; exact this
            clear HX2
            go_wp2_with (at_builtin
                         refine wpList_appX rcells 2 rcells_one _ rfl (.tmp 58) (.tmp 60) _ rfl (w.heap.size + 1) 116 _ 16 Tryz.underlying32 rngInfo rfl (by decide) (by decide) A' m c' xs rfl HM.out ((HO.out.alloc _).alloc _) _ 1 1 [(x1, x2)] rfl rfl (RdX.oneH _ _ (x1, x2) _ rfl rfl (by simp)) _ rfl (m + 1) rfl (by omega) (by simp; omega) ?_
                         intro A1 c2 w1 hO1 hc1 hc1' hb1 hgr1)
            have hBn : Blk w1 w.heap.size 116 #[.int .i64 r1, .int .i64 r2] := ((hB.alloc _).alloc _).below hb1 (by omega)
            have hbn := ((hb.alloc hb.size _).alloc (by simp; omega) _).trans (hb1.mono (by omega))
            clear FB hB hb hb1 c0 c1 HO
            go_wp2_with fail
            go_roundw
            case rel => exact ⟨k + 1, r1, r2, true, A1, m + 1, c2, xs ++ [(x1, x2)], by omega, by go_num, rfl, rfl, by simp [HM.out], by omega, HX3, q0, q1, q2, hBn, hO1, hbn⟩
            case measure => simp [intOf]; omega
        · have HX3 : Hid (xs ++ addR (l.drop (k + 1)) (min r1 x1, max r2 x2) p = R) := by
            have := HX2.out; simp only [if_neg h3, if_neg h4] at this; exact this
          have hmn : (if x1 < r1 then x1 else r1) = min r1 x1 := by split <;> omega
          have hmx : (if r2 < x2 then x2 else r2) = max r2 x2 := by split <;> omega
          have hb01 : 0 ≤ min r1 x1 ∧ min r1 x1 ≤ max r2 x2 ∧ max r2 x2 ≤ 4611686018427387903 := by omega
          generalize min r1 x1 = y1 at *
          generalize max r2 x2 = y2 at *
          clear HX2
          go_wp2_with fail
          go_roundw
          case rel => exact ⟨k + 1, y1, y2, p, A', m, c', xs, by omega, by go_num, rfl, rfl, HM.out, by omega, HX3, hb01.1, hb01.2.1, hb01.2.2, (hB.set2 _ _).alloc _, ((HO.out.set_below (by simp) _).set_below (by simp) _).alloc _, ((hb.setCell (Nat.le_refl _) _).setCell (Nat.le_refl _) _).alloc (by have := hb.size; simpa using this) _⟩
          case measure => simp [intOf]; omega
    · obtain rfl : k = n := by omega
      have hd : l.drop k = [] := List.drop_of_length_le (by have := HN.out; omega)
      have HXe : Hid (xs ++ (if p then [] else [(r1, r2)]) = R) := by have := HX.out; rw [hd] at this; cases p <;> exact this
      have FB := hB.two
      have hgl := hB.lt
      clear HX hd
      cases p
      · go_wp2_with (at_builtin
                     refine wpList_appX rcells 2 rcells_one _ rfl (.tmp 65) (.tmp 67) _ rfl (w.heap.size + 1) 116 _ 16 Tryz.underlying32 rngInfo rfl (by decide) (by decide) A' m c' xs rfl HM.out (HO.out.alloc _) _ 1 1 [(r1, r2)] rfl rfl (RdX.oneH _ _ (r1, r2) _ rfl rfl (by simp)) _ rfl (m + 1) rfl (by omega) (by simp; omega) ?_
                     intro A1 c2 w1 hO1 hc1 hc1' hb1 hgr1)
        have hR : xs ++ [(r1, r2)] = R := HXe.out
        have hkk := HK.out
        rw [← hR] at hkk
        have hkm : m + 1 = k_ := by have := HM.out; simp at hkk; omega
        subst hkm
        rw [hR] at hO1
        go_ret2
        exact ⟨A1, c2, rfl, hc1, hc1', hO1.mono (by omega), (hb.alloc hb.size _).trans (hb1.mono (by omega))⟩
      · have hR : xs = R := by have := HXe.out; simpa using this
        have hkk := HK.out
        have hkm : m = k_ := by have := HM.out; rw [hR] at this; omega
        subst hkm
        have hO := HO.out
        rw [hR] at hO
        have hcp := hO.cap
        rw [hkk] at hcp
        have HO2 := Lib.hid hO
        clear hO hR hkk
        go_wp2_with fail
        go_ret2
        exact ⟨A', c', rfl, hcp.1, hcp.2, HO2.out.mono (by omega), hb⟩
end Go.Proofs.YtbcagdjfegobnaaGreat
/- The contract of ranges.Cut. -/
namespace Go.Proofs.YtbcagdjfegobnaaGreat
open Go.ChangeShapes Go.WideShapes Go.ChangeAt Go.RowKit
set_option linter.unusedVariables false

theorem cutR_at (l : List Rng) (k : Nat) (hk : k < l.length) (r : Rng) : cutR (l.drop k) r =
    (let x := l.getD k (0, 0)
     (if x.1 < r.1 then [(x.1, min x.2 (r.1 - 1))] else []) ++ ((if r.2 < x.2 then [(max x.1 (r.2 + 1), x.2)] else []) ++ cutR (l.drop (k + 1)) r)) := by
  rw [List.drop_eq_getElem_cons hk, show l.getD k (0, 0) = l[k] from by simp [List.getD, hk]]
  rfl

set_option maxRecDepth 100000 in
set_option maxHeartbeats 1000000 in
theorem rCut_own (A : Option Addr) (n c : Nat) (l : List Rng) (hn : l.length = n) (hl : goodFrom 0 l) (hnc : n ≤ c) (hcm : c ≤ 9223372036854775807) (hnb : n ≤ 1000000) (lo hi : Int) (h0 : 0 ≤ lo) (h1 : lo ≤ hi) (h2 : hi ≤ 4611686018427387903)
    (R : List Rng) (k_ : Nat) (hR : cutR l (lo, hi) = R) (hk : R.length = k_) (w : World) (hr : RdX rcells 2 w A l) :
    Calls Tryz.prog 186 #[.slice A n c, .agg #[.int .i64 lo, .int .i64 hi]] w fun e w' => ∃ A' c', e = .returned (.tuple #[.slice A' k_ c', .int .i64 0]) ∧ k_ ≤ c' ∧ c' ≤ 9223372036854775807 ∧ OwnX rcells 2 w' w.heap.size 116 A' c' R ∧ Below w.heap.size w w' := by
  have HN := Lib.hid hn
  have HL := Lib.hid hl
  have HR := Lib.hid hr
  have HRR := Lib.hid hR
  have HK := Lib.hid hk
  clear hn hl hr hR hk
  go_enter Tryz.func186, Tryz.ntmps186
  go_wp2_with fail
  refine (rFault_ok A n c l HN.out HL.out hnc hcm lo hi h0 h1 h2 _ (HR.out.alloc _)).mono ?_
  rintro e w1 ⟨rfl, hb1⟩
  have hB := (Blk.new w 116 #[.int .i64 lo, .int .i64 hi]).carry hb1
  have hb : Below w.heap.size w w1 := ((Below.refl _ _).alloc (Nat.le_refl _) _).trans (hb1.mono (by simp))
  clear hb1
  go_wp2_with fail
  go_loopw [7, 18] (fun out i wr => ∃ (k : Nat) (A' : Option Addr) (m c' : Nat) (xs : List Rng), k ≤ n ∧ i = .int .i64 k ∧ out = .slice A' m c' ∧ xs.length = m ∧ m ≤ 2 * k ∧
      Hid (xs ++ cutR (l.drop k) (lo, hi) = R) ∧ Blk wr w.heap.size 116 #[.int .i64 lo, .int .i64 hi] ∧ OwnX rcells 2 wr (w.heap.size + 1) 116 A' c' xs ∧ Below w.heap.size w wr) (fun _ i _ => n - (intOf i).toNat)
  case atStart => exact ⟨0, none, 0, 0, [], Nat.zero_le _, rfl, rfl, rfl, by decide, HRR.out, hB, OwnX.nil _ _ _, hb⟩
  case round =>
    obtain ⟨k, A', m, c', xs, hk, rfl, rfl, hm, hmk, HX, hB, hown, hb⟩ := hrel
    have HM := Lib.hid hm
    have HO := Lib.hid hown
    clear hm hown
    by_cases hlt : k < n
    · have hlen := HN.out
      obtain ⟨b, off, rfl, hcell⟩ := (RdX.below HR.out hb).rcell (by omega)
      obtain ⟨c0, c1⟩ := hcell k (by omega)
      obtain ⟨g0, g1, g2⟩ := goodFrom_at HL.out (by decide) k (by omega)
      have HX2 : Hid (xs ++ (let x := l.getD k (0, 0)
         (if x.1 < lo then [(x.1, min x.2 (lo - 1))] else []) ++ ((if hi < x.2 then [(max x.1 (hi + 1), x.2)] else []) ++ cutR (l.drop (k + 1)) (lo, hi))) = R) := by
        have := HX.out; rw [cutR_at l k (by omega)] at this; exact this
      obtain ⟨x1, x2, hx⟩ : ∃ x1 x2, l.getD k (0, 0) = (x1, x2) := ⟨_, _, rfl⟩
      rw [hx] at c0 c1 g0 g1 g2 HX2
      replace g0 : 0 ≤ x1 := g0
      replace g1 : x1 ≤ x2 := g1
      replace g2 : x2 ≤ 4611686018427387903 := g2
      clear hx HX hlen hcell
      have FB := hB.two
      have hgl := hB.lt
      obtain ⟨mn, hmn, hmn2⟩ : ∃ mn, (if lo - 1 < x2 then lo - 1 else x2) = mn ∧ min x2 (lo - 1) = mn := ⟨_, rfl, by split <;> omega⟩
      obtain ⟨mx, hmx, hmx2⟩ : ∃ mx, (if x1 < hi + 1 then hi + 1 else x1) = mx ∧ max x1 (hi + 1) = mx := ⟨_, rfl, by split <;> omega⟩
      simp only [hmn2, hmx2] at HX2
      clear hmn2 hmx2
      by_cases h3 : x1 < lo
      · by_cases h4 : hi < x2
        · obtain rfl : mn = lo - 1 := by rw [← hmn, if_pos (by omega)]
          obtain rfl : mx = hi + 1 := by rw [← hmx, if_pos (by omega)]
          clear hmn hmx
          have HX3 : Hid (((xs ++ [(x1, lo - 1)]) ++ [(hi + 1, x2)]) ++ cutR (l.drop (k + 1)) (lo, hi) = R) := by
            have := HX2.out; simp only [if_pos h3, if_pos h4] at this; unfold Hid; simpa [List.append_assoc] using this
          clear HX2
          have hl1 : (xs ++ [(x1, lo - 1)]).length = m + 1 := by simp [HM.out]
          have HL1 := Lib.hid hl1
          clear hl1
          go_wp2_with (first
              | (at_builtin
                 refine wpList_appX rcells 2 rcells_one _ rfl (.tmp 27) (.tmp 37) _ rfl (w.heap.size + 1) 116 _ 16 Tryz.underlying32 rngInfo rfl (by decide) (by decide) A' m c' xs rfl HM.out ((HO.out.alloc _).alloc _) _ 1 1 [(x1, lo - 1)] rfl rfl (RdX.oneH _ _ (x1, lo - 1) _ rfl rfl (by simp)) _ rfl (m + 1) rfl (by omega) (by simp; omega) ?_
                 intro A1 c2 w1 hO1 hc1 hc1' hb1 hgr1
                 have FX := (((Blk.new wr 116 #[.int .i64 x1, .int .i64 x2]).alloc _).grown hgr1 (fun h => (by have := (HO.out.lt _ h.symm).2; omega))).two
                 have FB1 := (((hB.alloc _).alloc _).below hb1 (by omega)).two
                 have HO1 := Lib.hid hO1
                 have hgx := hb1.size
                 simp at hgx
                 clear hO1)
              | (at_builtin
                 refine wpList_appX rcells 2 rcells_one _ rfl (.tmp 44) (.tmp 54) _ rfl (w.heap.size + 1) 116 _ 16 Tryz.underlying32 rngInfo rfl (by decide) (by decide) A1 (m + 1) c2 (xs ++ [(x1, lo - 1)]) rfl HL1.out (HO1.out.alloc _) _ 1 1 [(hi + 1, x2)] rfl rfl (RdX.oneH _ _ (hi + 1, x2) _ rfl rfl (by simp)) _ rfl ((m + 1) + 1) rfl (by omega) (by simp; omega) ?_
                 intro A3 c3 w3 hO3 hc3 hc3' hb3 hgr3))
          have hBn : Blk w1 w.heap.size 116 #[.int .i64 lo, .int .i64 hi] := ((hB.alloc _).alloc _).below hb1 (by omega)
          have hbn := ((hb.alloc hb.size _).alloc (by simp; omega) _).trans (hb1.mono (by omega))
          have hBm : Blk w3 w.heap.size 116 #[.int .i64 lo, .int .i64 hi] := (hBn.alloc _).below hb3 (by omega)
          have hbm := (hbn.alloc hbn.size _).trans (hb3.mono (by omega))
          clear FB FB1 FX hB hb hb1 c0 c1 HO hbn hb3
          go_wp2_with fail
          go_roundw
          case rel => exact ⟨k + 1, A3, m + 1 + 1, c3, _, by omega, by go_num, rfl, by simp [HM.out], by omega, HX3, hBm, hO3, hbm⟩
          case measure => simp [intOf]; omega
        · skip
          have HX3 : Hid ((xs ++ [(x1, mn)]) ++ cutR (l.drop (k + 1)) (lo, hi) = R) := by
            have := HX2.out; simp only [if_pos h3, if_neg h4] at this; unfold Hid; simpa [List.append_assoc] using this
          clear HX2
          go_wp2_with (first
              | (at_builtin
                 refine wpList_appX rcells 2 rcells_one _ rfl (.tmp 27) (.tmp 37) _ rfl (w.heap.size + 1) 116 _ 16 Tryz.underlying32 rngInfo rfl (by decide) (by decide) A' m c' xs rfl HM.out ((HO.out.alloc _).alloc _) _ 1 1 [(x1, mn)] rfl rfl (RdX.oneH _ _ (x1, mn) _ rfl rfl (by simp)) _ rfl (m + 1) rfl (by omega) (by simp; omega) ?_
                 intro A1 c2 w1 hO1 hc1 hc1' hb1 hgr1
                 have FX := (((Blk.new wr 116 #[.int .i64 x1, .int .i64 x2]).alloc _).grown hgr1 (fun h => (by have := (HO.out.lt _ h.symm).2; omega))).two
                 have FB1 := (((hB.alloc _).alloc _).below hb1 (by omega)).two
                 have HO1 := Lib.hid hO1
                 clear hO1))
          have hBn : Blk w1 w.heap.size 116 #[.int .i64 lo, .int .i64 hi] := ((hB.alloc _).alloc _).below hb1 (by omega)
          have hbn := ((hb.alloc hb.size _).alloc (by simp; omega) _).trans (hb1.mono (by omega))
          clear FB FB1 FX hB hb hb1 c0 c1 HO
          go_wp2_with fail
          go_roundw
          case rel => exact ⟨k + 1, A1, m + 1, c2, _, by omega, by go_num, rfl, by simp [HM.out], by omega, HX3, hBn, HO1.out, hbn⟩
          case measure => simp [intOf]; omega
      · by_cases h4 : hi < x2
        · skip
          have HX3 : Hid ((xs ++ [(mx, x2)]) ++ cutR (l.drop (k + 1)) (lo, hi) = R) := by
            have := HX2.out; simp only [if_neg h3, if_pos h4] at this; unfold Hid; simpa [List.append_assoc] using this
          clear HX2
          go_wp2_with (first
              | (at_builtin
                 refine wpList_appX rcells 2 rcells_one _ rfl (.tmp 44) (.tmp 54) _ rfl (w.heap.size + 1) 116 _ 16 Tryz.underlying32 rngInfo rfl (by decide) (by decide) A' m c' xs rfl HM.out ((HO.out.alloc _).alloc _) _ 1 1 [(mx, x2)] rfl rfl (RdX.oneH _ _ (mx, x2) _ rfl rfl (by simp)) _ rfl (m + 1) rfl (by omega) (by simp; omega) ?_
                 intro A1 c2 w1 hO1 hc1 hc1' hb1 hgr1
                 have FX := (((Blk.new wr 116 #[.int .i64 x1, .int .i64 x2]).alloc _).grown hgr1 (fun h => (by have := (HO.out.lt _ h.symm).2; omega))).two
                 have FB1 := (((hB.alloc _).alloc _).below hb1 (by omega)).two
                 have HO1 := Lib.hid hO1
                 clear hO1))
          have hBn : Blk w1 w.heap.size 116 #[.int .i64 lo, .int .i64 hi] := ((hB.alloc _).alloc _).below hb1 (by omega)
          have hbn := ((hb.alloc hb.size _).alloc (by simp; omega) _).trans (hb1.mono (by omega))
          clear FB FB1 FX hB hb hb1 c0 c1 HO
          go_wp2_with fail
          go_roundw
          case rel => exact ⟨k + 1, A1, m + 1, c2, _, by omega, by go_num, rfl, by simp [HM.out], by omega, HX3, hBn, HO1.out, hbn⟩
          case measure => simp [intOf]; omega
        · skip
          have HX3 : Hid (xs ++ cutR (l.drop (k + 1)) (lo, hi) = R) := by
            have := HX2.out; simp only [if_neg h3, if_neg h4] at this; unfold Hid; simpa [List.append_assoc] using this
          clear HX2
          go_wp2_with fail
          go_roundw
          case rel => exact ⟨k + 1, A', m, c', xs, by omega, by go_num, rfl, HM.out, by omega, HX3, hB.alloc _, HO.out.alloc _, hb.alloc hb.size _⟩
          case measure => simp [intOf]; omega
    · obtain rfl : k = n := by omega
      have hd : l.drop k = [] := List.drop_of_length_le (by have := HN.out; omega)
      have hR : xs = R := by have := HX.out; rw [hd] at this; simpa [cutR] using this
      have hkk := HK.out
      have hkm : m = k_ := by have := HM.out; rw [hR] at this; omega
      subst hkm
      have hO := HO.out
      rw [hR] at hO
      have hcp := hO.cap
      rw [hkk] at hcp
      have HO2 := Lib.hid hO
      clear hO hR hkk HX hd HO
      go_wp2_with fail
      go_ret2
      exact ⟨A', c', rfl, hcp.1, hcp.2, HO2.out.mono (by omega), hb⟩
end Go.Proofs.YtbcagdjfegobnaaGreat
/- The contracts of ranges.Has, and of the laws' has, sameRanges, rangesTell. -/
namespace Go.Proofs.YtbcagdjfegobnaaGreat
open Go.ChangeShapes Go.WideShapes Go.ChangeAt Go.RowKit
set_option linter.unusedVariables false

/-- Is a number in one of the ranges? -/
def hasB (l : List Rng) (n : Int) : Bool := l.any fun x => decide (x.1 ≤ n ∧ n ≤ x.2)
theorem hasB_iff (l : List Rng) (n : Int) : hasB l n = true ↔ memR l n := by
  simp [hasB, memR]
theorem hasB_congr {l m : List Rng} {a b : Int} (h : memR l a ↔ memR m b) : hasB l a = hasB m b := by
  rw [Bool.eq_iff_iff, hasB_iff, hasB_iff, h]
theorem hasB_take (l : List Rng) (k : Nat) (n : Int) (hk : k < l.length) : hasB (l.take (k + 1)) n = (hasB (l.take k) n || decide ((l.getD k (0, 0)).1 ≤ n ∧ n ≤ (l.getD k (0, 0)).2)) := by
  rw [List.take_succ_eq_append_getElem hk, hasB, hasB, List.any_append]
  simp [List.getD, hk]
theorem hasB_of_take {l : List Rng} {k : Nat} {n : Int} (h : hasB (l.take k) n = true) : hasB l n = true := by
  rw [hasB_iff] at h ⊢
  obtain ⟨x, hx, h1⟩ := h
  exact ⟨x, List.mem_of_mem_take hx, h1⟩

set_option maxRecDepth 100000 in
theorem rHas_any (A : Option Addr) (n c : Nat) (l : List Rng) (hn : l.length = n) (hl : goodFrom 0 l) (hnc : n ≤ c) (hcm : c ≤ 9223372036854775807) (v : Int) (B : Bool) (hB : hasB l v = B) (w : World) (hr : RdX rcells 2 w A l) :
    Calls Tryz.prog 168 #[.slice A n c, .int .i64 v] w fun e w' => e = .returned (.tuple #[.bool B, .int .i64 0]) ∧ Below w.heap.size w w' := by
  have HN := Lib.hid hn
  have HL := Lib.hid hl
  have HR := Lib.hid hr
  have HB := Lib.hid hB
  clear hn hl hr hB
  go_enter Tryz.func168, Tryz.ntmps168
  go_wp2_with fail
  refine (rCheck_ok A n c l HN.out HL.out hnc hcm _ HR.out).mono ?_
  rintro e w1 ⟨rfl, hb⟩
  go_wp2_with fail
  go_loopw [16] (fun i wr => ∃ k : Nat, k ≤ n ∧ i = .int .i64 k ∧ Hid (hasB (l.take k) v = false) ∧ Below w.heap.size w wr) (fun i _ => n - (intOf i).toNat)
  case atStart => exact ⟨0, Nat.zero_le _, rfl, rfl, hb⟩
  case round =>
    obtain ⟨k, hk, rfl, HT, hb⟩ := hrel
    by_cases hlt : k < n
    · have hlen := HN.out
      obtain ⟨b, off, rfl, hcell⟩ := (RdX.below HR.out hb).rcell (by omega)
      obtain ⟨c0, c1⟩ := hcell k (by omega)
      have HK := Lib.hid (hasB_take l k v (by omega))
      obtain ⟨x1, x2, hx⟩ : ∃ x1 x2, l.getD k (0, 0) = (x1, x2) := ⟨_, _, rfl⟩
      rw [hx] at c0 c1 HK
      clear hx hlen hcell
      by_cases h1 : x1 ≤ v ∧ v ≤ x2
      · obtain ⟨h1, h2⟩ := h1
        have hBt : B = true := by
          rw [← HB.out]; refine hasB_of_take (k := k + 1) ?_
          rw [HK.out]; simp [h1, h2]
        subst hBt
        go_wp2_with fail
        go_ret2
        exact ⟨rfl, hb.alloc hb.size _⟩
      · have HT2 : Hid (hasB (l.take (k + 1)) v = false) := by
          have := HK.out; rw [HT.out] at this; unfold Hid; rw [this]; simp; omega
        rcases (by omega : ¬ x1 ≤ v ∨ (x1 ≤ v ∧ ¬ v ≤ x2)) with h2 | ⟨h2, h3⟩
        all_goals
          clear h1
          go_wp2_with fail
          go_roundw
          case rel => exact ⟨k + 1, by omega, by go_num, HT2, hb.alloc hb.size _⟩
          case measure => simp [intOf]; omega
    · obtain rfl : k = n := by omega
      have hBt : B = false := by
        rw [← HB.out, ← HT.out, List.take_of_length_le (by have := HN.out; omega)]
      subst hBt
      go_wp2_with fail
      go_ret2
      exact ⟨rfl, hb⟩
end Go.Proofs.YtbcagdjfegobnaaGreat
/- The contracts of set, sameRanges, rangesTell. -/
namespace Go.Proofs.YtbcagdjfegobnaaGreat
open Go.ChangeShapes Go.WideShapes Go.ChangeAt Go.RowKit
set_option linter.unusedVariables false

/-- A good set of numbers up to M. -/
def SetOk (l : List Rng) (M : Int) : Prop := goodFrom 0 l ∧ ∀ n, memR l n → n ≤ M
theorem good_len {b M : Int} {l : List Rng} (h : goodFrom b l) (hM : ∀ n, memR l n → n ≤ M) (hb : b ≤ M + 2) : 2 * (l.length : Int) ≤ M - b + 2 := by
  induction l generalizing b with
  | nil => simp; omega
  | cons x l ih =>
    obtain ⟨h1, h2, h3, h4⟩ := h
    have hx := hM x.2 ((memR_cons x l _).2 (.inl ⟨h2, Int.le_refl _⟩))
    have := ih h4 (fun n hn => hM n ((memR_cons x l _).2 (.inr hn))) (by omega)
    simp only [List.length_cons]; omega
theorem SetOk.len {l : List Rng} {M : Int} (h : SetOk l M) (hM : 0 ≤ M) : 2 * (l.length : Int) ≤ M + 2 := by
  have := good_len h.1 h.2 (by omega); omega
theorem SetOk.nil (M : Int) : SetOk [] M := ⟨trivial, fun n hn => absurd hn (memR_nil n)⟩
theorem SetOk.add {l : List Rng} {M : Int} (h : SetOk l M) (lo hi : Int) (h0 : 0 ≤ lo) (h1 : lo ≤ hi) (h2 : hi ≤ M) (hM : M ≤ 4611686018427387903) : SetOk (addR l (lo, hi) false) M := by
  refine ⟨addR_good h.1 (lo, hi) h0 h1 (by show hi ≤ _; omega), fun n hn => ?_⟩
  rcases (addR_mem h.1 (lo, hi) h1 n).1 hn with h3 | h3
  · exact h.2 n h3
  · have : n ≤ hi := h3.2
    omega
theorem SetOk.cut {l : List Rng} {M : Int} (h : SetOk l M) (lo hi : Int) (h1 : lo ≤ hi) : SetOk (cutR l (lo, hi)) M :=
  ⟨cutR_good h.1 (lo, hi) h1 0 (Int.le_refl _), fun n hn => h.2 n ((cutR_mem l (lo, hi) h1 n).1 hn).1⟩
theorem SetOk.mono {l : List Rng} {M N : Int} (h : SetOk l M) (hMN : M ≤ N) : SetOk l N := ⟨h.1, fun n hn => by have := h.2 n hn; omega⟩

theorem rAdd_rd (A : Option Addr) (n c : Nat) (l : List Rng) (hn : l.length = n) (hl : goodFrom 0 l) (hnc : n ≤ c) (hcm : c ≤ 9223372036854775807) (hnb : n ≤ 1000000) (lo hi : Int) (h0 : 0 ≤ lo) (h1 : lo ≤ hi) (h2 : hi ≤ 4611686018427387903)
    (R : List Rng) (k_ : Nat) (hR : addR l (lo, hi) false = R) (hk : R.length = k_) (w : World) (hr : RdX rcells 2 w A l) :
    Calls Tryz.prog 169 #[.slice A n c, .agg #[.int .i64 lo, .int .i64 hi]] w fun e w' => ∃ A' c', e = .returned (.tuple #[.slice A' k_ c', .int .i64 0]) ∧ k_ ≤ c' ∧ c' ≤ 9223372036854775807 ∧ RdX rcells 2 w' A' R ∧ Below w.heap.size w w' :=
  (rAdd_own A n c l hn hl hnc hcm hnb lo hi h0 h1 h2 R k_ hR hk w hr).mono fun e w' ⟨A', c', he, hc, hc', ho, hb⟩ => ⟨A', c', he, hc, hc', ho.rd, hb⟩
theorem rCut_rd (A : Option Addr) (n c : Nat) (l : List Rng) (hn : l.length = n) (hl : goodFrom 0 l) (hnc : n ≤ c) (hcm : c ≤ 9223372036854775807) (hnb : n ≤ 1000000) (lo hi : Int) (h0 : 0 ≤ lo) (h1 : lo ≤ hi) (h2 : hi ≤ 4611686018427387903)
    (R : List Rng) (k_ : Nat) (hR : cutR l (lo, hi) = R) (hk : R.length = k_) (w : World) (hr : RdX rcells 2 w A l) :
    Calls Tryz.prog 186 #[.slice A n c, .agg #[.int .i64 lo, .int .i64 hi]] w fun e w' => ∃ A' c', e = .returned (.tuple #[.slice A' k_ c', .int .i64 0]) ∧ k_ ≤ c' ∧ c' ≤ 9223372036854775807 ∧ RdX rcells 2 w' A' R ∧ Below w.heap.size w w' :=
  (rCut_own A n c l hn hl hnc hcm hnb lo hi h0 h1 h2 R k_ hR hk w hr).mono fun e w' ⟨A', c', he, hc, hc', ho, hb⟩ => ⟨A', c', he, hc, hc', ho.rd, hb⟩

end Go.Proofs.YtbcagdjfegobnaaGreat
/- The contract of ranges.Note. -/
namespace Go.Proofs.YtbcagdjfegobnaaGreat
open Go.ChangeShapes Go.WideShapes Go.ChangeAt Go.RowKit
set_option linter.unusedVariables false

/-- Note, as_v the code does it. -/
def noteR (l : List Rng) (n : Int) : List Rng := (addR l (n, n) false).drop ((addR l (n, n) false).length - 6)
theorem goodFrom_drop {b : Int} {l : List Rng} (h : goodFrom b l) (j : Nat) : goodFrom b (l.drop j) := by
  induction l generalizing b j with
  | nil => simpa using h
  | cons x l ih =>
    cases j with
    | zero => exact h
    | succ j => exact goodFrom_mono (ih h.2.2.2 j) (by have := h.1; have := h.2.1; omega)
theorem goodFrom_apart {b : Int} {l m : List Rng} (h : goodFrom b (l ++ m)) (i j : Int) (hi : memR l i) (hj : memR m j) : i < j := by
  induction l generalizing b with
  | nil => exact absurd hi (memR_nil i)
  | cons x l ih =>
    rcases (memR_cons x l i).1 hi with h1 | h1
    · have := goodFrom_low h.2.2.2 j ((memR_append l m j).2 (.inr hj))
      omega
    · exact ih h.2.2.2 h1
theorem memR_drop {l : List Rng} {j : Nat} {n : Int} (h : memR (l.drop j) n) : memR l n := by
  obtain ⟨x, hx, h1⟩ := h
  exact ⟨x, List.mem_of_mem_drop hx, h1⟩
/-- The greatest number stays. -/
theorem memR_drop_top {l : List Rng} (hg : goodFrom 0 l) (j : Nat) (hj : j < l.length) (n : Int) (hn : memR l n) (hM : ∀ i, memR l i → i ≤ n) : memR (l.drop j) n := by
  have h0 := hn
  rw [← List.take_append_drop j l, memR_append] at h0
  rcases h0 with h0 | h0
  · have hg2 : goodFrom 0 (l.take j ++ l.drop j) := by rw [List.take_append_drop]; exact hg
    have hd : l.drop j = l[j] :: l.drop (j + 1) := List.drop_eq_getElem_cons hj
    have hgd := goodFrom_drop hg j
    rw [hd] at hgd
    have hm : memR (l.drop j) (l[j]).1 := by rw [hd]; exact (memR_cons _ _ _).2 (.inl ⟨Int.le_refl _, hgd.2.1⟩)
    have := goodFrom_apart hg2 n _ h0 hm
    have := hM _ (memR_drop hm)
    omega
  · exact h0
theorem addR_len (l : List Rng) (r : Rng) (put : Bool) : (addR l r put).length ≤ l.length + 1 ∧ (put = true → (addR l r put).length ≤ l.length) := by
  induction l generalizing r put with
  | nil => cases put <;> simp [addR]
  | cons x l ih =>
    rw [addR]
    by_cases c1 : x.2 + 1 < r.1
    · rw [if_pos c1]
      have := ih r put
      exact ⟨by simp; omega, fun h => by have := this.2 h; simp; omega⟩
    · rw [if_neg c1]
      by_cases c2 : r.2 + 1 < x.1
      · rw [if_pos c2]
        cases put
        · have := (ih r true).2 rfl
          exact ⟨by simp; omega, fun h => by cases h⟩
        · have := (ih r true).2 rfl
          exact ⟨by simp; omega, fun _ => by simp; omega⟩
      · rw [if_neg c2]
        have := ih (min r.1 x.1, max r.2 x.2) put
        exact ⟨by simp; omega, fun h => by have := this.2 h; simp; omega⟩
theorem noteR_len (l : List Rng) (n : Int) : (noteR l n).length ≤ 6 := by unfold noteR; rw [List.length_drop]; omega
theorem noteR_ok {l : List Rng} {M : Int} (h : SetOk l M) (n : Int) (h0 : 0 ≤ n) (h1 : n ≤ M) (hM : M ≤ 4611686018427387903) : SetOk (noteR l n) M := by
  have := h.add n n h0 (Int.le_refl _) h1 hM
  exact ⟨goodFrom_drop this.1 _, fun i hi => this.2 i (memR_drop hi)⟩
theorem noteR_top {l : List Rng} {M : Int} (h : SetOk l M) (n : Int) (h0 : 0 ≤ n) (h1 : M ≤ n) (hM : n ≤ 4611686018427387903) : memR (noteR l n) n := by
  have hg := addR_good h.1 (n, n) h0 (Int.le_refl _) hM
  have hn : memR (addR l (n, n) false) n := (addR_mem h.1 (n, n) (Int.le_refl _) n).2 (.inr ⟨Int.le_refl _, Int.le_refl _⟩)
  have hlen : 0 < (addR l (n, n) false).length := by
    rcases hn with ⟨x, hx, _⟩
    exact List.length_pos_of_mem hx
  refine memR_drop_top hg _ (by omega) n hn fun i hi => ?_
  rcases (addR_mem h.1 (n, n) (Int.le_refl _) i).1 hi with h2 | h2
  · have := h.2 i h2; omega
  · exact h2.2
/-- Noted once more, nothing changes. -/
theorem noteR_again {l : List Rng} {M : Int} (h : SetOk l M) (n : Int) (h0 : 0 ≤ n) (hM : n ≤ 4611686018427387903) (hn : memR l n) (hl : l.length ≤ 6) : noteR l n = l := by
  have hg := addR_good h.1 (n, n) h0 (Int.le_refl _) hM
  have e : addR l (n, n) false = l := goodFrom_same hg h.1 fun i => by
    rw [addR_mem h.1 (n, n) (Int.le_refl _) i]
    exact or_iff_left_of_imp fun hi => by obtain rfl : i = n := Int.le_antisymm hi.2 hi.1; exact hn
  unfold noteR
  rw [e, show l.length - 6 = 0 from by omega, List.drop_zero]

set_option maxRecDepth 100000 in
set_option maxHeartbeats 1000000 in
theorem rNote_own (A : Option Addr) (n c : Nat) (l : List Rng) (hn : l.length = n) (M : Int) (hl : SetOk l M) (hM0 : 0 ≤ M) (hM : M ≤ 4611686018427387903) (hnc : n ≤ c) (hcm : c ≤ 9223372036854775807) (hnb : n ≤ 1000000) (v : Int) (v0 : 0 ≤ v) (v1 : v ≤ 4611686018427387903)
    (B : Bool) (hB : hasB l v = B) (R : List Rng) (k_ : Nat) (hR : noteR l v = R) (hk : R.length = k_) (w : World) (hr : RdX rcells 2 w A l) :
    Calls Tryz.prog 142 #[.slice A n c, .int .i64 v] w fun e w' => ∃ A' c', e = .returned (.tuple #[.slice A' k_ c', .bool (!B), .int .i64 0]) ∧ k_ ≤ c' ∧ c' ≤ 9223372036854775807 ∧ OwnX rcells 2 w' w.heap.size 116 A' c' R ∧ Below w.heap.size w w' := by
  have HN := Lib.hid hn
  have HL := Lib.hid hl
  have HR := Lib.hid hr
  have HB := Lib.hid hB
  have HRR := Lib.hid hR
  have HK := Lib.hid hk
  clear hn hl hr hR hk hB
  go_enter Tryz.func142, Tryz.ntmps142
  go_wp2_with fail
  refine (rHas_any A n c l HN.out HL.out.1 hnc hcm v B HB.out _ HR.out).mono ?_
  rintro e w1 ⟨rfl, hb1⟩
  have HR1 := Lib.hid (RdX.below HR.out hb1)
  go_wp2_with fail
  obtain ⟨q, hq⟩ : ∃ q, (addR l (v, v) false).length = q := ⟨_, rfl⟩
  have HQ := Lib.hid hq
  clear hq
  refine (rAdd_rd A n c l HN.out HL.out.1 hnc hcm hnb v v v0 (Int.le_refl _) v1 _ q rfl HQ.out _ HR1.out).mono ?_
  rintro e w2 ⟨A2, c2, rfl, h2, h3, hrd, hb2⟩
  have hb := hb1.trans (hb2.mono hb1.size)
  have HRD := Lib.hid hrd
  clear hb1 hb2 HR1 hrd
  have hqb : q ≤ 4000000 := by have h1 := (addR_len l (v, v) false).1; have h2 := HQ.out; have h3 := HN.out; omega
  by_cases hq6 : q ≤ 6
  · have hRe : addR l (v, v) false = R := by rw [← HRR.out]; unfold noteR; rw [HQ.out, show q - 6 = 0 from by omega, List.drop_zero]
    have hrd := HRD.out
    rw [hRe] at hrd
    have hkq : k_ = q := by rw [← HK.out, ← hRe]; exact HQ.out
    subst hkq
    have HRD2 := Lib.hid hrd
    clear hrd hRe HRD
    go_wp2_with (at_builtin
                 refine wpList_appX rcells 2 rcells_one _ rfl (.tmp 38) (.tmp 39) _ rfl w.heap.size 116 _ 16 Tryz.underlying32 rngInfo rfl (by decide) (by decide) (some ⟨w2.heap.size, 0, none⟩) 0 0 [] rfl rfl (OwnX.made rcells 2 w2 _ _ hb.size) _ _ _ R rfl HK.out (RdX.alloc HRD2.out _) _ rfl _ rfl (by omega) (by have := hb.size; simp; omega) ?_
                 intro A5 c5 w5 hO5 hc5 hc5' hb5 hgr5)
    go_ret3
    exact ⟨A5, c5, by simp, by omega, hc5', by simpa using hO5, (hb.alloc hb.size _).trans hb5⟩
  · obtain ⟨j, rfl⟩ : ∃ j, q = j + 6 := ⟨q - 6, by omega⟩
    have hrd := HRD.out
    have hRe : (addR l (v, v) false).drop j = R := by rw [← HRR.out]; unfold noteR; rw [HQ.out, Nat.add_sub_cancel]
    have hk6 : k_ = 6 := by rw [← HK.out, ← hRe, List.length_drop, HQ.out]; omega
    subst hk6
    have hcu := RdX.cut rcells_len hrd (k := j) (cap := c2) (by rw [HQ.out]; omega) (by rw [HQ.out]; exact h2)
    rw [if_neg (by omega), hRe] at hcu
    obtain ⟨b, off, hA, _⟩ := hrd.rcell (by rw [HQ.out]; omega)
    subst hA
    have hcu2 : RdX rcells 2 w2 (some ⟨b, off + j * 2, none⟩) R := by simpa [add_none] using hcu
    have HCU := Lib.hid hcu2
    have hj0 : (0 : Int) ≤ (j : Int) := by omega
    have hj1 : (j : Int) ≤ (j : Int) + 6 := by omega
    have hj2 : c2 ≠ j := by omega
    have hj3 : 6 < (j : Int) + 6 := by omega
    clear hrd hRe HRD hcu hcu2
    go_wp2_with (at_builtin
                 refine wpList_appX rcells 2 rcells_one _ rfl (.tmp 38) (.tmp 39) _ rfl w.heap.size 116 _ 16 Tryz.underlying32 rngInfo rfl (by decide) (by decide) (some ⟨w2.heap.size, 0, none⟩) 0 0 [] rfl rfl (OwnX.made rcells 2 w2 _ _ hb.size) _ _ _ R rfl HK.out (RdX.alloc HCU.out _) _ rfl _ rfl (by omega) (by have := hb.size; simp; omega) ?_
                 intro A5 c5 w5 hO5 hc5 hc5' hb5 hgr5)
    go_ret3
    exact ⟨A5, c5, by simp, by omega, hc5', by simpa using hO5, (hb.alloc hb.size _).trans hb5⟩
end Go.Proofs.YtbcagdjfegobnaaGreat
