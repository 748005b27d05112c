/- The contracts of set, sameRanges, rangesTell. -/
import Derived.Test.YtolhlgalhhdkmabHasWalk
import Derived.Test.YtolhlgalhhdkmabSomeWalk
import Derived.Test.YtolhlgalhhdkmabRawOpen
namespace Go.Proofs.Ytolhlgalhhdkmab
open Go.ChangeShapes Go.WideShapes Go.ChangeAt Go.RowKit
set_option linter.unusedVariables false

/-- A good set of numbers up to M. -/
def SetOk (l : List Rng) (M : Int) : Prop := goodFrom 0 l ∧ ∀ n, memR l n → n ≤ M
theorem good_len {b M : Int} {l : List Rng} (h : goodFrom b l) (hM : ∀ n, memR l n → n ≤ M) (hb : b ≤ M + 2) : 2 * (l.length : Int) ≤ M - b + 2 := by
  induction l generalizing b with
  | nil => simp; omega
  | cons x l ih =>
    obtain ⟨h1, h2, h3, h4⟩ := h
    have hx := hM x.2 ((memR_cons x l _).2 (.inl ⟨h2, Int.le_refl _⟩))
    have := ih h4 (fun n hn => hM n ((memR_cons x l _).2 (.inr hn))) (by omega)
    simp only [List.length_cons]; omega
theorem SetOk.len {l : List Rng} {M : Int} (h : SetOk l M) (hM : 0 ≤ M) : 2 * (l.length : Int) ≤ M + 2 := by
  have := good_len h.1 h.2 (by omega); omega
theorem SetOk.nil (M : Int) : SetOk [] M := ⟨trivial, fun n hn => absurd hn (memR_nil n)⟩
theorem SetOk.add {l : List Rng} {M : Int} (h : SetOk l M) (lo hi : Int) (h0 : 0 ≤ lo) (h1 : lo ≤ hi) (h2 : hi ≤ M) (hM : M ≤ 4611686018427387903) : SetOk (addR l (lo, hi) false) M := by
  refine ⟨addR_good h.1 (lo, hi) h0 h1 (by show hi ≤ _; omega), fun n hn => ?_⟩
  rcases (addR_mem h.1 (lo, hi) h1 n).1 hn with h3 | h3
  · exact h.2 n h3
  · have : n ≤ hi := h3.2
    omega
theorem SetOk.cut {l : List Rng} {M : Int} (h : SetOk l M) (lo hi : Int) (h1 : lo ≤ hi) : SetOk (cutR l (lo, hi)) M :=
  ⟨cutR_good h.1 (lo, hi) h1 0 (Int.le_refl _), fun n hn => h.2 n ((cutR_mem l (lo, hi) h1 n).1 hn).1⟩
theorem SetOk.mono {l : List Rng} {M N : Int} (h : SetOk l M) (hMN : M ≤ N) : SetOk l N := ⟨h.1, fun n hn => by have := h.2 n hn; omega⟩

theorem rAdd_rd (A : Option Addr) (n c : Nat) (l : List Rng) (hn : l.length = n) (hl : goodFrom 0 l) (hnc : n ≤ c) (hcm : c ≤ 9223372036854775807) (hnb : n ≤ 1000000) (lo hi : Int) (h0 : 0 ≤ lo) (h1 : lo ≤ hi) (h2 : hi ≤ 4611686018427387903)
    (R : List Rng) (k_ : Nat) (hR : addR l (lo, hi) false = R) (hk : R.length = k_) (w : World) (hr : RdX rcells 2 w A l) :
    Calls Try.prog 19 #[.slice A n c, .agg #[.int .i64 lo, .int .i64 hi]] w fun e w' => ∃ A' c', e = .returned (.tuple #[.slice A' k_ c', .int .i64 0]) ∧ k_ ≤ c' ∧ c' ≤ 9223372036854775807 ∧ RdX rcells 2 w' A' R ∧ Below w.heap.size w w' :=
  (rAdd_own A n c l hn hl hnc hcm hnb lo hi h0 h1 h2 R k_ hR hk w hr).mono fun e w' ⟨A', c', he, hc, hc', ho, hb⟩ => ⟨A', c', he, hc, hc', ho.rd, hb⟩
theorem rCut_rd (A : Option Addr) (n c : Nat) (l : List Rng) (hn : l.length = n) (hl : goodFrom 0 l) (hnc : n ≤ c) (hcm : c ≤ 9223372036854775807) (hnb : n ≤ 1000000) (lo hi : Int) (h0 : 0 ≤ lo) (h1 : lo ≤ hi) (h2 : hi ≤ 4611686018427387903)
    (R : List Rng) (k_ : Nat) (hR : cutR l (lo, hi) = R) (hk : R.length = k_) (w : World) (hr : RdX rcells 2 w A l) :
    Calls Try.prog 20 #[.slice A n c, .agg #[.int .i64 lo, .int .i64 hi]] w fun e w' => ∃ A' c', e = .returned (.tuple #[.slice A' k_ c', .int .i64 0]) ∧ k_ ≤ c' ∧ c' ≤ 9223372036854775807 ∧ RdX rcells 2 w' A' R ∧ Below w.heap.size w w' :=
  (rCut_own A n c l hn hl hnc hcm hnb lo hi h0 h1 h2 R k_ hR hk w hr).mono fun e w' ⟨A', c', he, hc, hc', ho, hb⟩ => ⟨A', c', he, hc, hc', ho.rd, hb⟩

/-- What set answers. -/
def SetOut (w : World) (e : Ending) (w' : World) : Prop := ∃ (A : Option Addr) (n c : Nat) (xs : List Rng), e = .returned (.tuple #[.slice A n c, .bool true]) ∧ xs.length = n ∧ n ≤ c ∧ c ≤ 9223372036854775807 ∧ SetOk xs 64 ∧ RdX rcells 2 w' A xs ∧ Below w.heap.size w w'

set_option maxRecDepth 100000 in
set_option maxHeartbeats 1000000 in
theorem set_any (A : Option Addr) (len cap : Nat) (rs : List RawD) (w : World) (h : IsRaws w A len cap rs) :
    Calls Try.prog 18 #[.slice A len cap] w (SetOut w) := by
  have hlc := h.2.2.1
  have hcm := h.2.2.2.1
  unfold maxLen at hcm
  go_enter Try.func18, Try.ntmps18
  go_wp2_with fail
  refine (some_any A len cap (min len 20) 20 hlc (by omega) (by decide) (by decide) (by omega) _).mono ?_
  rintro e w' ⟨rfl, rfl⟩
  have hF := h.front (min len 20) (by omega)
  generalize rs.take (min len 20) = ts at *
  have hk20 : min len 20 ≤ 20 := by omega
  generalize min len 20 = K at *
  clear h hlc
  go_wp2_with fail
  go_loopw [4, 5, 15] (fun s ok i wr => ∃ (k : Nat) (A' : Option Addr) (m c' : Nat) (xs : List Rng), k ≤ K ∧ i = .int .i64 k ∧ s = .slice A' m c' ∧ ok = .bool true ∧ xs.length = m ∧ m ≤ c' ∧ c' ≤ 9223372036854775807 ∧ SetOk xs 64 ∧ RdX rcells 2 wr A' xs ∧ Below w.heap.size w wr) (fun _ _ i _ => K - (intOf i).toNat)
  case atStart => exact ⟨0, none, 0, 0, [], Nat.zero_le _, rfl, rfl, rfl, rfl, Nat.le_refl _, by decide, SetOk.nil _, RdX.nil, Below.refl _ _⟩
  case round =>
    obtain ⟨k, A', m, c', xs, hk, rfl, rfl, rfl, hm, hmc, hc', hok, hrd, hb⟩ := hrel
    have hm33 : m ≤ 33 := by have := hok.len (by decide); omega
    have HM := Lib.hid hm
    have HK := Lib.hid hok
    have HRD := Lib.hid hrd
    clear hm hok hrd
    by_cases hlt : k < K
    · have hRr : IsRaws wr A K cap ts := hF.keep hb
      obtain ⟨b, off, rfl, hcell⟩ := hRr.at_ (by omega)
      obtain ⟨c0, c1, c2, c3⟩ := hcell k hlt
      have hro := hF.2.2.2.2 k hlt
      generalize ts.getD k rawNone = r at *
      obtain ⟨o0, o1, o2, _⟩ := hro
      clear hcell hRr
      go_wp2_with fail
      refine (picked_ex _ _ o1.1 o1.2 (by decide) (by decide) _).mono ?_
      rintro e w' ⟨lo, l0, l1, rfl, rfl⟩
      go_wp2_with fail
      refine (picked_ex _ _ o2.1 o2.2 (by decide) (by decide) _).mono ?_
      rintro e w' ⟨d, d0, d1, rfl, rfl⟩
      go_upto_region 8 with (fail)
      refine wp_world (fun w' => Blk w' wr.heap.size 52 #[.int .i64 r.kind, .int .i64 r.a, .int .i64 r.b, .string r.text] ∧ Blk w' (wr.heap.size + 1) 37 #[.int .i64 lo, .int .i64 (lo + d)] ∧ RdX rcells 2 w' A' xs ∧ Below w.heap.size w w') ⟨(Blk.new _ _ _).alloc _, Blk.new1 _ _ _ _, (HRD.out.alloc _).alloc _, (hb.alloc hb.size _).alloc (by have := hb.size; simp; omega) _⟩ ?_
      clear c0 c1 c2 c3 HRD hb
      rintro w2 ⟨hQ, hX, hrd, hb⟩
      have FQ := hQ.facts4
      have FX := hX.two
      have HRD := Lib.hid hrd
      clear hrd
      go_wp2_with fail
      refine (rAdd_rd A' m c' xs HM.out HK.out.1 hmc hc' (by omega) lo (lo + d) l0 (by omega) (by omega) _ _ rfl rfl _ HRD.out).mono ?_
      rintro e w3 ⟨A3, c3, rfl, hcc, hcd, hrd3, hb3⟩
      have hok3 := HK.out.add lo (lo + d) l0 (by omega) (by omega) (by decide)
      generalize addR xs (lo, lo + d) false = ys at *
      have HRD3 := Lib.hid hrd3
      have HK3 := Lib.hid hok3
      have hQ3 := hQ.carry hb3
      have hX3 := hX.carry hb3
      have hrdx := RdX.below HRD.out hb3
      have hbz := hb.trans (hb3.mono hb.size)
      have HRX := Lib.hid hrdx
      clear FQ FX hrd3 hok3 hQ hX hb hb3 HRD hrdx
      have FQ := hQ3.facts4
      have FX := hX3.two
      go_wp2_with fail
      refine (picked_ex _ _ o0.1 o0.2 (by decide) (by decide) _).mono ?_
      rintro e w' ⟨q, q0, q1, rfl, rfl⟩
      have hql : (q == 0) = true ∨ (q == 0) = false := by cases q == 0 <;> simp
      rcases hql with hq | hq
      · go_wp2_with fail
        refine (rCut_rd A' m c' xs HM.out HK.out.1 hmc hc' (by omega) lo (lo + d) l0 (by omega) (by omega) _ _ rfl rfl _ HRX.out).mono ?_
        rintro e w5 ⟨A5, c5, rfl, hce, hcf, hrd5, hb5⟩
        have hok5 := HK.out.cut lo (lo + d) (by omega)
        generalize cutR xs (lo, lo + d) = zs at *
        have HRD5 := Lib.hid hrd5
        have HK5 := Lib.hid hok5
        have hby := hbz.trans (hb5.mono hbz.size)
        clear hrd5 hok5 hbz hb5 FQ FX
        go_wp2_with fail
        go_roundw
        case rel => exact ⟨k + 1, A5, zs.length, c5, zs, by omega, by go_num, rfl, rfl, rfl, hce, hcf, HK5.out, HRD5.out, hby⟩
        case measure => simp [intOf]; omega
      · go_wp2_with fail
        go_roundw
        case rel => exact ⟨k + 1, A3, ys.length, c3, ys, by omega, by go_num, rfl, rfl, rfl, hcc, hcd, HK3.out, HRD3.out, hbz⟩
        case measure => simp [intOf]; omega
    · go_wp2_with fail
      go_ret2
      exact ⟨A', m, c', xs, rfl, HM.out, hmc, hc', HK.out, HRD.out, hb⟩

set_option maxHeartbeats 1000000 in
theorem sameRanges_eq (A B : Option Addr) (n c d : Nat) (l : List Rng) (hn : l.length = n) (hnc : n ≤ c) (hnd : n ≤ d) (hcm : c ≤ 9223372036854775807) (hdm : d ≤ 9223372036854775807) (w : World) (hA : RdX rcells 2 w A l) (hB : RdX rcells 2 w B l) :
    Calls Try.prog 17 #[.slice A n c, .slice B n d] w fun e w' => e = .returned (.bool true) ∧ Below w.heap.size w w' := by
  have HN := Lib.hid hn
  have HA := Lib.hid hA
  have HB := Lib.hid hB
  clear hn hA hB
  go_enter Try.func17, Try.ntmps17
  go_wp2_with fail
  go_loopw [5, 6] (fun ok i wr => ∃ k : Nat, k ≤ n ∧ i = .int .i64 k ∧ ok = .bool true ∧ Below w.heap.size w wr) (fun _ i _ => n - (intOf i).toNat)
  case atStart => exact ⟨0, Nat.zero_le _, rfl, by simp, Below.refl _ _⟩
  case round =>
    obtain ⟨k, hk, rfl, rfl, hb⟩ := hrel
    by_cases hlt : k < n
    · have hlen := HN.out
      obtain ⟨b, off, rfl, hcell⟩ := (RdX.below HA.out hb).rcell (by omega)
      obtain ⟨b', off', rfl, hcell'⟩ := (RdX.below HB.out hb).rcell (by omega)
      obtain ⟨c0, c1⟩ := hcell k (by omega)
      obtain ⟨d0, d1⟩ := hcell' k (by omega)
      obtain ⟨x1, x2, hx⟩ : ∃ x1 x2, l.getD k (0, 0) = (x1, x2) := ⟨_, _, rfl⟩
      rw [hx] at c0 c1 d0 d1
      have hk0 : (0 : Int) ≤ (k : Int) := by omega
      have hk1 : (k : Int) < (n : Int) := by omega
      clear hx hlen hcell hcell'
      go_upto_region 5 with (fail)
      go_quiet (fail)
      have hb2 : Below w.heap.size w (wr.drewN nq) := ⟨hb.os, hb.tape, hb.output, hb.size, hb.block⟩
      go_wp2_with fail
      go_roundw
      case rel => exact ⟨k + 1, by omega, by go_num, by simp, hb2⟩
      case measure => simp [intOf]; omega
    · go_wp2_with fail
      go_ret
      exact ⟨rfl, hb⟩

theorem rangesTell_any (w : World) : Calls Try.prog 16 #[] w fun e w' => e = .returned (.bool true) ∧ Below w.heap.size w w' := by
  go_enter Try.func16, Try.ntmps16
  go_wp2_with fail
  refine (rAdd_rd none 0 0 [] rfl trivial (Nat.le_refl _) (by decide) (by decide) 3 4 (by decide) (by decide) (by decide) [(3, 4)] 1 rfl rfl _ RdX.nil).mono ?_
  rintro e w1 ⟨A1, c1, rfl, h1, h2, hrd, hb⟩
  have HRD := Lib.hid hrd
  clear hrd
  have hg : goodFrom 0 [((3 : Int), (4 : Int))] := ⟨by decide, by decide, by decide, trivial⟩
  have HG := Lib.hid hg
  clear hg
  go_wp2_with fail
  refine (has_any A1 1 c1 _ rfl HG.out h1 h2 3 true rfl _ HRD.out).mono ?_
  rintro e w2 ⟨rfl, hb2⟩
  have HRD2 := Lib.hid (RdX.below HRD.out hb2)
  go_wp2_with fail
  refine (has_any A1 1 c1 _ rfl HG.out h1 h2 4 true rfl _ HRD2.out).mono ?_
  rintro e w3 ⟨rfl, hb3⟩
  have HRD3 := Lib.hid (RdX.below HRD2.out hb3)
  go_wp2_with fail
  refine (has_any A1 1 c1 _ rfl HG.out h1 h2 5 false rfl _ HRD3.out).mono ?_
  rintro e w4 ⟨rfl, hb4⟩
  go_wp2_with fail
  go_ret
  have hb12 := hb.trans (hb2.mono hb.size)
  have hb13 := hb12.trans (hb3.mono hb12.size)
  exact ⟨rfl, hb13.trans (hb4.mono hb13.size)⟩
end Go.Proofs.Ytolhlgalhhdkmab
