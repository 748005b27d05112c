/- A space, the map of what became of its packets, and the packets that are being struck out: words for the inner rounds of 'spaced'. -/
import Derived.Test.YtoonohhjcfceeaaSpdSt
namespace Go.Proofs.Ytoonohhjcfceeaa
open Go.ChangeShapes Go.WideShapes Go.ChangeAt Go.RowKit
open Go.Maps (Keyed int_keyed keyOf_int_mk)
set_option linter.unusedVariables false

/-- What holds, and goes on holding while nobody writes behind block g. -/
def KeptB (g : Nat) (wr : World) (P : World → Prop) : Prop := ∀ W : World, (∀ q, g < q → q < wr.heap.size → W.heap[q]? = wr.heap[q]?) → P W
section
variable {g : Nat} {wr w' : World} {P Q : World → Prop}
theorem KeptB.here (h : KeptB g wr P) : P wr := h wr fun _ _ _ => rfl
theorem KeptB.agree (h : KeptB g wr P) (hs_ : wr.heap.size ≤ w'.heap.size) (ha : ∀ q, g < q → q < wr.heap.size → w'.heap[q]? = wr.heap[q]?) : KeptB g w' P :=
  fun W hW => h W fun q h1 h2 => (hW q h1 (Nat.lt_of_lt_of_le h2 hs_)).trans (ha q h1 h2)
theorem KeptB.below (h : KeptB g wr P) (hb : Below wr.heap.size wr w') : KeptB g w' P := h.agree hb.size fun q _ h2 => hb.block q h2
theorem KeptB.set (h : KeptB g wr P) {p : Addr} (hp : p.block ≤ g) (u : Value) : KeptB g (wr.setCell p u) P := h.agree (by simp) fun q h1 _ => Below.heap_setCell wr p u q (by omega)
theorem KeptB.map (h : KeptB g wr P) (hg : wr.grownBy w' (some g)) : KeptB g w' P := h.agree hg.size fun q h1 h2 => hg.block q h2 fun e => by have := Option.some.inj e; omega
theorem KeptB.imp (h : KeptB g wr P) (f : ∀ W, P W → Q W) : KeptB g wr Q := fun W hW => f W (h W hW)
theorem KeptB.mono {g' : Nat} (h : KeptB g wr P) (hg : g' ≤ g) : KeptB g' wr P := fun W hW => h W fun q h1 h2 => hW q (by omega) h2
theorem SpKeep.keptB (h : SpKeep wr w' P) (hg : g < wr.heap.size) : KeptB g w' P := fun W hW => h W fun q h1 h2 => hW q (by omega) h2
end
section
variable {w wr wf : World} {gS : Nat} {nx : Int} {A : Option Addr} {n c : Nat} {top : Int} {B : Option Addr} {m d : Nat} {C : Option Addr} {k e : Nat} {ps : List Pcl} {hs : List Rng} {ks : List Int} {T : Option Addr} {q : List Pcl} {cnt : Nat} {D : MapD}
/-- The state while those of q are struck out of the map. -/
def Strk (w wr : World) (gS : Nat) (nx : Int) (A : Option Addr) (n c : Nat) (top : Int) (B : Option Addr) (m d : Nat) (C : Option Addr) (k e : Nat) (ps : List Pcl) (hs : List Rng) (ks : List Int) (T : Option Addr) (q : List Pcl) (cnt : Nat) (D : MapD) : Prop :=
  Blk wr gS 26 #[.int .i64 nx, .slice A n c, .int .i64 top, .slice B m d, .slice C k e] ∧ KeptB (gS + 1) wr (fun W => SpV W nx A n c top B m d C k e ps hs ks ∧ RdX pcells 4 W T q) ∧ MapM wr (gS + 1) cnt D ∧
  Blk wr w.heap.size 26 #[.int .i64 0, .slice none 0 0, .int .i64 0, .slice none 0 0, .slice none 0 0] ∧ Below w.heap.size w wr
theorem Strk.below (h : Strk w wr gS nx A n c top B m d C k e ps hs ks T q cnt D) (hb : Below wr.heap.size wr wf) : Strk w wf gS nx A n c top B m d C k e ps hs ks T q cnt D :=
  ⟨h.1.carry hb, h.2.1.below hb, h.2.2.1.below hb, h.2.2.2.1.carry hb, h.2.2.2.2.trans (hb.mono h.2.2.2.2.size)⟩
theorem Strk.map {cnt' : Nat} {D' : MapD} (h : Strk w wr gS nx A n c top B m d C k e ps hs ks T q cnt D) (hM : MapM wf (gS + 1) cnt' D') (hg : wr.grownBy wf (some (gS + 1))) (hw : w.heap.size < gS) : Strk w wf gS nx A n c top B m d C k e ps hs ks T q cnt' D' :=
  ⟨h.1.map_grown h.2.2.1 hg, h.2.1.map hg, hM, h.2.2.2.1.map_grown h.2.2.1 hg, h.2.2.2.2.grown hg h.2.2.2.2.size (fun j hj => by cases hj; omega)⟩
theorem Strk.rd (h : Strk w wr gS nx A n c top B m d C k e ps hs ks T q cnt D) : RdX pcells 4 wr T q := h.2.1.here.2
theorem Strk.maps (h : Strk w wr gS nx A n c top B m d C k e ps hs ks T q cnt D) : MapM wr (gS + 1) cnt D := h.2.2.1
/-- All are struck out. -/
theorem Strk.spd {i : Nat} {now : Int} {all : List Pcl} (h : Strk w wr gS nx A n c top B m d C k e ps hs ks T q cnt D) (hE : EndsOk D nx (fun n => onWay all n && !onWay (q.take q.length) n)) (hp : Parts all q ps) (hn : nx ≤ i ∧ cnt ≤ 25 * i ∧ 0 ≤ now ∧ now ≤ 2 * i) (hg : w.heap.size < gS ∧ gS < gS + 1) : Spd w wr gS (gS + 1) i now :=
  Spd.keep h.1 (show SpK (gS + 1) wr nx A n c top B m d C k e ps hs ks from h.2.1.imp fun _ x => x.1) h.2.2.1 (hE.congr fun n => by rw [List.take_length]; exact hp.left_iff n) hn h.2.2.2.1 hg h.2.2.2.2 (Below.refl _ _)
end
/-- A pair of numbers that stands in two cells is a row of one range. -/
theorem rngRd {w : World} {g : Nat} {lo hi : Int} (h0 : w.cell? ⟨g, 0, none⟩ = some (.int .i64 lo)) (h1 : w.cell? ⟨g, 1, none⟩ = some (.int .i64 hi)) : RdX rcells 2 w (some ⟨g, 0, none⟩) [(lo, hi)] := by
  refine ⟨rfl, fun _ => ⟨g, 0, rfl, fun j v hv => ?_⟩⟩
  match j, hv with
  | 0, hv => simp [rcells] at hv; subst hv; exact h0
  | 1, hv => simp [rcells] at hv; subst hv; exact h1
  | j + 2, hv => simp [rcells] at hv

theorem rngBlk {w : World} {g : Nat} {lo hi : Int} (h : Blk w g 35 #[.int .i64 lo, .int .i64 hi]) : RdX rcells 2 w (some ⟨g, 0, none⟩) [(lo, hi)] := rngRd h.two.1 h.two.2.1
theorem wf_i64 (n : Int) (h0 : -9223372036854775808 ≤ n) (h1 : n ≤ 9223372036854775807) : (Lit.int .i64 n).wf = true := by
  have h := wrap64_wf n
  have e : wrap64 n = n := (IntWalk.i64_left n).symm.trans (IntWalk.i64_in n ⟨h0, h1⟩)
  rwa [e] at h
theorem num_at {D : MapD} {n c : Int} (h : D.atKey (.int .i64 n) (.lit (.int .i64 0)) = num64 1) (h2 : D.atKey (.int .i64 n) (.lit (.int .i64 0)) = .lit (.int .i64 c)) : c = 1 := by
  rw [h] at h2
  unfold num64 at h2
  injection h2 with h2
  injection h2 with _ h2
  exact h2.symm

/-- What Acked answers, told of one range: an error, or what it leaves. -/
def AckAny (nx top lo hi : Int) (m k : Nat) (ps : List Pcl) (hs : List Rng) (ks : List Int) (w : World) (e' : Ending) (w' : World) : Prop :=
  ∃ (x0 : Int) (A' : Option Addr) (n' c' : Nat) (x2 : Int) (B' : Option Addr) (m' d' : Nat) (C' : Option Addr) (k' e2 : Nat) (H : Option Addr) (nh ch : Nat) (T : Option Addr) (nt ct : Nat) (code : Int),
    e' = .returned (.tuple #[.agg #[.int .i64 x0, .slice A' n' c', .int .i64 x2, .slice B' m' d', .slice C' k' e2], .slice H nh ch, .slice T nt ct, .int .i64 code]) ∧ Below w.heap.size w w' ∧
    (code = 13 ∨ (code = 0 ∧ x0 = nx ∧ m' = m ∧ k' = k ∧ SpKeep w w' (fun W => SpV W x0 A' n' c' x2 B' m' d' C' k' e2 (leftOf x2 (restOf lo hi ps)) hs ks ∧ RdX pcells 4 W H (heardOf lo hi ps) ∧ RdX pcells 4 W T (lostOf x2 (restOf lo hi ps))) ∧
      (heardOf lo hi ps).length = nh ∧ nh ≤ ch ∧ ch ≤ 9223372036854775807 ∧ (lostOf x2 (restOf lo hi ps)).length = nt ∧ nt ≤ ct ∧ ct ≤ 9223372036854775807))
theorem spAcked_any (nx : Int) (A : Option Addr) (n c : Nat) (top : Int) (B : Option Addr) (m d : Nat) (C : Option Addr) (k e : Nat) (ps : List Pcl) (hs : List Rng) (ks : List Int) (lo hi : Int) (h0 : 0 ≤ lo) (h1 : lo ≤ hi) (h3 : hi ≤ 9223372036854775807) (b off dL : Nat) (hd1 : 1 ≤ dL) (hd2 : dL ≤ 9223372036854775807) (w : World) (h : SpV w nx A n c top B m d C k e ps hs ks) (hr : RdX rcells 2 w (some ⟨b, off, none⟩) [(lo, hi)]) :
    Calls Try.prog 12 #[.agg #[.int .i64 nx, .slice A n c, .int .i64 top, .slice B m d, .slice C k e], .slice (some ⟨b, off, none⟩) 1 dL] w (AckAny nx top lo hi m k ps hs ks w) := by
  by_cases h2 : nx ≤ hi
  · refine (spAcked_far nx A n c top B m d C k e ps hs ks lo hi h0 h1 h2 h3 b off dL hd1 hd2 w h hr).mono ?_
    rintro e' w' ⟨rfl, hb⟩
    exact ⟨0, none, 0, 0, 0, none, 0, 0, none, 0, 0, none, 0, 0, none, 0, 0, 13, rfl, hb, .inl rfl⟩
  · by_cases hk : ∃ x ∈ ks, inR [(lo, hi)] x = true
    · refine (spAcked_skip nx A n c top B m d C k e ps hs ks lo hi h0 h1 (by omega) hk b off dL hd1 hd2 w h hr).mono ?_
      rintro e' w' ⟨rfl, hb⟩
      exact ⟨0, none, 0, 0, 0, none, 0, 0, none, 0, 0, none, 0, 0, none, 0, 0, 13, rfl, hb, .inl rfl⟩
    · refine (spAcked_one nx A n c top B m d C k e ps hs ks lo hi h0 h1 (by omega) (fun x hx => ?_) b off dL hd1 hd2 w h hr).mono ?_
      · cases hc : inR [(lo, hi)] x with
        | false => rfl
        | true => exact absurd ⟨x, hx, hc⟩ hk
      · rintro e' w' ⟨A', n', c', B', d', C', k', H, nh, ch, T, nt, ct, rfl, hK, a1, a2, a3, a4, a5, a6, hb⟩
        exact ⟨nx, A', n', c', _, B', m, d', C', k, k', H, nh, ch, T, nt, ct, 0, rfl, hb, .inr ⟨rfl, rfl, rfl, rfl, hK, a1, a2, a3, a4, a5, a6⟩⟩
/-- What stands behind the region that asks Acked. -/
def AckCut (gS : Nat) (nx lo hi : Int) (m k : Nat) (ps : List Pcl) (hs : List Rng) (ks : List Int) (w2 : World) (s16 s17 s18 s19 : Value) (wx : World) : Prop :=
  ∃ (g16 : Nat) (x0 : Int) (A' : Option Addr) (n' c' : Nat) (x2 : Int) (B' : Option Addr) (m' d' : Nat) (C' : Option Addr) (k' e2 : Nat) (H : Option Addr) (nh ch : Nat) (T : Option Addr) (nt ct : Nat) (code : Int),
    s16 = .pointer (some ⟨g16, 0, none⟩) ∧ s17 = .slice H nh ch ∧ s18 = .slice T nt ct ∧ s19 = .int .i64 code ∧ gS + 1 < g16 ∧ Blk wx g16 26 #[.int .i64 x0, .slice A' n' c', .int .i64 x2, .slice B' m' d', .slice C' k' e2] ∧ Below w2.heap.size w2 wx ∧
    (code = 13 ∨ (code = 0 ∧ x0 = nx ∧ m' = m ∧ k' = k ∧ KeptB (gS + 1) wx (fun W => SpV W x0 A' n' c' x2 B' m' d' C' k' e2 (leftOf x2 (restOf lo hi ps)) hs ks ∧ RdX pcells 4 W H (heardOf lo hi ps) ∧ RdX pcells 4 W T (lostOf x2 (restOf lo hi ps))) ∧
      (heardOf lo hi ps).length = nh ∧ nh ≤ ch ∧ ch ≤ 9223372036854775807 ∧ (lostOf x2 (restOf lo hi ps)).length = nt ∧ nt ≤ ct ∧ ct ≤ 9223372036854775807))
/-- What stands behind the region that asks Overdue. -/
def OverCut (gS : Nat) (nx top now age : Int) (m k : Nat) (ps : List Pcl) (hs : List Rng) (ks : List Int) (w2 : World) (s22 s23 s24 : Value) (wx : World) : Prop :=
  ∃ (g22 : Nat) (A' : Option Addr) (n' c' : Nat) (B' : Option Addr) (d' : Nat) (C' : Option Addr) (k' : Nat) (T : Option Addr) (nt ct : Nat),
    s22 = .pointer (some ⟨g22, 0, none⟩) ∧ s23 = .slice T nt ct ∧ s24 = .int .i64 0 ∧ gS + 1 < g22 ∧ Blk wx g22 26 #[.int .i64 nx, .slice A' n' c', .int .i64 top, .slice B' m d', .slice C' k k'] ∧ Below w2.heap.size w2 wx ∧
    KeptB (gS + 1) wx (fun W => SpV W nx A' n' c' top B' m d' C' k k' (ps.filter fun p => !lateP now age p) hs ks ∧ RdX pcells 4 W T (ps.filter (lateP now age))) ∧
    (ps.filter (lateP now age)).length = nt ∧ nt ≤ ct ∧ ct ≤ 9223372036854775807
theorem KeptB.own {α : Type} {f : α → List Value} {m' : Nat} {g : Nat} {wr : World} {base : Nat} {E : TypeId} {A : Option Addr} {c : Nat} {xs : List α} (h : OwnX f m' wr base E A c xs) (hg : g < base) : KeptB g wr (fun W => RdX f m' W A xs) :=
  fun W hW => (ownx_agree h (W := W) fun k h1 h2 => hW k (by omega) h2).rd
theorem Parts.len {ps q left : List Pcl} (h : Parts ps q left) : q.length ≤ ps.length := by
  have := h.perm.length_eq
  rw [List.length_append] at this
  omega
theorem ackParts {lo hi x2 : Int} {ps : List Pcl} (hd : ps.Pairwise (fun x y => x.1 < y.1)) : Parts ps (heardOf lo hi ps ++ lostOf x2 (restOf lo hi ps)) (leftOf x2 (restOf lo hi ps)) := Parts.two hd _ _
theorem lateParts {now age : Int} {ps : List Pcl} (hd : ps.Pairwise (fun x y => x.1 < y.1)) : Parts ps (ps.filter (lateP now age)) (ps.filter fun p => !lateP now age p) := Parts.of_filter hd _
/-- The number of one that is struck out, and what stands of it. -/
theorem strikeAt {D : MapD} {nx : Int} {ps q left : List Pcl} (hp : Parts ps q left) (j : Nat) (hj : j < q.length) (h : EndsOk D nx (fun n => onWay ps n && !onWay (q.take j) n)) (hb : ∀ p ∈ ps, 0 ≤ p.1 ∧ p.1 < nx) :
    (0 ≤ (q.getD j pcln).1 ∧ (q.getD j pcln).1 < nx) ∧ D.atKey (.int .i64 (q.getD j pcln).1) (.lit (.int .i64 0)) = num64 1 ∧ EndsOk (D.put (.int .i64 (q.getD j pcln).1) (num64 2)) nx (fun n => onWay ps n && !onWay (q.take (j + 1)) n) := by
  obtain ⟨a, b⟩ := h.strike hp j hj
  exact ⟨hb _ ((hp.perm.mem_iff).1 (List.mem_append_left _ (getD_in q j pcln hj))), a _, b⟩
/-- What spaced answers. -/
def SpacedOut (w : World) (e' : Ending) (w' : World) : Prop := ∃ (gM : Nat) (nx : Int) (A : Option Addr) (n c : Nat) (top : Int) (B : Option Addr) (m d : Nat) (C : Option Addr) (k e : Nat) (ps : List Pcl) (hs : List Rng) (ks : List Int) (cnt : Nat) (D : MapD),
  e' = .returned (.tuple #[.agg #[.int .i64 nx, .slice A n c, .int .i64 top, .slice B m d, .slice C k e], .map (some gM), .bool true]) ∧ SpV w' nx A n c top B m d C k e ps hs ks ∧ MapM w' gM cnt D ∧ EndsOk D nx (onWay ps) ∧ nx ≤ 30 ∧ cnt ≤ 750 ∧ Below w.heap.size w w'

/-- The contract of spaced, as a premise. -/
def SpacedAll : Prop := ∀ (Ar : Option Addr) (len cap : Nat) (rs : List RawD) (w : World), IsRaws w Ar len cap rs → Calls Try.prog 14 #[.slice Ar len cap] w (SpacedOut w)
end Go.Proofs.Ytoonohhjcfceeaa
