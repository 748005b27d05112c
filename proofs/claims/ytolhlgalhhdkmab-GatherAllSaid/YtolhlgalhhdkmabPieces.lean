/- Pieces of bytes in memory, and what 'merged' makes of them. -/
import Derived.Test.YtolhlgalhhdkmabGatherOneWalk
namespace Go.Proofs.Ytolhlgalhhdkmab
open Go.RowKit
set_option linter.unusedVariables false

/-- A piece as it lies in memory. -/
structure PD where
  off : Int
  D : Option Addr
  c : Nat
  data : List UInt8
/-- A piece. -/
def PD.pl (x : PD) : Int × List UInt8 := (x.off, x.data)
def pdc (x : PD) : List Value := [.int .i64 x.off, .slice x.D x.data.length x.c]
def pdn : PD := ⟨0, none, 0, []⟩
theorem pdc_len (x : PD) : (pdc x).length = 2 := rfl
theorem pdc_one (xs : List PD) : ∀ u ∈ xs.flatMap pdc, u.oneCell' = true := by
  intro u hu
  obtain ⟨x, _, hx⟩ := List.mem_flatMap.1 hu
  simp only [pdc, List.mem_cons, List.not_mem_nil, or_false] at hx
  rcases hx with rfl | rfl <;> rfl
theorem pdc_one1 (x : PD) : ∀ u ∈ pdc x, u.oneCell' = true := by
  have := pdc_one [x]; simpa using this
theorem rd_pd (w : World) (E : TypeId) (x : PD) : Rd (w.alloc (.cells #[.int .i64 x.off, .slice x.D x.data.length x.c] E)) 2 (some ⟨w.heap.size, 0, none⟩) 1 (pdc x) := Rd.new w E #[.int .i64 x.off, .slice x.D x.data.length x.c] 2 rfl

/-- The block of a piece's bytes. -/
def PD.blk (x : PD) : Option Nat := x.D.map (·.block)
theorem own_blk (A : Option Addr) (n c : Nat) : (Value.slice A n c).ownBlock = A.map (·.block) := by cases A <;> rfl
/-- Pieces whose bytes lie in rows of the call's own, none of them in another one's, nor in block bo. -/
def PDs (w : World) (base : Nat) (bo : Option Nat) (l : List PD) : Prop :=
  (∀ x ∈ l, OwnB w base 5 x.D x.c x.data ∧ (x.blk = none ∨ x.blk ≠ bo)) ∧ l.Pairwise (fun x y => x.blk = none ∨ x.blk ≠ y.blk)
theorem PDs.nil (w : World) (base : Nat) (bo : Option Nat) : PDs w base bo [] := ⟨fun x hx => absurd hx List.not_mem_nil, List.Pairwise.nil⟩
theorem OwnB.blk_lt {w : World} {base : Nat} {A : Option Addr} {c : Nat} {bs : List UInt8} (h : OwnB w base 5 A c bs) : ∀ k, A.map (·.block) = some k → base ≤ k ∧ k < w.heap.size := fun k hk =>
  own_block_lt h k (by rw [own_blk]; exact hk)
theorem OwnB.grown {w w' : World} {base : Nat} {A : Option Addr} {c : Nat} {bs : List UInt8} {row : Option Nat} (h : OwnB w base 5 A c bs) (hb : w.grownBy w' row) (hne : A.map (·.block) = none ∨ A.map (·.block) ≠ row) : OwnB w' base 5 A c bs :=
  own_grown h hb fun k hk e => by
    rw [own_blk] at hk
    rcases hne with h1 | h1
    · rw [h1] at hk; cases hk
    · exact h1 (hk.trans e)
theorem OwnB.kept {w w' : World} {base : Nat} {A : Option Addr} {c : Nat} {bs : List UInt8} (h : OwnB w base 5 A c bs) (hb : Below w.heap.size w w') : OwnB w' base 5 A c bs := own_carry h hb

/-- Pieces carried on, where no block of theirs is written. -/
theorem PDs.keep {w w' : World} {base : Nat} {bo : Option Nat} {l : List PD} (h : PDs w base bo l) (hb : Below w.heap.size w w') : PDs w' base bo l :=
  ⟨fun x hx => ⟨(h.1 x hx).1.kept hb, (h.1 x hx).2⟩, h.2⟩
/-- .. where the row of block bo grows, and lies in block bo' then: the same, or a new one. -/
theorem PDs.row {w w' : World} {base : Nat} {bo bo' : Option Nat} {l : List PD} (h : PDs w base bo l) (hb : w.grownBy w' bo) (hn : ∀ k, bo' = some k → bo = some k ∨ w.heap.size ≤ k) : PDs w' base bo' l :=
  ⟨fun x hx => by
    obtain ⟨h1, h2⟩ := h.1 x hx
    refine ⟨h1.grown hb h2, ?_⟩
    rcases h2 with h2 | h2
    · exact .inl h2
    · cases hk : x.blk with
      | none => exact .inl rfl
      | some k =>
        refine .inr fun e => ?_
        have hlt := (h1.blk_lt k hk).2
        rcases hn k e.symm with h3 | h3
        · exact h2 (hk.trans h3.symm)
        · omega, h.2⟩
theorem PDs.snoc {w : World} {base : Nat} {bo : Option Nat} {l : List PD} {x : PD} (h : PDs w base bo l) (hx : OwnB w base 5 x.D x.c x.data) (h1 : x.blk = none ∨ x.blk ≠ bo) (h2 : ∀ y ∈ l, y.blk = none ∨ y.blk ≠ x.blk) : PDs w base bo (l ++ [x]) :=
  ⟨fun y hy => by
    rcases List.mem_append.1 hy with hy | hy
    · exact h.1 y hy
    · obtain rfl := List.mem_singleton.1 hy; exact ⟨hx, h1⟩,
   List.pairwise_append.2 ⟨h.2, List.pairwise_singleton _ _, fun y hy z hz => by obtain rfl := List.mem_singleton.1 hz; exact h2 y hy⟩⟩
theorem PDs.front {w : World} {base : Nat} {bo : Option Nat} {l l' : List PD} (h : PDs w base bo (l ++ l')) : PDs w base bo l :=
  ⟨fun x hx => h.1 x (List.mem_append_left _ hx), (List.pairwise_append.1 h.2).1⟩
theorem PDs.last {w : World} {base : Nat} {bo : Option Nat} {l : List PD} {x : PD} (h : PDs w base bo (l ++ [x])) : OwnB w base 5 x.D x.c x.data ∧ (x.blk = none ∨ x.blk ≠ bo) ∧ ∀ y ∈ l, y.blk = none ∨ y.blk ≠ x.blk :=
  ⟨(h.1 x (by simp)).1, (h.1 x (by simp)).2, fun y hy => (List.pairwise_append.1 h.2).2.2 y hy x (by simp)⟩

theorem PDs.far {w2 w5 w6 : World} {B g5 c5 g6 : Nat} {A : Option Addr} {o : List PD} {po : Int} {pd : List UInt8} {ob : Obj} (hPD : PDs w2 B (A.map (·.block)) o) (hbb : Below w2.heap.size w2 w5) (hO5 : OwnB w5 w2.heap.size 5 (some ⟨g5, 0, none⟩) c5 pd) (hB : B ≤ w2.heap.size)
    (hgr : (w5.alloc ob).grownBy w6 (A.map (·.block))) (hat : A.map (·.block) = some g6 ∨ g6 = (w5.alloc ob).heap.size) (hA : ∀ k, A.map (·.block) = some k → k < w2.heap.size) (hlt : g5 < w5.heap.size) :
    PDs w6 B (some g6) (o ++ [⟨po, some ⟨g5, 0, none⟩, c5, pd⟩]) := by
  have h5 := (hPD.keep hbb).keep ((Below.refl w5.heap.size w5).alloc (Nat.le_refl _) ob)
  have hg5 : w2.heap.size ≤ g5 := (hO5.blk_lt g5 rfl).1
  have h6 : PDs w6 B (some g6) o := h5.row hgr fun k hk => by
    injection hk with hk
    subst hk
    rcases hat with h | h
    · exact .inl h
    · exact .inr (by omega)
  refine h6.snoc ?_ (.inr ?_) fun y hy => ?_
  · have h7 : OwnB (w5.alloc ob) w2.heap.size 5 (some ⟨g5, 0, none⟩) c5 pd := hO5.kept ((Below.refl w5.heap.size w5).alloc (Nat.le_refl _) ob)
    exact own_mono (h7.grown hgr (.inr fun e => by have := hA g5 e.symm; omega)) hB
  · show some g5 ≠ some g6
    intro e
    injection e with e
    rcases hat with h | h
    · have := hA _ h; omega
    · rw [h] at e; simp at e; omega
  · cases hk : y.blk with
    | none => exact .inl rfl
    | some k =>
      refine .inr fun e => ?_
      have h1 := (hPD.1 y hy).1.blk_lt k hk
      have h2 : some k = some g5 := e
      injection h2 with h2
      omega
theorem OwnB.setFar {w : World} {base : Nat} {A : Option Addr} {c : Nat} {bs : List UInt8} (h : OwnB w base 5 A c bs) {b i : Nat} (hp : A.map (·.block) = none ∨ A.map (·.block) ≠ some b) (u : Value) : OwnB (w.setCell ⟨b, i, none⟩ u) base 5 A c bs :=
  own_far h (fun k hk e => by
    rw [own_blk] at hk
    rcases hp with hp | hp
    · rw [hp] at hk; cases hk
    · exact hp (hk.trans (by rw [e]))) u
theorem PDs.near {w2 w5 : World} {B b2 g5 c5 xc : Nat} {xD : Option Addr} {o0 : List PD} {xo : Int} {xd pd : List UInt8} (h : PDs w2 B (some b2) (o0 ++ [⟨xo, xD, xc, xd⟩])) (hO5 : OwnB w5 B 5 (some ⟨g5, 0, none⟩) c5 (xd ++ pd))
    (hgr : w2.grownBy w5 (xD.map (·.block))) (hat : xD.map (·.block) = some g5 ∨ g5 = w2.heap.size) (hb2 : b2 < w2.heap.size) (hlb : some b2 ≠ xD.map (·.block)) (i : Nat) (v : Value) :
    PDs (w5.setCell ⟨b2, i, none⟩ v) B (some b2) (o0 ++ [⟨xo, some ⟨g5, 0, none⟩, c5, xd ++ pd⟩]) := by
  obtain ⟨_, _, hld⟩ := h.last
  have hne : g5 ≠ b2 := by
    rcases hat with h1 | h1
    · intro e; exact hlb (by rw [h1, e])
    · omega
  have h0 : PDs (w5.setCell ⟨b2, i, none⟩ v) B (some b2) o0 := ⟨fun y hy => by
    obtain ⟨h1, h2⟩ := h.front.1 y hy
    exact ⟨(h1.grown hgr (hld y hy)).setFar h2 v, h2⟩, h.front.2⟩
  refine h0.snoc (hO5.setFar (.inr fun e => ?_) v) (.inr fun e => ?_) fun y hy => ?_
  · injection e with e; exact hne e
  · have e' : some g5 = some b2 := e
    injection e' with e'; exact hne e'
  · cases hk : y.blk with
    | none => exact .inl rfl
    | some k =>
      refine .inr fun e => ?_
      have e' : some k = some g5 := e
      injection e' with e'
      subst e'
      rcases hat with h1 | h1
      · rcases hld y hy with h2 | h2
        · rw [h2] at hk; cases hk
        · exact h2 (hk.trans h1.symm)
      · have := ((h.front.1 y hy).1.blk_lt k hk).2; omega
theorem PDs.setBelow {w : World} {base : Nat} {bo : Option Nat} {l : List PD} (h : PDs w base bo l) {p : Addr} (hp : p.block < base) (u : Value) : PDs (w.setCell p u) base bo l :=
  ⟨fun x hx => ⟨ownsRow_setCell_below (h.1 x hx).1 hp u, (h.1 x hx).2⟩, h.2⟩
theorem PDs.lower {w : World} {base base' : Nat} {bo : Option Nat} {l : List PD} (h : PDs w base bo l) (hb : base' ≤ base) : PDs w base' bo l :=
  ⟨fun x hx => ⟨own_mono (h.1 x hx).1 hb, (h.1 x hx).2⟩, h.2⟩
theorem own_frozen {w : World} {base : Nat} {e : TypeId} {size n c g : Nat} {xs : List Value} (h : w.ownsRow base e size (.slice (some ⟨g, 0, none⟩) n c) n xs) (i : Nat) : w.frozen? ⟨g, i, none⟩ = false := by
  rcases h.2 with ⟨h1, _⟩ | ⟨g', cap, cur, hv, _, hg, _⟩
  · injection h1 with h1; cases h1
  · injection hv with hv
    injection hv with hv
    injection hv with hv
    subst hv
    simp [World.frozen?, hg]
theorem pdc_set (o0 : List PD) (x y : PD) (hy : y.off = x.off) : ((o0 ++ [x]).flatMap pdc).set (o0.length * 2 + 1) (.slice y.D y.data.length y.c) = (o0 ++ [y]).flatMap pdc := by
  have hl : (o0.flatMap pdc).length = o0.length * 2 := by
    induction o0 with
    | nil => rfl
    | cons z l ih => rw [List.flatMap_cons, List.length_append, ih, pdc_len]; simp; omega
  rw [List.flatMap_append, List.flatMap_append, List.set_append_right _ _ (by omega), hl, Nat.add_sub_cancel_left]
  simp [pdc, hy]
/-- The last piece of a row: its cells; a store of other bytes into it. -/
theorem ownx_last {w : World} {base m0 : Nat} {A : Option Addr} {c : Nat} {o0 : List PD} {x : PD} (hm : o0.length = m0) (h : OwnX pdc 2 w base 68 A c (o0 ++ [x])) :
    ∃ g, A = some ⟨g, 0, none⟩ ∧ base ≤ g ∧ g < w.heap.size ∧ w.cell? ⟨g, m0 * 2, none⟩ = some (.int .i64 x.off) ∧ w.cell? ⟨g, m0 * 2 + 1, none⟩ = some (.slice x.D x.data.length x.c) ∧ ∀ i, w.frozen? ⟨g, i, none⟩ = false := by
  subst hm
  have h' : w.ownsRow base 68 2 (.slice A (o0 ++ [x]).length c) (o0 ++ [x]).length ((o0 ++ [x]).flatMap pdc) := h
  obtain ⟨g, cap, hv, hb, hlt⟩ := World.ownsRow.form h' (by simp)
  injection hv with hA _ _
  subst hA
  have hget : ∀ j, j < 2 → ((o0 ++ [x]).flatMap pdc)[o0.length * 2 + j]? = (pdc x)[j]? := fun j hj => by
    have := flatMap_get (o0 ++ [x]) pdc 2 pdc_len pdn o0.length j (by simp) hj
    simpa using this
  refine ⟨g, rfl, hb, hlt, ?_, ?_, fun i => own_frozen h' i⟩
  · have := World.ownsRow.cells h' (g := g) rfl (o0.length * 2 + 0) _ (hget 0 (by decide))
    rwa [add_none, Nat.add_zero, Nat.zero_add] at this
  · have := World.ownsRow.cells h' (g := g) rfl (o0.length * 2 + 1) _ (hget 1 (by decide))
    rwa [add_none, Nat.zero_add] at this
theorem ownx_set {w : World} {base m0 g c : Nat} {o0 : List PD} {x y : PD} (hm : o0.length = m0) (h : OwnX pdc 2 w base 68 (some ⟨g, 0, none⟩) c (o0 ++ [x])) (hy : y.off = x.off) (l : Nat) (hl : y.data.length = l) :
    OwnX pdc 2 (w.setCell ⟨g, m0 * 2 + 1, none⟩ (.slice y.D l y.c)) base 68 (some ⟨g, 0, none⟩) c (o0 ++ [y]) := by
  subst hm
  subst hl
  have h' : w.ownsRow base 68 2 (.slice (some ⟨g, 0, none⟩) (o0 ++ [x]).length c) (o0 ++ [x]).length ((o0 ++ [x]).flatMap pdc) := h
  have h2 := (World.ownsRow.stored h' (o0.length * 2 + 1) (.slice y.D y.data.length y.c)).1
  rw [pdc_set o0 x y hy] at h2
  unfold OwnX
  simpa using h2
/-- Pieces that are read: those that came in, or that are handed on. -/
def RdP (w : World) (A : Option Addr) (l : List PD) : Prop := RdX pdc 2 w A l ∧ ∀ x ∈ l, RdB w x.D x.data ∧ x.data.length ≤ x.c ∧ x.c ≤ 9223372036854775807
theorem RdP.below {w w' : World} {A : Option Addr} {l : List PD} (h : RdP w A l) (hb : Below w.heap.size w w') : RdP w' A l := ⟨RdX.below h.1 hb, fun x hx => ⟨(h.2 x hx).1.below hb, (h.2 x hx).2⟩⟩
theorem RdP.nil (w : World) (A : Option Addr) : RdP w A [] := ⟨RdX.nil, fun x hx => absurd hx List.not_mem_nil⟩
theorem RdP.at_ {w : World} {A : Option Addr} {l : List PD} (h : RdP w A l) (hn : 0 < l.length) : ∃ b off, A = some ⟨b, off, none⟩ ∧ ∀ k, k < l.length → w.cell? ⟨b, off + k * 2, none⟩ = some (.int .i64 (l.getD k pdn).off) ∧ w.cell? ⟨b, off + k * 2 + 1, none⟩ = some (.slice (l.getD k pdn).D (l.getD k pdn).data.length (l.getD k pdn).c) := by
  obtain ⟨b, off, e, hc⟩ := RdX.at_ pdc_len h.1 pdn hn
  refine ⟨b, off, e, fun k hk => ⟨?_, ?_⟩⟩
  · have := hc k hk 0 _ (by decide) rfl; rwa [Nat.add_zero] at this
  · exact hc k hk 1 _ (by decide) rfl
theorem RdP.of_own {w : World} {base : Nat} {A : Option Addr} {c : Nat} {l : List PD} {bo : Option Nat} (h : OwnX pdc 2 w base 68 A c l) (hp : PDs w base bo l) : RdP w A l :=
  ⟨h.rd, fun x hx => ⟨OwnB.rd (hp.1 x hx).1, by have := (hp.1 x hx).1.cap; exact ⟨this.1, by have h2 := this.2; unfold maxLen at h2; omega⟩⟩⟩

/-! ### append, and where the new slice lies -/
theorem step_addP {w : World} {ops : Array Oper} {o : Oper} {a : Act} {K : Act → World → Prop} {Q : Exit → Act → World → Prop} {E' : Prop} (hg : o.guard = none) (s x : Operand)
    (ho : o.op = .call { callee := .builtin .append, args := #[s, x], argTypes := #[45, 45] })
    (base : Nat) (A : Option Addr) (m c : Nat) (l : List PD) (hl : l.length = m) (hs : a.eval s = .slice A m c) (hown : OwnX pdc 2 w base 68 A c l)
    (p : PD) (G d : Nat) (hx : a.eval x = .slice (some ⟨G, 0, none⟩) 1 d) (hr : Rd w 2 (some ⟨G, 0, none⟩) 1 (pdc p)) (k : Nat) (hk : m + 1 = k) (hm : m ≤ 1000) (hbase : base ≤ w.heap.size)
    (h : ∀ g cap w', OwnX pdc 2 w' base 68 (some ⟨g, 0, none⟩) cap (l ++ [p]) → k ≤ cap → cap ≤ 9223372036854775807 → Below base w w' → w.grownBy w' (A.map (·.block)) → (A.map (·.block) = some g ∨ g = w.heap.size) → K (a.put o.dst (.slice (some ⟨g, 0, none⟩) k cap)) w') :
    if Region.wanted o (yielded ops a.tmps) = true then Oper.wp Try.prog o a w K Q else E' := by
  subst hk
  subst hl
  obtain ⟨i, hi, hz, hsize, hby⟩ := info_parts pieceInfo
  have hown' : w.ownsRow base 68 2 (.slice A l.length c) l.length (l.flatMap pdc) := hown
  refine step_append_lies w hg s x 45 ho base 68 i _ 2 32 Try.underlying45 hi hz hsize hby rfl (by decide) _ l.length (l.flatMap pdc) hs hown' ⟨G, 0, none⟩ 1 d (pdc p) hx rfl ?_ (pdc_one1 p) (by decide) (by unfold maxLen; omega) (by omega) hbase _ rfl fun g cap w' h2 h3 h4 h5 => ?_
  · intro j u hu
    obtain ⟨b, off, e, hc⟩ := hr.2 (by decide)
    injection e with e; injection e with e1 e2; subst e1; subst e2
    rw [add_none]; exact hc j u hu
  · rw [own_blk] at h3 h4
    have h2' : OwnX pdc 2 w' base 68 (some ⟨g, 0, none⟩) cap (l ++ [p]) := by unfold OwnX; simpa using h2
    have hcap := h2'.cap
    rw [List.length_append] at hcap
    exact h g cap w' h2' hcap.1 hcap.2 ((Below.refl _ _).grown (by rw [← own_blk A l.length c] at h3; exact h3) hbase (fun k hk => (hown'.lt k hk).1)) h3 h4

theorem wpList_addP {w : World} {ops : Array Oper} {rest : List Oper} {o : Oper} {a : Act} {Q : Exit → Act → World → Prop} (hg : o.guard = none) (s x : Operand)
    (ho : o.op = .call { callee := .builtin .append, args := #[s, x], argTypes := #[45, 45] })
    (base : Nat) (A : Option Addr) (m c : Nat) (l : List PD) (hl : l.length = m) (hs : a.eval s = .slice A m c) (hown : OwnX pdc 2 w base 68 A c l)
    (p : PD) (G d : Nat) (hx : a.eval x = .slice (some ⟨G, 0, none⟩) 1 d) (hr : Rd w 2 (some ⟨G, 0, none⟩) 1 (pdc p)) (k : Nat) (hk : m + 1 = k) (hm : m ≤ 1000) (hbase : base ≤ w.heap.size)
    (h : ∀ g cap w', OwnX pdc 2 w' base 68 (some ⟨g, 0, none⟩) cap (l ++ [p]) → k ≤ cap → cap ≤ 9223372036854775807 → Below base w w' → w.grownBy w' (A.map (·.block)) → (A.map (·.block) = some g ∨ g = w.heap.size) → wpList Try.prog ops Q rest (a.put o.dst (.slice (some ⟨g, 0, none⟩) k cap)) w') : wpList Try.prog ops Q (o :: rest) a w := by
  subst hk
  subst hl
  obtain ⟨i, hi, hz, hsize, hby⟩ := info_parts pieceInfo
  have hown' : w.ownsRow base 68 2 (.slice A l.length c) l.length (l.flatMap pdc) := hown
  refine wpList_append_lies w hg s x 45 ho base 68 i _ 2 32 Try.underlying45 hi hz hsize hby rfl (by decide) _ l.length (l.flatMap pdc) hs hown' ⟨G, 0, none⟩ 1 d (pdc p) hx rfl ?_ (pdc_one1 p) (by decide) (by unfold maxLen; omega) (by omega) hbase _ rfl fun g cap w' h2 h3 h4 h5 => ?_
  · intro j u hu
    obtain ⟨b, off, e, hc⟩ := hr.2 (by decide)
    injection e with e; injection e with e1 e2; subst e1; subst e2
    rw [add_none]; exact hc j u hu
  · rw [own_blk] at h3 h4
    have h2' : OwnX pdc 2 w' base 68 (some ⟨g, 0, none⟩) cap (l ++ [p]) := by unfold OwnX; simpa using h2
    have hcap := h2'.cap
    rw [List.length_append] at hcap
    exact h g cap w' h2' hcap.1 hcap.2 ((Below.refl _ _).grown (by rw [← own_blk A l.length c] at h3; exact h3) hbase (fun k hk => (hown'.lt k hk).1)) h3 h4

theorem step_addB {w : World} {ops : Array Oper} {o : Oper} {a : Act} {K : Act → World → Prop} {Q : Exit → Act → World → Prop} {E' : Prop} (hg : o.guard = none) (s x : Operand)
    (ho : o.op = .call { callee := .builtin .append, args := #[s, x], argTypes := #[43, 43] })
    (base : Nat) (A : Option Addr) (m c : Nat) (us : List UInt8) (hl : us.length = m) (hs : a.eval s = .slice A m c) (hown : OwnB w base 5 A c us)
    (D : Option Addr) (n d : Nat) (bs : List UInt8) (hn : bs.length = n) (hx : a.eval x = .slice D n d) (hr : RdB w D bs) (h1 : 0 < n) (k : Nat) (hk : m + n = k) (hm : k ≤ 4294967296) (hbase : base ≤ w.heap.size)
    (h : ∀ g cap w', OwnB w' base 5 (some ⟨g, 0, none⟩) cap (us ++ bs) → k ≤ cap → cap ≤ 9223372036854775807 → Below base w w' → w.grownBy w' (A.map (·.block)) → (A.map (·.block) = some g ∨ g = w.heap.size) → g < w'.heap.size → K (a.put o.dst (.slice (some ⟨g, 0, none⟩) k cap)) w') :
    if Region.wanted o (yielded ops a.tmps) = true then Oper.wp Try.prog o a w K Q else E' := by
  subst hk
  subst hl
  subst hn
  obtain ⟨i, hi, hz, hsize, hby⟩ := info_parts u8_infoG
  obtain ⟨b, off, rfl, hc⟩ := hr.2 (by simpa using h1)
  have hown' : w.ownsRow base 5 1 (.slice A us.length c) us.length (u8s us) := hown
  refine step_append_lies w hg s x 43 ho base 5 i _ 1 1 Try.underlying43 hi hz hsize hby rfl (by decide) _ us.length (u8s us) hs hown' ⟨b, off, none⟩ bs.length d (u8s bs) hx (by rw [u8s_length]; omega) ?_ (u8s_one bs) h1 (by unfold maxLen; omega) (by omega) hbase _ rfl fun g cap w' h2 h3 h4 h5 => ?_
  · intro j u hu
    rw [add_none]; exact hc j u hu
  · rw [own_blk] at h3 h4
    have h2' : OwnB w' base 5 (some ⟨g, 0, none⟩) cap (us ++ bs) := by
      unfold OwnB; rw [u8s_append, List.length_append]; exact h2
    have hcap := h2'.cap
    rw [List.length_append] at hcap
    exact h g cap w' h2' hcap.1 (by have := hcap.2; unfold maxLen at this; omega) ((Below.refl _ _).grown (by rw [← own_blk A us.length c] at h3; exact h3) hbase (fun k hk => (hown'.lt k hk).1)) h3 h4 h5

/-! ### Plain -/
/-- One piece more: laid onto the last one, if it touches it. -/
def mstep (out : List (Int × List UInt8)) (p : Int × List UInt8) : List (Int × List UInt8) :=
  match out.getLast? with
  | none => out ++ [p]
  | some x => if x.1 + x.2.length = p.1 then out.dropLast ++ [(x.1, x.2 ++ p.2)] else out ++ [p]
def mergeP (l : List (Int × List UInt8)) : List (Int × List UInt8) := l.foldl mstep []
theorem mergeP_snoc (l : List (Int × List UInt8)) (p : Int × List UInt8) : mergeP (l ++ [p]) = mstep (mergeP l) p := by simp [mergeP]
theorem mstep_nil (p : Int × List UInt8) : mstep [] p = [p] := rfl
theorem mstep_far (l : List (Int × List UInt8)) (x p : Int × List UInt8) (h : x.1 + x.2.length ≠ p.1) : mstep (l ++ [x]) p = l ++ [x] ++ [p] := by
  simp [mstep, h]
theorem mstep_near (l : List (Int × List UInt8)) (x p : Int × List UInt8) (h : x.1 + x.2.length = p.1) : mstep (l ++ [x]) p = l ++ [(x.1, x.2 ++ p.2)] := by
  simp [mstep, h]
/-- How many bytes pieces have. -/
def psz (l : List (Int × List UInt8)) : Nat := (l.map (·.2.length)).sum
theorem psz_snoc (l : List (Int × List UInt8)) (p : Int × List UInt8) : psz (l ++ [p]) = psz l + p.2.length := by simp [psz]
theorem psz_mstep (l : List (Int × List UInt8)) (p : Int × List UInt8) : psz (mstep l p) = psz l + p.2.length := by
  rcases List.eq_nil_or_concat l with rfl | ⟨l0, x, rfl⟩
  · simp [mstep, psz]
  · rw [List.concat_eq_append]
    by_cases h : x.1 + x.2.length = p.1
    · rw [mstep_near _ _ _ h, psz_snoc, psz_snoc]; simp; omega
    · rw [mstep_far _ _ _ h, psz_snoc]
theorem psz_fold (l o : List (Int × List UInt8)) : psz (l.foldl mstep o) = psz o + psz l := by
  induction l generalizing o with
  | nil => simp [psz]
  | cons p l ih => rw [List.foldl_cons, ih, psz_mstep]; simp [psz]; omega
theorem psz_merge (l : List (Int × List UInt8)) : psz (mergeP l) = psz l := by
  unfold mergeP; rw [psz_fold]; simp [psz]
theorem psz_take (l : List (Int × List UInt8)) (k : Nat) : psz (l.take k) ≤ psz l := by
  have e : ∀ a b : List (Int × List UInt8), psz (a ++ b) = psz a + psz b := fun a b => by simp [psz]
  have : psz l = psz (l.take k) + psz (l.drop k) := by rw [← e, List.take_append_drop]
  omega
theorem psz_mem (l : List (Int × List UInt8)) (p : Int × List UInt8) (h : p ∈ l) : p.2.length ≤ psz l := by
  induction l with
  | nil => exact absurd h List.not_mem_nil
  | cons q l ih =>
    have e : psz (q :: l) = q.2.length + psz l := by simp [psz]
    rcases List.mem_cons.1 h with rfl | h
    · omega
    · have := ih h; omega
theorem mstep_len (l : List (Int × List UInt8)) (p : Int × List UInt8) : (mstep l p).length ≤ l.length + 1 := by
  rcases List.eq_nil_or_concat l with rfl | ⟨l0, x, rfl⟩
  · simp [mstep]
  · rw [List.concat_eq_append]
    by_cases h : x.1 + x.2.length = p.1
    · rw [mstep_near _ _ _ h]; simp
    · rw [mstep_far _ _ _ h]; simp
theorem fold_len (l o : List (Int × List UInt8)) : (l.foldl mstep o).length ≤ o.length + l.length := by
  induction l generalizing o with
  | nil => simp
  | cons p l ih => rw [List.foldl_cons]; have := ih (mstep o p); have := mstep_len o p; simp; omega
theorem mergeP_len (l : List (Int × List UInt8)) : (mergeP l).length ≤ l.length := by have := fold_len l []; simpa [mergeP] using this
end Go.Proofs.Ytolhlgalhhdkmab
