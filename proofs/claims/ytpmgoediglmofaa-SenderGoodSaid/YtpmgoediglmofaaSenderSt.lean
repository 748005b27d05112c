/- A sender that may be, in memory. -/
import Derived.Test.YtpmgoediglmofaaHolesBWalk
import Derived.Test.YtpmgoediglmofaaSpaceFresh
namespace Go.Proofs.Ytpmgoediglmofaa
open Go.ChangeShapes Go.WideShapes Go.ChangeAt Go.RowKit
set_option linter.unusedVariables false

theorem Blk.facts8 {w : World} {g : Nat} {t : TypeId} {a b c d e f i j : Value} (h : Blk w g t #[a, b, c, d, e, f, i, j]) : g < w.heap.size ∧ w.cell? ⟨g, 0, none⟩ = some a ∧ w.cell? ⟨g, 1, none⟩ = some b ∧ w.cell? ⟨g, 2, none⟩ = some c ∧ w.cell? ⟨g, 3, none⟩ = some d ∧ w.cell? ⟨g, 4, none⟩ = some e ∧ w.cell? ⟨g, 5, none⟩ = some f ∧ w.cell? ⟨g, 6, none⟩ = some i ∧ w.cell? ⟨g, 7, none⟩ = some j ∧
    w.frozen? ⟨g, 0, none⟩ = false ∧ w.frozen? ⟨g, 1, none⟩ = false ∧ w.frozen? ⟨g, 2, none⟩ = false ∧ w.frozen? ⟨g, 3, none⟩ = false ∧ w.frozen? ⟨g, 4, none⟩ = false ∧ w.frozen? ⟨g, 5, none⟩ = false ∧ w.frozen? ⟨g, 6, none⟩ = false ∧ w.frozen? ⟨g, 7, none⟩ = false :=
  ⟨h.lt, by rw [h.cell]; rfl, by rw [h.cell]; rfl, by rw [h.cell]; rfl, by rw [h.cell]; rfl, by rw [h.cell]; rfl, by rw [h.cell]; rfl, by rw [h.cell]; rfl, by rw [h.cell]; rfl, h.frozen 0, h.frozen 1, h.frozen 2, h.frozen 3, h.frozen 4, h.frozen 5, h.frozen 6, h.frozen 7⟩

theorem _root_.Go.RowKit.Below.drewN1 {B : Nat} {a w : World} (h : Below B a w) (k : Nat) : Below B a (w.drewN k) := ⟨h.os, h.tape, h.output, h.size, h.block⟩
/-- A sender that may be. -/
structure SnOk (n : Nat) (fin : Bool) (nx mx : Int) (lost acked : List Rng) (ended over : Bool) : Prop where
  n600 : n ≤ 600
  x0 : 0 ≤ nx
  x1 : nx ≤ n
  m0 : nx ≤ mx
  m1 : mx ≤ 4611686018427387903
  hl : goodFrom 0 lost
  ha : goodFrom 0 acked
  lh : ∀ i, memR lost i → i < nx
  ah : ∀ i, memR acked i → i < nx
  dj : ∀ i, memR lost i → ¬ memR acked i
  fe : fin = true ∨ (ended = false ∧ over = false)
  fn : (ended = false ∧ over = false) ∨ nx = n
  eo : ¬ (ended = true ∧ over = true)
theorem SnOk.cases {n : Nat} {fin : Bool} {nx mx : Int} {lost acked : List Rng} {ended over : Bool} (h : SnOk n fin nx mx lost acked ended over) :
    (ended = false ∧ over = false) ∨ (fin = true ∧ nx = n ∧ ended = true ∧ over = false) ∨ (fin = true ∧ nx = n ∧ ended = false ∧ over = true) := by
  have h1 := h.fe
  have h2 := h.fn
  have h3 := h.eo
  cases ended <;> cases over <;> simp_all
theorem SnOk.lh' {n : Nat} {fin : Bool} {nx mx : Int} {lost acked : List Rng} {ended over : Bool} (h : SnOk n fin nx mx lost acked ended over) : ∀ x ∈ lost, x.2 < nx := fun x hx => h.lh _ ⟨x, hx, good_each h.hl x hx, Int.le_refl _⟩
theorem SnOk.ah' {n : Nat} {fin : Bool} {nx mx : Int} {lost acked : List Rng} {ended over : Bool} (h : SnOk n fin nx mx lost acked ended over) : ∀ x ∈ acked, x.2 < nx := fun x hx => h.ah _ ⟨x, hx, good_each h.ha x hx, Int.le_refl _⟩
theorem SnOk.dj' {n : Nat} {fin : Bool} {nx mx : Int} {lost acked : List Rng} {ended over : Bool} (h : SnOk n fin nx mx lost acked ended over) : ∀ x ∈ lost, ∀ y ∈ acked, ¬ (x.1 ≤ y.2 ∧ y.1 ≤ x.2) := fun x hx y hy hxy => by
  have h1 := good_each h.hl x hx
  have h2 := good_each h.ha y hy
  by_cases hc : x.1 ≤ y.1
  · exact h.dj y.1 ⟨x, hx, hc, hxy.2⟩ ⟨y, hy, Int.le_refl _, h2⟩
  · exact h.dj x.1 ⟨x, hx, Int.le_refl _, h1⟩ ⟨y, hy, by omega, hxy.1⟩
/-- Few ranges below a number. -/
theorem good_few {nx : Int} {l : List Rng} (h : goodFrom 0 l) (hx : ∀ i, memR l i → i < nx) (h6 : nx ≤ 600) : l.length ≤ 301 := by
  have := good_len (M := 599) h (fun i hi => by have := hx i hi; omega) (by omega)
  omega
/-- The last range's end. -/
theorem lastHi {l : List Rng} {nx : Int} (h : ∀ x ∈ l, x.2 < nx) (k : Nat) (hk : k < l.length) : (l.getD k (0, 0)).2 < nx := by
  rw [show l.getD k (0, 0) = l[k] from by simp [List.getD, hk]]
  exact h _ (List.getElem_mem hk)

structure SnV (w : World) (A : Option Addr) (n c : Nat) (bs : List UInt8) (fin : Bool) (nx mx : Int) (B : Option Addr) (m d : Nat) (lost : List Rng) (C : Option Addr) (k e : Nat) (acked : List Rng) (ended over : Bool) : Prop where
  hn : bs.length = n
  hm : lost.length = m
  hk : acked.length = k
  hnc : n ≤ c
  hcm : c ≤ 9223372036854775807
  hmd : m ≤ d
  hdm : d ≤ 9223372036854775807
  hke : k ≤ e
  hem : e ≤ 9223372036854775807
  ok : SnOk n fin nx mx lost acked ended over
  ra : RdB w A bs
  rb : RdX rcells 2 w B lost
  rc : RdX rcells 2 w C acked
section
variable {w w' : World} {A : Option Addr} {n c : Nat} {bs : List UInt8} {fin : Bool} {nx mx : Int} {B : Option Addr} {m d : Nat} {lost : List Rng} {C : Option Addr} {k e : Nat} {acked : List Rng} {ended over : Bool}
theorem SnV.below (h : SnV w A n c bs fin nx mx B m d lost C k e acked ended over) (hb : Below w.heap.size w w') : SnV w' A n c bs fin nx mx B m d lost C k e acked ended over :=
  ⟨h.hn, h.hm, h.hk, h.hnc, h.hcm, h.hmd, h.hdm, h.hke, h.hem, h.ok, RdB.below h.ra hb, RdX.below h.rb hb, RdX.below h.rc hb⟩
end
/-- A sender's fields. -/
def sncells (A : Option Addr) (n c : Nat) (fin : Bool) (nx mx : Int) (B : Option Addr) (m d : Nat) (C : Option Addr) (k e : Nat) (ended over : Bool) : Array Value :=
  #[.slice A n c, .bool fin, .int .i64 nx, .int .i64 mx, .slice B m d, .slice C k e, .bool ended, .bool over]

section
variable {n : Nat} {fin : Bool} {nx mx : Int} {lost acked : List Rng} {ended over : Bool}
theorem SnOk.few (h : SnOk n fin nx mx lost acked ended over) : lost.length ≤ 301 ∧ acked.length ≤ 301 := ⟨good_few h.hl h.lh (by have := h.x1; have := h.n600; omega), good_few h.ha h.ah (by have := h.x1; have := h.n600; omega)⟩
theorem SnOk.begin (mx : Int) (h0 : 0 ≤ mx) (h1 : mx ≤ 4611686018427387903) : SnOk 0 false 0 mx [] [] false false :=
  ⟨by omega, by omega, by simp, h0, h1, trivial, trivial, fun i h => absurd h (memR_nil i), fun i h => absurd h (memR_nil i), fun i h => absurd h (memR_nil i), .inr ⟨rfl, rfl⟩, .inl ⟨rfl, rfl⟩, by simp⟩
theorem SnOk.write (h : SnOk n false nx mx lost acked ended over) (m : Nat) (hm : n + m ≤ 600) (f : Bool) : SnOk (n + m) f nx mx lost acked ended over := by
  have he : ended = false ∧ over = false := by rcases h.fe with h1 | h1; cases h1; exact h1
  exact ⟨hm, h.x0, by have := h.x1; omega, h.m0, h.m1, h.hl, h.ha, h.lh, h.ah, h.dj, .inr he, .inl he, h.eo⟩
theorem SnOk.grant (h : SnOk n fin nx mx lost acked ended over) (mst : Int) (h0 : mx ≤ mst) (h1 : mst ≤ 4611686018427387903) : SnOk n fin nx mst lost acked ended over :=
  ⟨h.n600, h.x0, h.x1, by have := h.m0; omega, h1, h.hl, h.ha, h.lh, h.ah, h.dj, h.fe, h.fn, h.eo⟩
/-- A piece from lo on, up to hi, is sent. -/
theorem SnOk.piece (h : SnOk n fin nx mx lost acked ended over) (lo hi : Int) (l0 : 0 ≤ lo) (l1 : lo < hi) (h1 : hi ≤ n) (h2 : hi ≤ mx) (f : Bool) (hf : f = true → fin = true ∧ ended = false ∧ over = false ∧ hi = n) : SnOk n fin (max nx hi) mx (cutR lost (lo, hi - 1)) acked (ended || f) over := by
  refine ⟨h.n600, by have := h.x0; omega, by have := h.x1; omega, by have := h.m0; omega, h.m1, cutR_good h.hl (lo, hi - 1) (by simp only; omega) 0 (Int.le_refl _), h.ha, fun i hi_ => ?_, fun i hi_ => by have := h.ah i hi_; omega, fun i hi_ => h.dj i ((cutR_mem _ _ (by simp only; omega) _).1 hi_).1, ?_, ?_, ?_⟩
  · have := h.lh i ((cutR_mem _ _ (by simp only; omega) _).1 hi_).1
    omega
  · cases f with
    | false => simpa using h.fe
    | true => exact .inl (hf rfl).1
  · cases f with
    | false =>
      rcases h.fn with h3 | h3
      · left; simpa using h3
      · right; omega
    | true => right; have := (hf rfl).2.2.2; have := h.x1; omega
  · cases f with
    | false => simpa using h.eo
    | true => have := (hf rfl).2.2.1; simp [this]
/-- The end alone is sent. -/
theorem SnOk.endOnly (h : SnOk n fin nx mx lost acked ended over) (hf : fin = true ∧ ended = false ∧ over = false ∧ nx = n) : SnOk n fin nx mx lost acked true over :=
  ⟨h.n600, h.x0, h.x1, h.m0, h.m1, h.hl, h.ha, h.lh, h.ah, h.dj, .inl hf.1, .inr hf.2.2.2, by simp [hf.2.2.1]⟩
/-- What may be told of. -/
def partOk (n : Nat) (fin : Bool) (nx : Int) (ended over : Bool) (off k : Int) (f : Bool) : Prop := 0 ≤ off ∧ 0 ≤ k ∧ off ≤ nx ∧ k ≤ nx - off ∧ (f = true → (ended = true ∨ over = true ∨ (fin = true ∧ nx = n)) ∧ off + k = n)
theorem SnOk.partEnd (h : SnOk n fin nx mx lost acked ended over) {off k : Int} (hp : partOk n fin nx ended over off k true) : fin = true ∧ nx = n := by
  rcases (hp.2.2.2.2 rfl).1 with h1 | h1 | h1
  · rcases h.cases with h2 | h2 | h2
    · rw [h2.1] at h1; cases h1
    · exact ⟨h2.1, h2.2.1⟩
    · exact ⟨h2.1, h2.2.1⟩
  · rcases h.cases with h2 | h2 | h2
    · rw [h2.2] at h1; cases h1
    · exact ⟨h2.1, h2.2.1⟩
    · exact ⟨h2.1, h2.2.1⟩
  · exact h1
theorem SnOk.heard (h : SnOk n fin nx mx lost acked ended over) (off k : Int) (f : Bool) (hp : partOk n fin nx ended over off k f) (hk : 0 < k) : SnOk n fin nx mx (cutR lost (off, off + k - 1)) (addR acked (off, off + k - 1) false) (if f then false else ended) (if f then true else over) := by
  obtain ⟨p0, p1, p2, p3, p4⟩ := hp
  have hr : (off, off + k - 1).1 ≤ (off, off + k - 1).2 := by simp only; omega
  refine ⟨h.n600, h.x0, h.x1, h.m0, h.m1, cutR_good h.hl _ hr 0 (Int.le_refl _), addR_good h.ha _ p0 hr (by have := h.x1; have := h.n600; simp only; omega), fun i hi => h.lh i ((cutR_mem _ _ hr _).1 hi).1, fun i hi => ?_, fun i hi hj => ?_, ?_, ?_, ?_⟩
  · rcases (addR_mem h.ha _ hr i).1 hi with h1 | h1
    · exact h.ah i h1
    · have := h1.2; simp only at this; omega
  · obtain ⟨h1, h2⟩ := (cutR_mem _ _ hr i).1 hi
    rcases (addR_mem h.ha _ hr i).1 hj with h3 | h3
    · exact h.dj i h1 h3
    · exact h2 h3
  · cases f with
    | false => exact h.fe
    | true => exact .inl (h.partEnd ⟨p0, p1, p2, p3, p4⟩).1
  · cases f with
    | false => exact h.fn
    | true => exact .inr (h.partEnd ⟨p0, p1, p2, p3, p4⟩).2
  · cases f with
    | false => exact h.eo
    | true => simp
theorem SnOk.heard0 (h : SnOk n fin nx mx lost acked ended over) (off : Int) (f : Bool) (hp : partOk n fin nx ended over off 0 f) : SnOk n fin nx mx lost acked (if f then false else ended) (if f then true else over) := by
  refine ⟨h.n600, h.x0, h.x1, h.m0, h.m1, h.hl, h.ha, h.lh, h.ah, h.dj, ?_, ?_, ?_⟩
  · cases f with
    | false => exact h.fe
    | true => exact .inl (h.partEnd hp).1
  · cases f with
    | false => exact h.fn
    | true => exact .inr (h.partEnd hp).2
  · cases f with
    | false => exact h.eo
    | true => simp
/-- Ranges that are added, one by one. -/
def addAll (l out : List Rng) : List Rng := l.foldl (fun o x => addR o x false) out
theorem addAll_ok (l : List Rng) {out : List Rng} (h : goodFrom 0 out) (hl : ∀ x ∈ l, 0 ≤ x.1 ∧ x.1 ≤ x.2 ∧ x.2 ≤ 4611686018427387903) : goodFrom 0 (addAll l out) ∧ ∀ i, memR (addAll l out) i ↔ memR out i ∨ memR l i := by
  induction l generalizing out with
  | nil => exact ⟨h, fun i => ⟨.inl, fun h => h.resolve_right (memR_nil i)⟩⟩
  | cons x l ih =>
    obtain ⟨h0, h1, h2⟩ := hl x List.mem_cons_self
    have hg := addR_good h x h0 h1 h2
    obtain ⟨h3, h4⟩ := ih hg fun y hy => hl y (List.mem_cons_of_mem _ hy)
    refine ⟨h3, fun i => ?_⟩
    show memR (addAll l (addR out x false)) i ↔ _
    rw [h4 i, addR_mem h x h1 i, memR_cons]
    exact or_assoc
theorem addAll_take (l : List Rng) (k : Nat) (hk : k < l.length) (out : List Rng) : addAll (l.take (k + 1)) out = addR (addAll (l.take k) out) (l.getD k (0, 0)) false := by
  unfold addAll
  rw [takeD l k (0, 0) hk, List.foldl_append]; rfl
theorem SnOk.lose (h : SnOk n fin nx mx lost acked ended over) (off k : Int) (f : Bool) (hp : partOk n fin nx ended over off k f) (hk : 0 < k) : SnOk n fin nx mx (addAll (holesR acked [(off, off + k - 1)]) lost) acked (ended && !f) over := by
  obtain ⟨p0, p1, p2, p3, p4⟩ := hp
  have hx1 := h.x1
  have hn6 := h.n600
  have hM : SetOk [(off, off + k - 1)] 600 := ⟨⟨p0, by simp only; omega, by simp only; omega, trivial⟩, fun i hi => by
    rcases (memR_cons _ _ _).1 hi with h1 | h1
    · have := h1.2; simp only at this; omega
    · exact absurd h1 (memR_nil i)⟩
  have hH := holesR_ok acked hM (good_each h.ha)
  have hmem := fun i => holesR_mem acked [(off, off + k - 1)] (good_each h.ha) i
  have hg0 : ∀ x ∈ holesR acked [(off, off + k - 1)], 0 ≤ x.1 ∧ x.1 ≤ x.2 ∧ x.2 ≤ 4611686018427387903 := fun x hx => by
    have h1 := good_each hH.1 x hx
    have h2 := goodFrom_low hH.1 x.1 ⟨x, hx, Int.le_refl _, h1⟩
    have h3 := hH.2 x.2 ⟨x, hx, h1, Int.le_refl _⟩
    omega
  obtain ⟨hA, hB⟩ := addAll_ok _ h.hl hg0
  refine ⟨h.n600, h.x0, h.x1, h.m0, h.m1, hA, h.ha, fun i hi => ?_, h.ah, fun i hi hj => ?_, ?_, ?_, ?_⟩
  · rcases (hB i).1 hi with h1 | h1
    · exact h.lh i h1
    · have h2 := ((hmem i).1 h1).1
      rcases (memR_cons _ _ _).1 h2 with h3 | h3
      · have := h3.2; simp only at this; omega
      · exact absurd h3 (memR_nil i)
  · rcases (hB i).1 hi with h1 | h1
    · exact h.dj i h1 hj
    · exact ((hmem i).1 h1).2 hj
  · rcases h.fe with h1 | h1
    · exact .inl h1
    · exact .inr ⟨by simp [h1.1], h1.2⟩
  · rcases h.fn with h1 | h1
    · exact .inl ⟨by simp [h1.1], h1.2⟩
    · exact .inr h1
  · have := h.eo
    cases ended <;> cases over <;> cases f <;> simp_all
theorem SnOk.lose0 (h : SnOk n fin nx mx lost acked ended over) (f : Bool) : SnOk n fin nx mx lost acked (ended && !f) over := by
  refine ⟨h.n600, h.x0, h.x1, h.m0, h.m1, h.hl, h.ha, h.lh, h.ah, h.dj, ?_, ?_, ?_⟩
  · rcases h.fe with h1 | h1
    · exact .inl h1
    · exact .inr ⟨by simp [h1.1], h1.2⟩
  · rcases h.fn with h1 | h1
    · exact .inl ⟨by simp [h1.1], h1.2⟩
    · exact .inr h1
  · have := h.eo
    cases ended <;> cases over <;> cases f <;> simp_all
end
end Go.Proofs.Ytpmgoediglmofaa
