/- A space to which raw things happened, with what became of each packet: words for the walk of 'spaced'. -/
import Derived.Test.YtoonohhjcfceeaaEnds
import Derived.Test.YtoonohhjcfceeaaSpaceLeap
import Derived.Test.YtoonohhjcfceeaaSpaceLie
import Derived.Test.YtoonohhjcfceeaaSpaceTell
import Derived.Test.YtoonohhjcfceeaaSomeWalk
namespace Go.Proofs.Ytoonohhjcfceeaa
open Go.ChangeShapes Go.WideShapes Go.ChangeAt Go.RowKit
open Go.Maps (Keyed int_keyed keyOf_int_mk)
set_option linter.unusedVariables false

theorem lawI : Keyed Try.prog 3 := int_keyed Try.underlying3
theorem zeroI (w : World) : (zeroValue 3).run Try.prog w = .ok (.int .i64 0) w := by kernel_rfl
/-- The map of numbers in block g reads as D. -/
def MapM (w : World) (g cnt : Nat) (D : MapD) : Prop := w.ownsMap Try.prog 3 (plainElem Try.prog 3) g cnt D
theorem cell_map_none {w : World} {g cnt : Nat} {D : MapD} (h : MapM w g cnt D) (o : Nat) : w.cell? ⟨g, o, none⟩ = none := by
  obtain ⟨es, clock, hb, _⟩ := h
  simp [World.cell?, hb]
theorem MapM.lt {w : World} {g cnt : Nat} {D : MapD} (h : MapM w g cnt D) : g < w.heap.size := by
  obtain ⟨es, clock, hb, _⟩ := h
  exact (Array.getElem?_eq_some_iff.1 hb).1
theorem MapM.of_block {w w' : World} {g cnt : Nat} {D : MapD} (h : MapM w g cnt D) (hb : w'.heap[g]? = w.heap[g]?) : MapM w' g cnt D := by
  obtain ⟨es, clock, h1, r⟩ := h
  exact ⟨es, clock, hb.trans h1, r⟩
theorem MapM.below {w w' : World} {g cnt : Nat} {D : MapD} (h : MapM w g cnt D) (hb : Below w.heap.size w w') : MapM w' g cnt D := h.of_block (hb.block g h.lt)
theorem MapM.set {w : World} {g cnt : Nat} {D : MapD} (h : MapM w g cnt D) {p : Addr} (hp : g ≠ p.block) (u : Value) : MapM (w.setCell p u) g cnt D := h.of_block (Below.heap_setCell w p u g hp)
theorem MapM.alloc {w : World} {g cnt : Nat} {D : MapD} (h : MapM w g cnt D) (o : Obj) : MapM (w.alloc o) g cnt D := h.below ((Below.refl _ _).alloc (Nat.le_refl _) _)
theorem Blk.map_ne {w : World} {g q cnt : Nat} {t : TypeId} {cs : Array Value} {D : MapD} (h : Blk w q t cs) (hm : MapM w g cnt D) : q ≠ g := fun e => by
  subst e
  obtain ⟨es, clock, hb, _⟩ := hm
  have h' : w.heap[q]? = some (.cells cs t (0, 0)) := h
  rw [h'] at hb
  injection hb with hb
  cases hb
theorem Blk.map_grown {w w' : World} {g q cnt : Nat} {t : TypeId} {cs : Array Value} {D : MapD} (h : Blk w q t cs) (hm : MapM w g cnt D) (hg : w.grownBy w' (some g)) : Blk w' q t cs := h.grown hg fun e => h.map_ne hm (Option.some.inj e)
theorem Rd.map_grown {w w' : World} {size n g cnt : Nat} {A : Option Addr} {xs : List Value} {D : MapD} (h : Rd w size A n xs) (hm : MapM w g cnt D) (hg : w.grownBy w' (some g)) : Rd w' size A n xs :=
  ⟨h.1, fun hn => by
    obtain ⟨b, off, rfl, hc⟩ := h.2 hn
    refine ⟨b, off, rfl, fun j v hv => ?_⟩
    have h1 := hc j v hv
    have hb : b ≠ g := fun e => by subst e; rw [cell_map_none hm] at h1; cases h1
    exact (World.cell?_of_block (hg.block b (World.block_lt_of_cell? w _ h1) (fun e => hb (Option.some.inj e)))).trans h1⟩
theorem SpV.map_grown {w w' : World} {nx : Int} {A : Option Addr} {n c : Nat} {top : Int} {B : Option Addr} {m d : Nat} {C : Option Addr} {k e : Nat} {ps : List Pcl} {hs : List Rng} {ks : List Int} {g cnt : Nat} {D : MapD} (h : SpV w nx A n c top B m d C k e ps hs ks) (hm : MapM w g cnt D) (hg : w.grownBy w' (some g)) : SpV w' nx A n c top B m d C k e ps hs ks :=
  ⟨h.hn, h.hm, h.hk, h.hnc, h.hcm, h.hmd, h.hdm, h.hke, h.hem, h.ok, Rd.map_grown h.ra hm hg, Rd.map_grown h.rb hm hg, Rd.map_grown h.rc hm hg⟩
/-- A row that is read, where a cell of another block is stored to. -/
theorem Rd.set_blk {w : World} {size n q : Nat} {A : Option Addr} {xs : List Value} {t : TypeId} {cs : Array Value} (h : Rd w size A n xs) (hq : Blk w q t cs) (hn : ∀ a, A = some a → 0 < n → a.block ≠ q) (i : Nat) (u : Value) : Rd (w.setCell ⟨q, i, none⟩ u) size A n xs :=
  ⟨h.1, fun h0 => by
    obtain ⟨b, off, rfl, hc⟩ := h.2 h0
    have hb : b ≠ q := hn _ rfl h0
    exact ⟨b, off, rfl, fun j v hv => (World.cell?_of_block (w := w) (Below.heap_setCell w ⟨q, i, none⟩ u b hb)).trans (hc j v hv)⟩⟩

/-- A space whose rows lie behind block g: whatever is done up to there. -/
def SpK (g : Nat) (wr : World) (nx : Int) (A : Option Addr) (n c : Nat) (top : Int) (B : Option Addr) (m d : Nat) (C : Option Addr) (k e : Nat) (ps : List Pcl) (hs : List Rng) (ks : List Int) : Prop :=
  ∀ W : World, (∀ q, g < q → q < wr.heap.size → W.heap[q]? = wr.heap[q]?) → SpV W nx A n c top B m d C k e ps hs ks
section
variable {g : Nat} {wr w' : World} {nx : Int} {A : Option Addr} {n c : Nat} {top : Int} {B : Option Addr} {m d : Nat} {C : Option Addr} {k e : Nat} {ps : List Pcl} {hs : List Rng} {ks : List Int}
theorem SpK.here (h : SpK g wr nx A n c top B m d C k e ps hs ks) : SpV wr nx A n c top B m d C k e ps hs ks := h wr fun _ _ _ => rfl
theorem SpK.agree (h : SpK g wr nx A n c top B m d C k e ps hs ks) (hs_ : wr.heap.size ≤ w'.heap.size) (ha : ∀ q, g < q → q < wr.heap.size → w'.heap[q]? = wr.heap[q]?) : SpK g w' nx A n c top B m d C k e ps hs ks :=
  fun W hW => h W fun q h1 h2 => (hW q h1 (Nat.lt_of_lt_of_le h2 hs_)).trans (ha q h1 h2)
theorem SpK.below (h : SpK g wr nx A n c top B m d C k e ps hs ks) (hb : Below wr.heap.size wr w') : SpK g w' nx A n c top B m d C k e ps hs ks := h.agree hb.size fun q _ h2 => hb.block q h2
theorem SpK.set (h : SpK g wr nx A n c top B m d C k e ps hs ks) {p : Addr} (hp : p.block ≤ g) (u : Value) : SpK g (wr.setCell p u) nx A n c top B m d C k e ps hs ks := h.agree (by simp) fun q h1 _ => Below.heap_setCell wr p u q (by omega)
theorem SpK.map (h : SpK g wr nx A n c top B m d C k e ps hs ks) (hg : wr.grownBy w' (some g)) : SpK g w' nx A n c top B m d C k e ps hs ks := h.agree hg.size fun q h1 h2 => hg.block q h2 fun e => by have := Option.some.inj e; omega
theorem SpK.drew (h : SpK g wr nx A n c top B m d C k e ps hs ks) : SpK g wr.drew nx A n c top B m d C k e ps hs ks := h
end
theorem SpKeep.spK {g : Nat} {w w' : World} {nx : Int} {A : Option Addr} {n c : Nat} {top : Int} {B : Option Addr} {m d : Nat} {C : Option Addr} {k e : Nat} {ps : List Pcl} {hs : List Rng} {ks : List Int} (h : SpKeep w w' (fun W => SpV W nx A n c top B m d C k e ps hs ks)) (hg : g < w.heap.size) : SpK g w' nx A n c top B m d C k e ps hs ks :=
  fun W hW => h W fun q h1 h2 => hW q (by omega) h2
theorem SpK.none (g : Nat) (w : World) : SpK g w 0 .none 0 0 (-1) .none 0 0 .none 0 0 [] [] [] := fun W _ => SpV.none W

theorem SpK.mono {g g' : Nat} {wr : World} {nx : Int} {A : Option Addr} {n c : Nat} {top : Int} {B : Option Addr} {m d : Nat} {C : Option Addr} {k e : Nat} {ps : List Pcl} {hs : List Rng} {ks : List Int} (h : SpK g wr nx A n c top B m d C k e ps hs ks) (hg : g' ≤ g) : SpK g' wr nx A n c top B m d C k e ps hs ks := fun W hW => h W fun q h1 h2 => hW q (by omega) h2

/-- The state behind i rounds. -/
def Spd (w wr : World) (gS gM i : Nat) (now : Int) : Prop := ∃ (nx : Int) (A : Option Addr) (n c : Nat) (top : Int) (B : Option Addr) (m d : Nat) (C : Option Addr) (k e : Nat) (ps : List Pcl) (hs : List Rng) (ks : List Int) (cnt : Nat) (D : MapD),
  Blk wr gS 26 #[.int .i64 nx, .slice A n c, .int .i64 top, .slice B m d, .slice C k e] ∧ SpK gM wr nx A n c top B m d C k e ps hs ks ∧ MapM wr gM cnt D ∧ EndsOk D nx (onWay ps) ∧ (nx ≤ i ∧ cnt ≤ 25 * i ∧ 0 ≤ now ∧ now ≤ 2 * i) ∧
  Blk wr w.heap.size 26 #[.int .i64 0, .slice none 0 0, .int .i64 0, .slice none 0 0, .slice none 0 0] ∧ (w.heap.size < gS ∧ gS < gM) ∧ Below w.heap.size w wr
theorem Spd.keep {w w2 wf : World} {gS gM i : Nat} {now nx : Int} {A : Option Addr} {n c : Nat} {top : Int} {B : Option Addr} {m d : Nat} {C : Option Addr} {k e : Nat} {ps : List Pcl} {hs : List Rng} {ks : List Int} {cnt : Nat} {D : MapD}
    (hS : Blk w2 gS 26 #[.int .i64 nx, .slice A n c, .int .i64 top, .slice B m d, .slice C k e]) (hV : SpK gM w2 nx A n c top B m d C k e ps hs ks) (hM : MapM w2 gM cnt D) (hE : EndsOk D nx (onWay ps)) (hn : nx ≤ i ∧ cnt ≤ 25 * i ∧ 0 ≤ now ∧ now ≤ 2 * i)
    (hR : Blk w2 w.heap.size 26 #[.int .i64 0, .slice none 0 0, .int .i64 0, .slice none 0 0, .slice none 0 0]) (hg : w.heap.size < gS ∧ gS < gM) (hB : Below w.heap.size w w2) (hb : Below w2.heap.size w2 wf) : Spd w wf gS gM i now :=
  ⟨nx, A, n, c, top, B, m, d, C, k, e, ps, hs, ks, cnt, D, hS.carry hb, hV.below hb, hM.below hb, hE, hn, hR.carry hb, hg, hB.trans (hb.mono hB.size)⟩
end Go.Proofs.Ytoonohhjcfceeaa
