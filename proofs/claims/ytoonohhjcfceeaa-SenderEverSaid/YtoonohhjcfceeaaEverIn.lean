/- Words for the walk of SenderEver: what stays while the sender's block and the map's are written; the state at the head of a round. -/
import Derived.Test.YtoonohhjcfceeaaEverU
import Derived.Test.YtoonohhjcfceeaaSnLose
import Derived.Test.YtoonohhjcfceeaaSnHeard
import Derived.Test.YtoonohhjcfceeaaSnOver
namespace Go.Proofs.Ytoonohhjcfceeaa
open Go.ChangeShapes Go.WideShapes Go.ChangeAt Go.RowKit
set_option linter.unusedVariables false

/-- What holds, and goes on holding while nobody writes but to gS and gM. -/
def KeptN (gS gM : Nat) (wr : World) (P : World → Prop) : Prop := ∀ W : World, (∀ q, q ≠ gS → q ≠ gM → q < wr.heap.size → W.heap[q]? = wr.heap[q]?) → P W
theorem KeptN.here {gS gM : Nat} {wr : World} {P : World → Prop} (h : KeptN gS gM wr P) : P wr := h wr fun _ _ _ _ => rfl
theorem KeptN.below {gS gM : Nat} {wr w' : World} {P : World → Prop} (h : KeptN gS gM wr P) (hb : Below wr.heap.size wr w') : KeptN gS gM w' P := fun W hW => h W fun q h1 h2 h3 => (hW q h1 h2 (Nat.lt_of_lt_of_le h3 hb.size)).trans (hb.block q h3)
theorem KeptN.setS {gS gM : Nat} {wr : World} {P : World → Prop} (h : KeptN gS gM wr P) (o : Nat) (u : Value) : KeptN gS gM (wr.setCell ⟨gS, o, none⟩ u) P := fun W hW => h W fun q h1 h2 h3 => (hW q h1 h2 (by simpa using h3)).trans (Below.heap_setCell wr ⟨gS, o, none⟩ u q h1)
theorem KeptN.map {gS gM : Nat} {wr w' : World} {P : World → Prop} (h : KeptN gS gM wr P) (hg : wr.grownBy w' (some gM)) : KeptN gS gM w' P := fun W hW => h W fun q h1 h2 h3 => (hW q h1 h2 (Nat.lt_of_lt_of_le h3 hg.size)).trans (hg.block q h3 fun e => h2 (Option.some.inj e))
theorem KeptN.imp {gS gM : Nat} {wr : World} {P Q : World → Prop} (h : KeptN gS gM wr P) (f : ∀ W, P W → Q W) : KeptN gS gM wr Q := fun W hW => f W (h W hW)
/-- What a call made stays, where the call's world lies behind gS and gM. -/
theorem SpKeep.keptN {gS gM : Nat} {wr w' : World} {P : World → Prop} (h : SpKeep wr w' P) (hs : gS < wr.heap.size) (hm : gM < wr.heap.size) : KeptN gS gM w' P := fun W hW => h W fun q h1 h2 => hW q (by omega) (by omega) h2
/-- What a call made stays, where gS and gM lie behind it. -/
theorem SpKeep.keptN0 {gS gM : Nat} {w0 w' : World} {P : World → Prop} (h : SpKeep w0 w' P) (hs : w'.heap.size ≤ gS) (hm : w'.heap.size ≤ gM) : KeptN gS gM w' P := fun W hW => h W fun q h1 h2 => hW q (by omega) (by omega) h2
/-- The blocks from a to b are as they were. -/
def Agr (a b : Nat) (w wx : World) : Prop := w.heap.size ≤ wx.heap.size ∧ ∀ q, a ≤ q → q < b → wx.heap[q]? = w.heap[q]?
theorem Agr.refl (a b : Nat) (w : World) : Agr a b w w := ⟨Nat.le_refl _, fun _ _ _ => rfl⟩
theorem Agr.set {a b : Nat} {w wx : World} (h : Agr a b w wx) {p : Addr} (hp : p.block < a ∨ b ≤ p.block) (u : Value) : Agr a b w (wx.setCell p u) := ⟨by simpa using h.1, fun q h1 h2 => (Below.heap_setCell wx p u q (by omega)).trans (h.2 q h1 h2)⟩
theorem Agr.set8 {a b g : Nat} {w wx : World} (h : Agr a b w wx) (hp : g < a ∨ b ≤ g) (u0 u1 u2 u3 u4 u5 u6 u7 : Value) : Agr a b w ((((((((wx.setCell ⟨g, 0, none⟩ u0).setCell ⟨g, 1, none⟩ u1).setCell ⟨g, 2, none⟩ u2).setCell ⟨g, 3, none⟩ u3).setCell ⟨g, 4, none⟩ u4).setCell ⟨g, 5, none⟩ u5).setCell ⟨g, 6, none⟩ u6).setCell ⟨g, 7, none⟩ u7) :=
  (((((((h.set (p := ⟨g, 0, none⟩) hp u0).set (p := ⟨g, 1, none⟩) hp u1).set (p := ⟨g, 2, none⟩) hp u2).set (p := ⟨g, 3, none⟩) hp u3).set (p := ⟨g, 4, none⟩) hp u4).set (p := ⟨g, 5, none⟩) hp u5).set (p := ⟨g, 6, none⟩) hp u6).set (p := ⟨g, 7, none⟩) hp u7
theorem Agr.set7 {a b g : Nat} {w wx : World} (h : Agr a b w wx) (hp : g < a ∨ b ≤ g) (u0 u1 u2 u3 u4 u5 u6 : Value) : Agr a b w (((((((wx.setCell ⟨g, 0, none⟩ u0).setCell ⟨g, 1, none⟩ u1).setCell ⟨g, 2, none⟩ u2).setCell ⟨g, 3, none⟩ u3).setCell ⟨g, 4, none⟩ u4).setCell ⟨g, 5, none⟩ u5).setCell ⟨g, 6, none⟩ u6) :=
  ((((((h.set (p := ⟨g, 0, none⟩) hp u0).set (p := ⟨g, 1, none⟩) hp u1).set (p := ⟨g, 2, none⟩) hp u2).set (p := ⟨g, 3, none⟩) hp u3).set (p := ⟨g, 4, none⟩) hp u4).set (p := ⟨g, 5, none⟩) hp u5).set (p := ⟨g, 6, none⟩) hp u6
theorem Agr.alloc {a b : Nat} {w wx : World} (h : Agr a b w wx) (hb : b ≤ wx.heap.size) (o : Obj) : Agr a b w (wx.alloc o) := ⟨Nat.le_trans h.1 (by simp), fun q h1 h2 => (((Below.refl wx.heap.size wx).alloc (Nat.le_refl _) o).block q (by omega)).trans (h.2 q h1 h2)⟩
theorem Agr.drew {a b : Nat} {w wx : World} (h : Agr a b w wx) : Agr a b w wx.drew := h
/-- What a call made stays behind stores that leave it alone. -/
theorem SpKeep.keptA {gS gM a b : Nat} {w0 w' wx : World} {P : World → Prop} (h : SpKeep w0 w' P) (ha : a = w0.heap.size) (hb : b = w'.heap.size) (hs : gS < a) (hm : gM < a) (hA : Agr a b w' wx) : KeptN gS gM wx P := fun W hW => h W fun q h1 h2 => by
  subst ha; subst hb
  exact (hW q (by omega) (by omega) (Nat.lt_of_lt_of_le h2 hA.1)).trans (hA.2 q h1 h2)
theorem Blk.newE {w : World} {t : TypeId} {cs : Array Value} {H : Nat} (hH : w.heap.size = H) : Blk (w.alloc (.cells cs t)) H t cs := by subst hH; exact Blk.new _ _ _
theorem Blk.setF {w : World} {g : Nat} {t : TypeId} {a b c d e f k : Value} (h : Blk w g t #[a, b, c, d, e, f, k]) (u0 u1 u2 u3 u4 u5 u6 : Value) : Blk (((((((w.setCell ⟨g, 0, none⟩ u0).setCell ⟨g, 1, none⟩ u1).setCell ⟨g, 2, none⟩ u2).setCell ⟨g, 3, none⟩ u3).setCell ⟨g, 4, none⟩ u4).setCell ⟨g, 5, none⟩ u5).setCell ⟨g, 6, none⟩ u6) g t #[u0, u1, u2, u3, u4, u5, u6] := by
  have h0 : Blk _ g t #[u0, b, c, d, e, f, k] := (h.set_ 0 u0).as (by simp)
  have h1 : Blk _ g t #[u0, u1, c, d, e, f, k] := (h0.set_ 1 u1).as (by simp)
  have h2 : Blk _ g t #[u0, u1, u2, d, e, f, k] := (h1.set_ 2 u2).as (by simp)
  have h3 : Blk _ g t #[u0, u1, u2, u3, e, f, k] := (h2.set_ 3 u3).as (by simp)
  have h4 : Blk _ g t #[u0, u1, u2, u3, u4, f, k] := (h3.set_ 4 u4).as (by simp)
  have h5 : Blk _ g t #[u0, u1, u2, u3, u4, u5, k] := (h4.set_ 5 u5).as (by simp)
  exact (h5.set_ 6 u6).as (by simp)
theorem Blk.setS {w : World} {g : Nat} {t : TypeId} {a b c d e f k l : Value} (h : Blk w g t #[a, b, c, d, e, f, k, l]) (u0 u1 u2 u3 u4 u5 u6 u7 : Value) : Blk ((((((((w.setCell ⟨g, 0, none⟩ u0).setCell ⟨g, 1, none⟩ u1).setCell ⟨g, 2, none⟩ u2).setCell ⟨g, 3, none⟩ u3).setCell ⟨g, 4, none⟩ u4).setCell ⟨g, 5, none⟩ u5).setCell ⟨g, 6, none⟩ u6).setCell ⟨g, 7, none⟩ u7) g t #[u0, u1, u2, u3, u4, u5, u6, u7] := by
  have h0 : Blk _ g t #[u0, b, c, d, e, f, k, l] := (h.set_ 0 u0).as (by simp)
  have h1 : Blk _ g t #[u0, u1, c, d, e, f, k, l] := (h0.set_ 1 u1).as (by simp)
  have h2 : Blk _ g t #[u0, u1, u2, d, e, f, k, l] := (h1.set_ 2 u2).as (by simp)
  have h3 : Blk _ g t #[u0, u1, u2, u3, e, f, k, l] := (h2.set_ 3 u3).as (by simp)
  have h4 : Blk _ g t #[u0, u1, u2, u3, u4, f, k, l] := (h3.set_ 4 u4).as (by simp)
  have h5 : Blk _ g t #[u0, u1, u2, u3, u4, u5, k, l] := (h4.set_ 5 u5).as (by simp)
  have h6 : Blk _ g t #[u0, u1, u2, u3, u4, u5, u6, l] := (h5.set_ 6 u6).as (by simp)
  exact (h6.set_ 7 u7).as (by simp)
theorem Blk.farF {w : World} {g q : Nat} {t : TypeId} {cs : Array Value} (h : Blk w g t cs) (hne : g ≠ q) (u0 u1 u2 u3 u4 u5 u6 : Value) : Blk (((((((w.setCell ⟨q, 0, none⟩ u0).setCell ⟨q, 1, none⟩ u1).setCell ⟨q, 2, none⟩ u2).setCell ⟨q, 3, none⟩ u3).setCell ⟨q, 4, none⟩ u4).setCell ⟨q, 5, none⟩ u5).setCell ⟨q, 6, none⟩ u6) g t cs := (((((((h.far (p := ⟨q, 0, none⟩) hne u0).far (p := ⟨q, 1, none⟩) hne u1).far (p := ⟨q, 2, none⟩) hne u2).far (p := ⟨q, 3, none⟩) hne u3).far (p := ⟨q, 4, none⟩) hne u4).far (p := ⟨q, 5, none⟩) hne u5).far (p := ⟨q, 6, none⟩) hne u6)
theorem Blk.farS {w : World} {g q : Nat} {t : TypeId} {cs : Array Value} (h : Blk w g t cs) (hne : g ≠ q) (u0 u1 u2 u3 u4 u5 u6 u7 : Value) : Blk ((((((((w.setCell ⟨q, 0, none⟩ u0).setCell ⟨q, 1, none⟩ u1).setCell ⟨q, 2, none⟩ u2).setCell ⟨q, 3, none⟩ u3).setCell ⟨q, 4, none⟩ u4).setCell ⟨q, 5, none⟩ u5).setCell ⟨q, 6, none⟩ u6).setCell ⟨q, 7, none⟩ u7) g t cs := (h.farF hne u0 u1 u2 u3 u4 u5 u6).far (p := ⟨q, 7, none⟩) hne u7
theorem Below.setF {B q : Nat} {a w : World} (h : Below B a w) (hq : B ≤ q) (u0 u1 u2 u3 u4 u5 u6 : Value) : Below B a (((((((w.setCell ⟨q, 0, none⟩ u0).setCell ⟨q, 1, none⟩ u1).setCell ⟨q, 2, none⟩ u2).setCell ⟨q, 3, none⟩ u3).setCell ⟨q, 4, none⟩ u4).setCell ⟨q, 5, none⟩ u5).setCell ⟨q, 6, none⟩ u6) := (((((((h.setCell (p := ⟨q, 0, none⟩) hq u0).setCell (p := ⟨q, 1, none⟩) hq u1).setCell (p := ⟨q, 2, none⟩) hq u2).setCell (p := ⟨q, 3, none⟩) hq u3).setCell (p := ⟨q, 4, none⟩) hq u4).setCell (p := ⟨q, 5, none⟩) hq u5).setCell (p := ⟨q, 6, none⟩) hq u6)
theorem Below.setS {B q : Nat} {a w : World} (h : Below B a w) (hq : B ≤ q) (u0 u1 u2 u3 u4 u5 u6 u7 : Value) : Below B a ((((((((w.setCell ⟨q, 0, none⟩ u0).setCell ⟨q, 1, none⟩ u1).setCell ⟨q, 2, none⟩ u2).setCell ⟨q, 3, none⟩ u3).setCell ⟨q, 4, none⟩ u4).setCell ⟨q, 5, none⟩ u5).setCell ⟨q, 6, none⟩ u6).setCell ⟨q, 7, none⟩ u7) := (Below.setF h hq u0 u1 u2 u3 u4 u5 u6).setCell (p := ⟨q, 7, none⟩) hq u7
/-- Stores into the sender's block leave what is kept. -/
theorem KeptN.set8 {gS gM : Nat} {wr : World} {P : World → Prop} (h : KeptN gS gM wr P) (u0 u1 u2 u3 u4 u5 u6 u7 : Value) : KeptN gS gM ((((((((wr.setCell ⟨gS, 0, none⟩ u0).setCell ⟨gS, 1, none⟩ u1).setCell ⟨gS, 2, none⟩ u2).setCell ⟨gS, 3, none⟩ u3).setCell ⟨gS, 4, none⟩ u4).setCell ⟨gS, 5, none⟩ u5).setCell ⟨gS, 6, none⟩ u6).setCell ⟨gS, 7, none⟩ u7) P := (((((((h.setS 0 u0).setS 1 u1).setS 2 u2).setS 3 u3).setS 4 u4).setS 5 u5).setS 6 u6).setS 7 u7
theorem MapU.set8 {w : World} {g cnt q : Nat} {D : (DataW Unit)} (h : MapU w g cnt D) (hp : g ≠ q) (u0 u1 u2 u3 u4 u5 u6 u7 : Value) : MapU ((((((((w.setCell ⟨q, 0, none⟩ u0).setCell ⟨q, 1, none⟩ u1).setCell ⟨q, 2, none⟩ u2).setCell ⟨q, 3, none⟩ u3).setCell ⟨q, 4, none⟩ u4).setCell ⟨q, 5, none⟩ u5).setCell ⟨q, 6, none⟩ u6).setCell ⟨q, 7, none⟩ u7) g cnt D := (((((((h.set (p := ⟨q, 0, none⟩) hp u0).set (p := ⟨q, 1, none⟩) hp u1).set (p := ⟨q, 2, none⟩) hp u2).set (p := ⟨q, 3, none⟩) hp u3).set (p := ⟨q, 4, none⟩) hp u4).set (p := ⟨q, 5, none⟩) hp u5).set (p := ⟨q, 6, none⟩) hp u6).set (p := ⟨q, 7, none⟩) hp u7

/-- The state at the head of a round. -/
def EvSt (w2 wr : World) (gS gM N : Nat) (bs : List UInt8) (over : Bool) (L i : Nat) : Prop := ∃ (nx : Int) (A : Option Addr) (c : Nat) (B : Option Addr) (m d : Nat) (lost : List Rng) (C : Option Addr) (k e : Nat) (acked : List Rng) (cnt : Nat) (D : DataW Unit),
  Blk wr gS 55 #[.slice A N c, .bool true, .int .i64 nx, .int .i64 300, .slice B m d, .slice C k e, .bool false, .bool over] ∧ KeptN gS gM wr (fun W => SnV W A N c bs true nx 300 B m d lost C k e acked false over) ∧ MapU wr gM cnt D ∧ Cnt D ∧ (∀ j : Int, Maps.has D (.int .i64 j) = true ↔ memR acked j) ∧ EvOk N nx lost acked over L i ∧ cnt ≤ 130 * i ∧ Below gS w2 wr
/-- The state behind the rounds. -/
def EvEnd (w2 wr : World) (gS gM N : Nat) (bs : List UInt8) (over : Bool) (L : Nat) : Prop := ∃ (nx : Int) (A : Option Addr) (c : Nat) (B : Option Addr) (m d : Nat) (lost : List Rng) (C : Option Addr) (k e : Nat) (acked : List Rng) (cnt : Nat) (D : DataW Unit),
  Blk wr gS 55 #[.slice A N c, .bool true, .int .i64 nx, .int .i64 300, .slice B m d, .slice C k e, .bool false, .bool over] ∧ SnV wr A N c bs true nx 300 B m d lost C k e acked false over ∧ MapU wr gM cnt D ∧ Cnt D ∧ (∀ j : Int, Maps.has D (.int .i64 j) = true ↔ memR acked j) ∧ (L ≤ 15 → over = true ∧ overR N acked over = true ∧ ∀ j, memR acked j ↔ 0 ≤ j ∧ j < (N : Int)) ∧ Below gS w2 wr
/-- What stands behind the region that asks Piece. -/
def EvCut (gS K : Nat) (bs : List UInt8) (w3 : World) (nx : Int) (lost acked : List Rng) (over : Bool) (k lo hi nd : Nat) (F got : Bool) (kd off : Int) (s14 s15 s16 s17 : Value) (wx : World) : Prop :=
  ∃ (g14 g15 : Nat) (A' : Option Addr) (c' : Nat) (B' : Option Addr) (m' d' : Nat) (C' : Option Addr) (k' : Nat) (T : Option Addr) (cd : Nat), s14 = .pointer (some ⟨g14, 0, none⟩) ∧ s15 = .pointer (some ⟨g15, 0, none⟩) ∧ s16 = .bool got ∧ s17 = .int .i64 0 ∧ (gS + 1 < g14 ∧ gS + 1 < g15 ∧ g14 ≠ g15) ∧
    Blk wx g14 55 #[.slice A' K c', .bool true, .int .i64 (max nx hi), .int .i64 300, .slice B' m' d', .slice C' k k', .bool F, .bool over] ∧
    Blk wx g15 59 #[.int .i64 kd, .int .i64 0, .int .i64 off, .bool F, .int .i64 0, .slice none 0 0, .slice T nd cd] ∧
    KeptN gS (gS + 1) wx (fun W => SnV W A' K c' bs true (max nx hi) 300 B' m' d' (pcLost lost lo hi) C' k k' acked F over ∧ RdB W T ((bs.drop lo).take nd)) ∧ nd ≤ cd ∧ cd ≤ 9223372036854775807 ∧ Below w3.heap.size w3 wx
theorem wf_i64E (n : Int) (h0 : -9223372036854775808 ≤ n) (h1 : n ≤ 9223372036854775807) : (Lit.int .i64 n).wf = true := by
  have h := wrap64_wf n
  have e : wrap64 n = n := (IntWalk.i64_left n).symm.trans (IntWalk.i64_in n ⟨h0, h1⟩)
  rwa [e] at h
theorem u8_wfE (v : UInt8) {x : Int} (h : ((v.toNat : Nat) : Int) = x) : (Lit.int .u8 x).wf = true := by
  subst h
  have := v.toNat_lt
  simp [Lit.wf, IntKind.min, IntKind.max, IntKind.signed, IntKind.bits]
  omega
theorem KeptN.and {gS gM : Nat} {wr : World} {P Q : World → Prop} (h : KeptN gS gM wr P) (h2 : KeptN gS gM wr Q) : KeptN gS gM wr (fun W => P W ∧ Q W) := fun W hW => ⟨h W hW, h2 W hW⟩
/-- The keys behind one more. -/
theorem has_step {D : DataW Unit} (hD : Maps.Tidy D) {S : Int → Prop} (h : ∀ q : Int, Maps.has D (.int .i64 q) = true ↔ S q) (n : Int) (d : DataW Unit) : ∀ q : Int, Maps.has (D.put (.int .i64 n) d) (.int .i64 q) = true ↔ S q ∨ q = n := fun q => by
  by_cases e : q = n
  · subst e; rw [Maps.has_put_same hD.isMap (keyLit64 _)]; simp
  · rw [Maps.has_put_other (litNe e), h]; simp [e]
theorem heardA_mem {acked : List Rng} (h : goodFrom 0 acked) (lo nd : Int) (h0 : 0 ≤ nd) (q : Int) : memR (heardA acked lo nd) q ↔ memR acked q ∨ (lo ≤ q ∧ q < lo + nd) := by
  unfold heardA
  by_cases hq : 0 < nd
  · rw [if_pos hq, addR_mem h _ (by simp only; omega)]
    simp only
    constructor
    · rintro (h1 | h1)
      · exact .inl h1
      · exact .inr ⟨h1.1, by omega⟩
    · rintro (h1 | h1)
      · exact .inl h1
      · exact .inr ⟨h1.1, by omega⟩
  · rw [if_neg hq]
    exact ⟨.inl, fun h1 => h1.resolve_right (by omega)⟩
/-- The state while the bytes of a piece go into the map. -/
def EvIn (w2 wr : World) (gS K : Nat) (bs : List UInt8) (X : Int) (A : Option Addr) (c : Nat) (B : Option Addr) (m d : Nat) (lost : List Rng) (C : Option Addr) (k e : Nat) (acked : List Rng) (over : Bool) (g15 : Nat) (kd off : Int) (F : Bool) (T : Option Addr) (nd cd : Nat) (data : List UInt8) (cnt : Nat) (D : DataW Unit) : Prop :=
  Blk wr gS 55 #[.slice A K c, .bool true, .int .i64 X, .int .i64 300, .slice B m d, .slice C k e, .bool false, .bool over] ∧ Blk wr g15 59 #[.int .i64 kd, .int .i64 0, .int .i64 off, .bool F, .int .i64 0, .slice none 0 0, .slice T nd cd] ∧
    KeptN gS (gS + 1) wr (fun W => SnV W A K c bs true X 300 B m d lost C k e acked false over ∧ RdB W T data) ∧ MapU wr (gS + 1) cnt D ∧ Below gS w2 wr
theorem EvIn.map {w2 wr wf : World} {gS K : Nat} {bs : List UInt8} {X : Int} {A : Option Addr} {c : Nat} {B : Option Addr} {m d : Nat} {lost : List Rng} {C : Option Addr} {k e : Nat} {acked : List Rng} {over : Bool} {g15 : Nat} {kd off : Int} {F : Bool} {T : Option Addr} {nd cd : Nat} {data : List UInt8} {cnt cnt' : Nat} {D D' : DataW Unit}
    (h : EvIn w2 wr gS K bs X A c B m d lost C k e acked over g15 kd off F T nd cd data cnt D) (hM : MapU wf (gS + 1) cnt' D') (hg : wr.grownBy wf (some (gS + 1))) : EvIn w2 wf gS K bs X A c B m d lost C k e acked over g15 kd off F T nd cd data cnt' D' :=
  ⟨h.1.mapU_grown h.2.2.2.1 hg, h.2.1.mapU_grown h.2.2.2.1 hg, h.2.2.1.map hg, hM, h.2.2.2.2.grown hg (by have := h.1.lt; omega) (fun j hj => by cases hj; omega)⟩
end Go.Proofs.Ytoonohhjcfceeaa
