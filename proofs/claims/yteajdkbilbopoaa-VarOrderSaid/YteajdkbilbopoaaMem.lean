/- Words for memory: a slice that reads as a list of cells, whatever world comes later; a block that is known whole. -/
import Derived.WalkKit
import Derived.Below
import Derived.Laws.OwnMore
import Derived.Laws.Rows
import Derived.Deep.AppendLies
import Derived.Deep.Draws
import Derived.Maps.AppendAt
import Derived.RegionTactic
import Derived.OwnWalk
import Derived.Deep.OwnRows
import Derived.Lib.Hide
import Derived.Laws.BytesArg
namespace Go.Proofs.Yteajdkbilbopoaa
open Go.RowKit
set_option linter.unusedVariables false

theorem block_of_add (a : Addr) (n : Nat) : (a.add n).block = a.block := by unfold Addr.add; split <;> rfl
theorem add_of_add (a : Addr) (i j : Nat) : (a.add i).add j = a.add (i + j) := by
  unfold Addr.add
  by_cases hi : i = 0 <;> by_cases hj : j = 0 <;> simp [hi, hj, Nat.add_assoc]
theorem add_none (b off j : Nat) : (⟨b, off, none⟩ : Addr).add j = ⟨b, off + j, none⟩ := by
  unfold Addr.add; split <;> simp_all

/-- The slice '.slice A n c' holds the cells xs, 'size' cells an element. -/
def Rd (w : World) (size : Nat) (A : Option Addr) (n : Nat) (xs : List Value) : Prop :=
  xs.length = n * size ∧ (0 < n → ∃ b off, A = some ⟨b, off, none⟩ ∧ ∀ j u, xs[j]? = some u → w.cell? ⟨b, off + j, none⟩ = some u)

section
variable {w w' : World} {size n : Nat} {A : Option Addr} {xs : List Value}
theorem Rd.nil : Rd w size A 0 [] := ⟨by simp, fun h => absurd h (by omega)⟩
theorem Rd.keep (h : Rd w size A n xs) (hk : ∀ p : Addr, p.block < w.heap.size → w'.cell? p = w.cell? p) : Rd w' size A n xs :=
  ⟨h.1, fun hn => by
    obtain ⟨b, off, e, hc⟩ := h.2 hn
    exact ⟨b, off, e, fun j u hu => (hk _ (World.block_lt_of_cell? w _ (hc j u hu))).trans (hc j u hu)⟩⟩
theorem Rd.below (h : Rd w size A n xs) (hb : Below w.heap.size w w') : Rd w' size A n xs := h.keep fun _ hp => hb.cell hp
theorem Rd.drew (h : Rd w size A n xs) : Rd w.drew size A n xs := h
theorem Rd.drewN (h : Rd w size A n xs) (k : Nat) : Rd (w.drewN k) size A n xs := h
theorem Rd.alloc (h : Rd w size A n xs) (o : Obj) : Rd (w.alloc o) size A n xs := h.keep fun p hp => World.cell?_alloc_lt w o p hp
theorem Rd.kept {B : Nat} (h : Rd w size A n xs) (hb : Below B w w') (hA : ∀ a, A = some a → a.block < B) : Rd w' size A n xs :=
  ⟨h.1, fun hn => by
    obtain ⟨b, off, e, hc⟩ := h.2 hn
    exact ⟨b, off, e, fun j u hu => (hb.cell (p := ⟨b, off + j, none⟩) (by have := hA _ e; exact this)).trans (hc j u hu)⟩⟩
theorem Rd.of_own {base : Nat} {e : TypeId} {c : Nat} (h : w.ownsRow base e size (.slice A n c) n xs) : Rd w size A n xs := by
  refine ⟨h.1, fun hn => ?_⟩
  obtain ⟨g, cap, hv, _, hlt⟩ := h.form hn
  have hA : A = some ⟨g, 0, none⟩ := by injection hv
  subst hA
  exact ⟨g, 0, rfl, fun j u hu => by have := h.cells (g := g) rfl j u hu; rwa [add_none] at this⟩
/-- A slice cut: 's[k:]', behind the capacity or not. -/
theorem Rd.cut (h : Rd w size A n xs) {k cap : Nat} (hk : k ≤ n) (hc : n ≤ cap) :
    Rd w size (if cap = k then A else A.map (·.add (k * size))) (n - k) (xs.drop (k * size)) := by
  refine ⟨by rw [List.length_drop, h.1, Nat.sub_mul], fun hn => ?_⟩
  obtain ⟨b, off, rfl, hcell⟩ := h.2 (by omega)
  rw [if_neg (by omega)]
  refine ⟨b, off + k * size, by simp [add_none], fun j u hu => ?_⟩
  rw [Nat.add_assoc]
  exact hcell _ u (by rw [← hu, List.getElem?_drop])
/-- 's[:k]'. -/
theorem Rd.front (h : Rd w size A n xs) {k : Nat} (hk : k ≤ n) : Rd w size A k (xs.take (k * size)) := by
  refine ⟨by rw [List.length_take, h.1]; exact Nat.min_eq_left (Nat.mul_le_mul_right _ hk), fun hn => ?_⟩
  obtain ⟨b, off, rfl, hcell⟩ := h.2 (by omega)
  refine ⟨b, off, rfl, fun j u hu => hcell j u ?_⟩
  rw [List.getElem?_take] at hu
  split at hu
  · exact hu
  · cases hu
end

/-- The cells of bytes. -/
def u8s (bs : List UInt8) : List Value := bs.map fun b => .int .u8 (b.toNat : Int)
theorem u8s_length (bs : List UInt8) : (u8s bs).length = bs.length := by simp [u8s]
theorem u8s_append (a b : List UInt8) : u8s (a ++ b) = u8s a ++ u8s b := by simp [u8s]
theorem u8s_drop (bs : List UInt8) (k : Nat) : (u8s bs).drop k = u8s (bs.drop k) := by simp [u8s, List.map_drop]
theorem u8s_take (bs : List UInt8) (k : Nat) : (u8s bs).take k = u8s (bs.take k) := by simp [u8s, List.map_take]
theorem u8s_get (bs : List UInt8) (j : Nat) (h : j < bs.length) : (u8s bs)[j]? = some (.int .u8 ((bs.getD j 0).toNat : Int)) := by
  simp [u8s, List.getD, h]
theorem u8s_one (bs : List UInt8) : ∀ u ∈ u8s bs, u.oneCell' = true := by
  intro u hu
  obtain ⟨_, _, rfl⟩ := List.mem_map.1 hu
  rfl
/-- A slice of bytes. -/
def RdB (w : World) (A : Option Addr) (bs : List UInt8) : Prop := Rd w 1 A bs.length (u8s bs)
section
variable {w w' : World} {A : Option Addr} {bs : List UInt8}
theorem RdB.nil : RdB w A [] := Rd.nil
theorem RdB.below (h : RdB w A bs) (hb : Below w.heap.size w w') : RdB w' A bs := Rd.below h hb
theorem RdB.cell (h : RdB w A bs) (hn : 0 < bs.length) : ∃ b off, A = some ⟨b, off, none⟩ ∧ ∀ j, j < bs.length → w.cell? ⟨b, off + j, none⟩ = some (.int .u8 ((bs.getD j 0).toNat : Int)) := by
  obtain ⟨b, off, e, hc⟩ := h.2 hn
  exact ⟨b, off, e, fun j hj => hc j _ (u8s_get bs j hj)⟩
theorem RdB.cut (h : RdB w A bs) {k cap : Nat} (hk : k ≤ bs.length) (hc : bs.length ≤ cap) : RdB w (if cap = k then A else A.map (·.add k)) (bs.drop k) := by
  have := Rd.cut (k := k) (cap := cap) h hk hc
  simpa only [RdB, Nat.mul_one, u8s_drop, List.length_drop] using this
theorem RdB.front (h : RdB w A bs) {k : Nat} (hk : k ≤ bs.length) : RdB w A (bs.take k) := by
  have := Rd.front (k := k) h hk
  simpa only [RdB, Nat.mul_one, u8s_take, List.length_take, Nat.min_eq_left hk] using this
end
theorem RdB.of_own {w : World} {base : Nat} {e : TypeId} {A : Option Addr} {c : Nat} {bs : List UInt8} (h : w.ownsRow base e 1 (.slice A bs.length c) bs.length (u8s bs)) : RdB w A bs := Rd.of_own h

/-- Block g is just the cells cs of element type t, none frozen. -/
def Blk (w : World) (g : Nat) (t : TypeId) (cs : Array Value) : Prop := w.heap[g]? = some (.cells cs t (0, 0))
section
variable {w w' : World} {g : Nat} {t : TypeId} {cs : Array Value}
theorem Blk.lt (h : Blk w g t cs) : g < w.heap.size := by
  rcases Nat.lt_or_ge g w.heap.size with hlt | hge
  · exact hlt
  · unfold Blk at h; rw [Array.getElem?_eq_none hge] at h; cases h
theorem Blk.cell (h : Blk w g t cs) (i : Nat) : w.cell? ⟨g, i, none⟩ = cs[i]? := cell_of_row w g i cs t (0, 0) h
theorem Blk.frozen (h : Blk w g t cs) (i : Nat) : w.frozen? ⟨g, i, none⟩ = false := by
  unfold Blk at h
  simp [World.frozen?, h]
theorem Blk.new (w : World) (t : TypeId) (cs : Array Value) : Blk (w.alloc (.cells cs t)) w.heap.size t cs := heap_alloc_new w _
theorem Blk.drew (h : Blk w g t cs) : Blk w.drew g t cs := h
theorem Blk.drewN (h : Blk w g t cs) (n : Nat) : Blk (w.drewN n) g t cs := h
theorem Blk.alloc (h : Blk w g t cs) (o : Obj) : Blk (w.alloc o) g t cs := (Below.heap_alloc w o g h.lt).trans h
theorem Blk.set_ (h : Blk w g t cs) (i : Nat) (u : Value) : Blk (w.setCell ⟨g, i, none⟩ u) g t (cs.setIfInBounds i u) := by
  unfold Blk at h ⊢
  simp [World.setCell, Array.getElem?_modify, h]
theorem Blk.far (h : Blk w g t cs) {p : Addr} (hp : g ≠ p.block) (u : Value) : Blk (w.setCell p u) g t cs := (Below.heap_setCell w p u g hp).trans h
theorem Blk.below {B : Nat} (h : Blk w g t cs) (hb : Below B w w') (hg : g < B) : Blk w' g t cs := (hb.block g hg).trans h
theorem Blk.grown {row : Option Nat} (h : Blk w g t cs) (hb : w.grownBy w' row) (hg : some g ≠ row) : Blk w' g t cs := (hb.block g h.lt hg).trans h
/-- A block known whole is a row that is owned. -/
theorem Blk.own {base size n : Nat} (h : Blk w g t cs) (hb : base ≤ g) (hs : cs.size = n * size) (hm : n ≤ maxLen) : w.ownsRow base t size (.slice (some ⟨g, 0, none⟩) n n) n cs.toList :=
  ⟨by simpa using hs, .inr ⟨g, n, cs, rfl, hb, h, Nat.le_refl _, hm, hs, List.take_of_length_le (by simp; omega)⟩⟩
end

/-- What 'make([]byte, n)' lays. -/
theorem zeros_u8 (n : Nat) : madeCells #[.int .u8 0] n = (u8s (List.replicate n 0)).toArray := by
  apply Array.ext
  · simp [size_madeCells, u8s]
  · intro i h1 h2
    simp [madeCells, u8s, Nat.mod_one]
theorem replicate_set {a : UInt8} (m j : Nat) (l : List UInt8) (hl : l.length = j) (h : 1 ≤ m) : (List.replicate m 0 ++ l).set (m - 1) a = List.replicate (m - 1) 0 ++ a :: l := by
  obtain ⟨m, rfl⟩ : ∃ k, m = k + 1 := ⟨m - 1, by omega⟩
  rw [List.replicate_succ', List.append_assoc, Nat.add_sub_cancel, List.set_append_right _ _ (by simp)]
  simp
theorem u8s_set (bs : List UInt8) (i : Nat) (b : UInt8) : (u8s bs).toArray.setIfInBounds i (.int .u8 (b.toNat : Int)) = (u8s (bs.set i b)).toArray := by
  simp [u8s, List.map_set]
theorem u8s_at (bs : List UInt8) (j : Nat) (h : j < bs.length) : (u8s bs).toArray[j]? = some (.int .u8 ((bs.getD j 0).toNat : Int)) := by
  simpa using u8s_get bs j h
theorem Blk.rdB {w : World} {g : Nat} {t : TypeId} {bs : List UInt8} (h : Blk w g t (u8s bs).toArray) : RdB w (some ⟨g, 0, none⟩) bs :=
  ⟨by simp [u8s], fun _ => ⟨g, 0, rfl, fun j u hu => by rw [h.cell, Nat.zero_add]; simpa using hu⟩⟩

/-- The string of bytes. -/
def byt (bs : List UInt8) : ByteArray := ⟨bs.toArray⟩
theorem byt_toList (bs : List UInt8) : (byt bs).toList = bs := by rw [ByteArray.toList_eq]; rfl
theorem RdB.str {w : World} {A : Option Addr} {bs : List UInt8} (h : RdB w A bs) {P : Program} (src dst e : TypeId) (c : Nat) (hs : P.underlying src = some (.slice e)) (he : P.underlying e = some (.int .u8)) (hd : P.underlying dst = some .string) :
    (convert src dst (.slice A bs.length c)).run P w = .ok (.string (byt bs)) w := by
  rcases Nat.eq_zero_or_pos bs.length with h0 | h0
  · obtain rfl := List.eq_nil_of_length_eq_zero h0
    rcases A with _ | ⟨b, off, spot⟩
    · exact run_convert_bytes_nil w src e hs he _ _ dst hd
    · rw [run_convert_bytes_string w src dst e _ _ _ hs he hd, run_bytesToString w _ _ _ [] (by simp [loadCells, loadCellsFrom])]
      rfl
  · obtain ⟨b, off, rfl, hc⟩ := h.cell h0
    have hx : ((bs.map fun b => (b.toNat : Int)).map fun n => UInt8.ofNat n.toNat) = bs := by
      rw [List.map_map]; conv => rhs; rw [← List.map_id bs]
      apply List.map_congr_left; intro b _; simp
    have := run_convert_bytes_arg (P := P) w src e hs he b off bs.length c (bs.map fun b => (b.toNat : Int)) (by simp) (fun i hi => by
      rw [hc i hi]; simp [List.getD, hi]) dst hd
    rw [this]
    congr 2
    exact WideShapes.bytes_inj (by rw [strOfNums_data, hx]; rfl)

/-- What the walk is told of a slice of integers that came in. -/
def IsRow (k : IntKind) (w : World) (a : Option Addr) (len cap : Nat) (zs : List Int) : Prop :=
  (a = none ∧ len = 0 ∧ cap = 0 ∧ zs = []) ∨
  ∃ x, a = some x ∧ len ≤ cap ∧ cap ≤ maxLen ∧ zs.length = cap ∧ (∀ i, i < zs.length → w.cell? (x.add i) = some (.int k (zs.getD i 0))) ∧ ∀ n ∈ zs, (Lit.int k n).wf = true

/-- A slice of bytes that came in reads as a list of bytes. -/
theorem IsRow.bytes {w : World} {a : Option Addr} {len cap : Nat} {zs : List Int} (h : IsRow .u8 w a len cap zs) :
    ∃ bs : List UInt8, bs.length = len ∧ RdB w a bs ∧ len ≤ cap ∧ cap ≤ maxLen := by
  rcases h with ⟨rfl, rfl, rfl, rfl⟩ | ⟨x, rfl, hl, hm, hz, hcell, hwz⟩
  · exact ⟨[], rfl, Rd.nil, Nat.le_refl _, by decide⟩
  · refine ⟨(zs.take len).map fun z => UInt8.ofNat z.toNat, by simp; omega, ?_, hl, hm⟩
    refine ⟨by simp [u8s], fun hn => ?_⟩
    have hlen : 0 < len := by simpa using (by simp at hn; omega : 0 < len)
    obtain ⟨b, off, spot⟩ := x
    have hc0 := hcell 0 (by omega)
    have hspot : spot = none := by simpa [Addr.add] using World.cell?_spot hc0
    subst hspot
    refine ⟨b, off, rfl, fun j u hu => ?_⟩
    have hj : j < len := by
      have := (List.getElem?_eq_some_iff.1 hu).1
      simp [u8s] at this; omega
    have hc := hcell j (by omega)
    rw [add_none] at hc
    rw [hc]
    have hw := hwz (zs.getD j 0) (by simp [List.getD, show j < zs.length by omega])
    have hb : 0 ≤ zs.getD j 0 ∧ zs.getD j 0 ≤ 255 := by
      revert hw; generalize zs.getD j 0 = z; intro hw
      simpa [Lit.wf, IntKind.min, IntKind.max, IntKind.signed, IntKind.bits] using hw
    have e : (u8s ((zs.take len).map fun z => UInt8.ofNat z.toNat))[j]? = some (.int .u8 (zs.getD j 0)) := by
      rw [u8s_get _ _ (by simp; omega)]
      simp [List.getD, show j < zs.length by omega, hj] at hb ⊢
      omega
    rw [e] at hu
    exact hu
end Go.Proofs.Yteajdkbilbopoaa
