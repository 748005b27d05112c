/- Texts of the proof, laid together: Num PickWalk Mem. -/
import Derived.WalkKit
import Derived.Laws.Bits64
import Derived.Laws.BitsAllLaws
import Derived.Test.YtbcagdjfegobnaaGreatRows
import Derived.ProofKit
import Derived.OpenShut
import Derived.WalkSpells
import Derived.WalkLawsBesides
import Derived.Outline
import Derived.Below
import Derived.Laws.OwnMore
import Derived.Laws.Rows
import Derived.Deep.AppendLies
import Derived.Deep.Draws
import Derived.Maps.AppendAt
import Derived.RegionTactic
import Derived.OwnWalk
import Derived.Deep.OwnRows
import Derived.Lib.Hide
import Derived.Laws.BytesArg
/- Plain numbers: what number and picked come to. -/
namespace Go.Proofs.YtbcagdjfegobnaaGreat
open Go.RowKit
set_option linter.unusedVariables false


theorem wrap_i64 (n : Int) : IntKind.i64.wrap n = (n + 9223372036854775808) % 18446744073709551616 - 9223372036854775808 := by
  simp [IntKind.wrap, IntKind.bits, IntKind.signed]; split <;> omega

theorem ofInt_toNat (n : Int) : ((BitVec.ofInt 64 n).toNat : Int) = n % 18446744073709551616 := by
  rw [BitVec.toNat_ofInt]; simp; omega

/-- 'n & MaxVar' of whatever int. -/
theorem and_maxvar (n : Int) : bits .and .i64 n 4611686018427387903 = n % 4611686018427387904 := by
  show IntKind.i64.wrap ((BitVec.ofInt 64 n &&& BitVec.ofInt 64 4611686018427387903).toNat : Int) = _
  have h : ((BitVec.ofInt 64 n &&& BitVec.ofInt 64 4611686018427387903).toNat : Int) = n % 4611686018427387904 := by
    rw [BitVec.toNat_and]
    have : (BitVec.ofInt 64 4611686018427387903).toNat = 2 ^ 62 - 1 := by decide
    rw [this, Nat.and_two_pow_sub_one_eq_mod, Int.natCast_emod, ofInt_toNat]
    omega
  rw [h, wrap_i64]; omega

/-- A number, from whatever int. -/
def numI (n : Int) : Int := n % 4611686018427387904
theorem numI_range (n : Int) : 0 ≤ numI n ∧ numI n ≤ 4611686018427387903 := by unfold numI; omega

theorem tmod_neg_add (n m : Int) (hm : 0 < m) (h : n.tmod m < 0) : n.tmod m + m = n % m := by
  have h1 := Int.emod_emod_of_dvd n (Int.dvd_refl m)
  rw [Int.tmod_eq_emod] at h ⊢
  split at h
  · have := Int.emod_nonneg n (Int.ne_of_gt hm); omega
  · rename_i hc
    rw [if_neg hc]
    have : (m.natAbs : Int) = m := by omega
    omega
theorem tmod_nonneg' (n m : Int) (hm : 0 < m) (h : 0 ≤ n.tmod m) : n.tmod m = n % m := by
  rw [Int.tmod_eq_emod] at h ⊢
  split at h
  · rename_i hc; rw [if_pos hc]; omega
  · rename_i hc
    rw [if_neg hc]
    have := Int.emod_lt_of_pos n hm
    have : (m.natAbs : Int) = m := by omega
    omega

/-- The same as_v a natural number. -/
def numN (n : Int) : Nat := (numI n).toNat
theorem numN_eq (n : Int) : numI n = (numN n : Int) := by have := numI_range n; unfold numN; omega
theorem numN_le (n : Int) : (numN n : Int) ≤ 4611686018427387903 := by have := numI_range n; unfold numN; omega
end Go.Proofs.YtbcagdjfegobnaaGreat
/- The contracts of picked. -/
namespace Go.Proofs.YtbcagdjfegobnaaGreat
open Go.ChangeShapes Go.WideShapes Go.ChangeAt Go.RowKit
set_option linter.unusedVariables false

theorem picked_any (n m : Int) (h0 : -9223372036854775808 ≤ n) (h1 : n ≤ 9223372036854775807) (hm : 0 < m) (hm1 : m ≤ 9223372036854775807) (w : World) :
    Calls Tryz.prog 15 #[.int .i64 n, .int .i64 m] w fun e w' => e = .returned (.int .i64 (n % m)) ∧ w = w' := by
  have hlt := Int.tmod_lt_of_pos n hm
  have hgt := Int.lt_tmod_of_pos n hm
  have hz : (m == 0) = false := by simp; omega
  go_enter Tryz.func15, Tryz.ntmps15
  go_wp2
  · have h := tmod_neg_add n m hm (by assumption)
    go_ret
    exact ⟨by rw [h]; rfl, rfl⟩
  · have h := tmod_nonneg' n m hm (by assumption)
    go_ret
    exact ⟨by rw [h]; rfl, rfl⟩

end Go.Proofs.YtbcagdjfegobnaaGreat
/- Words for memory: a slice that reads as_v a list of cells, whatever world comes later; a block that is known whole. -/
namespace Go.Proofs.YtbcagdjfegobnaaGreat
open Go.RowKit
set_option linter.unusedVariables false

theorem add_none (b off j : Nat) : (⟨b, off, none⟩ : Addr).add j = ⟨b, off + j, none⟩ := by
  unfold Addr.add; split <;> simp_all

/-- The slice '.slice A n c' holds the cells xs, 'size' cells an element. -/
def Rd (w : World) (size : Nat) (A : Option Addr) (n : Nat) (xs : List Value) : Prop :=
  xs.length = n * size ∧ (0 < n → ∃ b off, A = some ⟨b, off, none⟩ ∧ ∀ j u, xs[j]? = some u → w.cell? ⟨b, off + j, none⟩ = some u)

section
variable {w w' : World} {size n : Nat} {A : Option Addr} {xs : List Value}
theorem Rd.nil : Rd w size A 0 [] := ⟨by simp, fun h => absurd h (by omega)⟩
theorem Rd.keep (h : Rd w size A n xs) (hk : ∀ p : Addr, p.block < w.heap.size → w'.cell? p = w.cell? p) : Rd w' size A n xs :=
  ⟨h.1, fun hn => by
    obtain ⟨b, off, e, hc⟩ := h.2 hn
    exact ⟨b, off, e, fun j u hu => (hk _ (World.block_lt_of_cell? w _ (hc j u hu))).trans (hc j u hu)⟩⟩
theorem Rd.below (h : Rd w size A n xs) (hb : Below w.heap.size w w') : Rd w' size A n xs := h.keep fun _ hp => hb.cell hp
theorem Rd.drew (h : Rd w size A n xs) : Rd w.drew size A n xs := h
theorem Rd.drewN (h : Rd w size A n xs) (k : Nat) : Rd (w.drewN k) size A n xs := h
theorem Rd.alloc (h : Rd w size A n xs) (o : Obj) : Rd (w.alloc o) size A n xs := h.keep fun p hp => World.cell?_alloc_lt w o p hp
theorem Rd.of_own {base : Nat} {e : TypeId} {c : Nat} (h : w.ownsRow base e size (.slice A n c) n xs) : Rd w size A n xs := by
  refine ⟨h.1, fun hn => ?_⟩
  obtain ⟨g, cap, hv, _, hlt⟩ := h.form hn
  have hA : A = some ⟨g, 0, none⟩ := by injection hv
  subst hA
  exact ⟨g, 0, rfl, fun j u hu => by have := h.cells (g := g) rfl j u hu; rwa [add_none] at this⟩
/-- A slice cut: 's[k:]', behind the capacity or not. -/
theorem Rd.cut (h : Rd w size A n xs) {k cap : Nat} (hk : k ≤ n) (hc : n ≤ cap) :
    Rd w size (if cap = k then A else A.map (·.add (k * size))) (n - k) (xs.drop (k * size)) := by
  refine ⟨by rw [List.length_drop, h.1, Nat.sub_mul], fun hn => ?_⟩
  obtain ⟨b, off, rfl, hcell⟩ := h.2 (by omega)
  rw [if_neg (by omega)]
  refine ⟨b, off + k * size, by simp [add_none], fun j u hu => ?_⟩
  rw [Nat.add_assoc]
  exact hcell _ u (by rw [← hu, List.getElem?_drop])
/-- 's[:k]'. -/
theorem Rd.front (h : Rd w size A n xs) {k : Nat} (hk : k ≤ n) : Rd w size A k (xs.take (k * size)) := by
  refine ⟨by rw [List.length_take, h.1]; exact Nat.min_eq_left (Nat.mul_le_mul_right _ hk), fun hn => ?_⟩
  obtain ⟨b, off, rfl, hcell⟩ := h.2 (by omega)
  refine ⟨b, off, rfl, fun j u hu => hcell j u ?_⟩
  rw [List.getElem?_take] at hu
  split at hu
  · exact hu
  · cases hu
end

/-- The cells of bytes. -/
def u8s (bs : List UInt8) : List Value := bs.map fun b => .int .u8 (b.toNat : Int)
theorem u8s_length (bs : List UInt8) : (u8s bs).length = bs.length := by simp [u8s]
theorem u8s_append (a b : List UInt8) : u8s (a ++ b) = u8s a ++ u8s b := by simp [u8s]
theorem u8s_drop (bs : List UInt8) (k : Nat) : (u8s bs).drop k = u8s (bs.drop k) := by simp [u8s, List.map_drop]
theorem u8s_take (bs : List UInt8) (k : Nat) : (u8s bs).take k = u8s (bs.take k) := by simp [u8s, List.map_take]
theorem u8s_get (bs : List UInt8) (j : Nat) (h : j < bs.length) : (u8s bs)[j]? = some (.int .u8 ((bs.getD j 0).toNat : Int)) := by
  simp [u8s, List.getD, h]
theorem u8s_one (bs : List UInt8) : ∀ u ∈ u8s bs, u.oneCell' = true := by
  intro u hu
  obtain ⟨_, _, rfl⟩ := List.mem_map.1 hu
  rfl
/-- A slice of bytes. -/
def RdB (w : World) (A : Option Addr) (bs : List UInt8) : Prop := Rd w 1 A bs.length (u8s bs)
section
variable {w w' : World} {A : Option Addr} {bs : List UInt8}
theorem RdB.nil : RdB w A [] := Rd.nil
theorem RdB.below (h : RdB w A bs) (hb : Below w.heap.size w w') : RdB w' A bs := Rd.below h hb
theorem RdB.cell (h : RdB w A bs) (hn : 0 < bs.length) : ∃ b off, A = some ⟨b, off, none⟩ ∧ ∀ j, j < bs.length → w.cell? ⟨b, off + j, none⟩ = some (.int .u8 ((bs.getD j 0).toNat : Int)) := by
  obtain ⟨b, off, e, hc⟩ := h.2 hn
  exact ⟨b, off, e, fun j hj => hc j _ (u8s_get bs j hj)⟩
theorem RdB.cut (h : RdB w A bs) {k cap : Nat} (hk : k ≤ bs.length) (hc : bs.length ≤ cap) : RdB w (if cap = k then A else A.map (·.add k)) (bs.drop k) := by
  have := Rd.cut (k := k) (cap := cap) h hk hc
  simpa only [RdB, Nat.mul_one, u8s_drop, List.length_drop] using this
theorem RdB.front (h : RdB w A bs) {k : Nat} (hk : k ≤ bs.length) : RdB w A (bs.take k) := by
  have := Rd.front (k := k) h hk
  simpa only [RdB, Nat.mul_one, u8s_take, List.length_take, Nat.min_eq_left hk] using this
end
theorem RdB.of_own {w : World} {base : Nat} {e : TypeId} {A : Option Addr} {c : Nat} {bs : List UInt8} (h : w.ownsRow base e 1 (.slice A bs.length c) bs.length (u8s bs)) : RdB w A bs := Rd.of_own h

/-- Block g is just the cells cs of element type t, none frozen. -/
def Blk (w : World) (g : Nat) (t : TypeId) (cs : Array Value) : Prop := w.heap[g]? = some (.cells cs t (0, 0))
section
variable {w w' : World} {g : Nat} {t : TypeId} {cs : Array Value}
theorem Blk.lt (h : Blk w g t cs) : g < w.heap.size := by
  rcases Nat.lt_or_ge g w.heap.size with hlt | hge
  · exact hlt
  · unfold Blk at h; rw [Array.getElem?_eq_none hge] at h; cases h
theorem Blk.cell (h : Blk w g t cs) (i : Nat) : w.cell? ⟨g, i, none⟩ = cs[i]? := cell_of_row w g i cs t (0, 0) h
theorem Blk.frozen (h : Blk w g t cs) (i : Nat) : w.frozen? ⟨g, i, none⟩ = false := by
  unfold Blk at h
  simp [World.frozen?, h]
theorem Blk.new (w : World) (t : TypeId) (cs : Array Value) : Blk (w.alloc (.cells cs t)) w.heap.size t cs := heap_alloc_new w _
theorem Blk.drew (h : Blk w g t cs) : Blk w.drew g t cs := h
theorem Blk.drewN (h : Blk w g t cs) (n : Nat) : Blk (w.drewN n) g t cs := h
theorem Blk.alloc (h : Blk w g t cs) (o : Obj) : Blk (w.alloc o) g t cs := (Below.heap_alloc w o g h.lt).trans h
theorem Blk.set_ (h : Blk w g t cs) (i : Nat) (u : Value) : Blk (w.setCell ⟨g, i, none⟩ u) g t (cs.setIfInBounds i u) := by
  unfold Blk at h ⊢
  simp [World.setCell, Array.getElem?_modify, h]
theorem Blk.far (h : Blk w g t cs) {p : Addr} (hp : g ≠ p.block) (u : Value) : Blk (w.setCell p u) g t cs := (Below.heap_setCell w p u g hp).trans h
theorem Blk.below {B : Nat} (h : Blk w g t cs) (hb : Below B w w') (hg : g < B) : Blk w' g t cs := (hb.block g hg).trans h
theorem Blk.grown {row : Option Nat} (h : Blk w g t cs) (hb : w.grownBy w' row) (hg : some g ≠ row) : Blk w' g t cs := (hb.block g h.lt hg).trans h
/-- A block of two cells: what the walk asks of it. -/
theorem Blk.two {x y : Value} (h : Blk w g t #[x, y]) : w.cell? ⟨g, 0, none⟩ = some x ∧ w.cell? ⟨g, 1, none⟩ = some y ∧ w.frozen? ⟨g, 0, none⟩ = false ∧ w.frozen? ⟨g, 1, none⟩ = false :=
  ⟨by rw [h.cell]; rfl, by rw [h.cell]; rfl, h.frozen 0, h.frozen 1⟩
/-- A block known whole is a row that is owned. -/
theorem Blk.own {base size n : Nat} (h : Blk w g t cs) (hb : base ≤ g) (hs : cs.size = n * size) (hm : n ≤ maxLen) : w.ownsRow base t size (.slice (some ⟨g, 0, none⟩) n n) n cs.toList :=
  ⟨by simpa using hs, .inr ⟨g, n, cs, rfl, hb, h, Nat.le_refl _, hm, hs, List.take_of_length_le (by simp; omega)⟩⟩
end

/-- What 'make([]byte, n)' lays. -/
theorem zeros_u8 (n : Nat) : madeCells #[.int .u8 0] n = (u8s (List.replicate n 0)).toArray := by
  apply Array.ext
  · simp [size_madeCells, u8s]
  · intro i h1 h2
    simp [madeCells, u8s, Nat.mod_one]
theorem replicate_set {a : UInt8} (m j : Nat) (l : List UInt8) (hl : l.length = j) (h : 1 ≤ m) : (List.replicate m 0 ++ l).set (m - 1) a = List.replicate (m - 1) 0 ++ a :: l := by
  obtain ⟨m, rfl⟩ : ∃ k, m = k + 1 := ⟨m - 1, by omega⟩
  rw [List.replicate_succ', List.append_assoc, Nat.add_sub_cancel, List.set_append_right _ _ (by simp)]
  simp
theorem u8s_set (bs : List UInt8) (i : Nat) (b : UInt8) : (u8s bs).toArray.setIfInBounds i (.int .u8 (b.toNat : Int)) = (u8s (bs.set i b)).toArray := by
  simp [u8s, List.map_set]
theorem u8s_at (bs : List UInt8) (j : Nat) (h : j < bs.length) : (u8s bs).toArray[j]? = some (.int .u8 ((bs.getD j 0).toNat : Int)) := by
  simpa using u8s_get bs j h
theorem Blk.rdB {w : World} {g : Nat} {t : TypeId} {bs : List UInt8} (h : Blk w g t (u8s bs).toArray) : RdB w (some ⟨g, 0, none⟩) bs :=
  ⟨by simp [u8s], fun _ => ⟨g, 0, rfl, fun j u hu => by rw [h.cell, Nat.zero_add]; simpa using hu⟩⟩

/-- The string of bytes. -/
def byt (bs : List UInt8) : ByteArray := ⟨bs.toArray⟩
theorem byt_toList (bs : List UInt8) : (byt bs).toList = bs := by rw [ByteArray.toList_eq]; rfl
theorem RdB.str {w : World} {A : Option Addr} {bs : List UInt8} (h : RdB w A bs) {P : Program} (src dst e : TypeId) (c : Nat) (hs : P.underlying src = some (.slice e)) (he : P.underlying e = some (.int .u8)) (hd : P.underlying dst = some .string) :
    (convert src dst (.slice A bs.length c)).run P w = .ok (.string (byt bs)) w := by
  rcases Nat.eq_zero_or_pos bs.length with h0 | h0
  · obtain rfl := List.eq_nil_of_length_eq_zero h0
    rcases A with _ | ⟨b, off, spot⟩
    · exact run_convert_bytes_nil w src e hs he _ _ dst hd
    · rw [run_convert_bytes_string w src dst e _ _ _ hs he hd, run_bytesToString w _ _ _ [] (by simp [loadCells, loadCellsFrom])]
      rfl
  · obtain ⟨b, off, rfl, hc⟩ := h.cell h0
    have hx : ((bs.map fun b => (b.toNat : Int)).map fun n => UInt8.ofNat n.toNat) = bs := by
      rw [List.map_map]; conv => rhs; rw [← List.map_id bs]
      apply List.map_congr_left; intro b _; simp
    have := run_convert_bytes_arg (P := P) w src e hs he b off bs.length c (bs.map fun b => (b.toNat : Int)) (by simp) (fun i hi => by
      rw [hc i hi]; simp [List.getD, hi]) dst hd
    rw [this]
    congr 2
    exact WideShapes.bytes_inj (by rw [strOfNums_data, hx]; rfl)

/-! ### append onto a row of the call's own, the source nil, empty or not -/
section
variable {P : Program} (w : World)

theorem run_append_of_nil (base : Nat) (t ty e : TypeId) (i : TypeInfo) (size : Nat) (ht : P.underlying t = some (.slice e)) (hi : P.info? e = some i)
    (v : Value) (n : Nat) (xs : List Value) (hown : w.ownsRow base e size v n xs) (c : Nat) : (Builtin.append_ #[t, t] ty #[v, .slice none 0 c]).run P w = .ok v w := by
  rcases hown.2 with ⟨rfl, rfl⟩ | ⟨g, cap, cur, rfl, _, _, hnc, _⟩
  · simp [Builtin.append_, run_underlying ht, sizeOf, typeInfo, hi, Builtin.lenOf, Builtin.firstCells]
  · simp [Builtin.append_, run_underlying ht, sizeOf, typeInfo, hi, Builtin.lenOf, Builtin.firstCells, hnc, storeCells]

theorem run_append_any (base : Nat) (t ty e : TypeId) (i : TypeInfo) (z : Value) (size bytes : Nat) (ht : P.underlying t = some (.slice e)) (hi : P.info? e = some i) (hz : i.zero = some z)
    (hsize : i.size = size) (hby : i.bytes = bytes) (hzs : z.cells.size = size) (hsz : 0 < size)
    (v : Value) (n : Nat) (xs : List Value) (hown : w.ownsRow base e size v n xs)
    (A : Option Addr) (m c : Nat) (news : List Value) (hr : Rd w size A m news) (h1 : ∀ u ∈ news, u.oneCell' = true)
    (h63 : n + m ≤ maxLen) (hbytes : (n + m) * bytes ≤ 140737488355328) (hbase : base ≤ w.heap.size) :
    ∃ v' w', (Builtin.append_ #[t, t] ty #[v, .slice A m c]).run P w = .ok v' w' ∧ w'.ownsRow base e size v' (n + m) (xs ++ news) ∧ w.grownBy w' v.ownBlock ∧
      (v'.ownBlock = v.ownBlock ∨ v'.ownBlock = some w.heap.size) := by
  rcases A with _ | ad
  · have hm : m = 0 := by
      rcases Nat.eq_zero_or_pos m with h0 | h0
      · exact h0
      · obtain ⟨b, off, h, _⟩ := hr.2 h0
        cases h
    subst hm
    have hn : news = [] := List.eq_nil_of_length_eq_zero (by simpa using hr.1)
    subst hn
    exact ⟨v, w, run_append_of_nil w base t ty e i size ht hi v n xs hown c, by simpa using hown, World.grownBy.refl w _, .inl rfl⟩
  · have hcells : ∀ j u, news[j]? = some u → w.cell? (ad.add j) = some u := by
      intro j u hu
      rcases Nat.eq_zero_or_pos m with h0 | h0
      · subst h0
        have hn : news = [] := List.eq_nil_of_length_eq_zero (by simpa using hr.1)
        subst hn
        simp at hu
      · obtain ⟨b, off, h, hc⟩ := hr.2 h0
        injection h with h
        subst h
        rw [add_none]
        exact hc j u hu
    obtain ⟨v', w', hrun, h2, h3, _, h5⟩ := run_append_own_at (P := P) w base t ty e i z size bytes ht hi hz hsize hby hzs hsz v n xs hown ad m c news hr.1 hcells h1 h63 hbytes hbase
    exact ⟨v', w', hrun, h2, h3, h5⟩

/-- The shape of a value that owns n elements. -/
theorem own_shape {base : Nat} {e : TypeId} {size n : Nat} {v : Value} {xs : List Value} (h : w.ownsRow base e size v n xs) : ∃ A c, v = .slice A n c ∧ n ≤ c ∧ c ≤ maxLen := by
  rcases h.2 with ⟨rfl, rfl⟩ | ⟨g, cap, cur, rfl, _, _, h1, h2, _⟩
  · exact ⟨none, 0, rfl, Nat.le_refl _, by decide⟩
  · exact ⟨_, cap, rfl, h1, h2⟩

theorem wp_app {o : Oper} {a : Act} {K : Act → World → Prop} {Q : Exit → Act → World → Prop} (s x : Operand) (t : TypeId)
    (ho : o.op = .call { callee := .builtin .append, args := #[s, x], argTypes := #[t, t] })
    (base : Nat) (e : TypeId) (z : Value) (size bytes : Nat) (ht : P.underlying t = some (.slice e)) (hinfo : (P.info? e).map (fun i => (i.zero, i.size, i.bytes)) = some (some z, size, bytes))
    (hzs : z.cells.size = size) (hsz : 0 < size)
    (A0 : Option Addr) (c0 n : Nat) (xs : List Value) (hs : a.eval s = .slice A0 n c0) (hown : w.ownsRow base e size (.slice A0 n c0) n xs)
    (A : Option Addr) (m c : Nat) (news : List Value) (hx : a.eval x = .slice A m c) (hr : Rd w size A m news) (h1 : ∀ u ∈ news, u.oneCell' = true)
    (hbytes : (n + m) * bytes ≤ 140737488355328) (hb1 : 1 ≤ bytes) (hbase : base ≤ w.heap.size)
    (h : ∀ A' c' w', w'.ownsRow base e size (.slice A' (n + m) c') (n + m) (xs ++ news) → n + m ≤ c' → c' ≤ maxLen → Below base w w' → K (a.put o.dst (.slice A' (n + m) c')) w') : o.wp P a w K Q := by
  obtain ⟨i, hi, hz, hsize, hby⟩ := info_parts hinfo
  have h63 : n + m ≤ maxLen := by
    have : (n + m) * 1 ≤ (n + m) * bytes := Nat.mul_le_mul_left _ hb1
    unfold maxLen; omega
  obtain ⟨v', w', hrun, h2, h3, h4⟩ := run_append_any (P := P) w base t o.type e i z size bytes ht hi hz hsize hby hzs hsz _ n xs hown A m c news hr h1 h63 hbytes hbase
  obtain ⟨A', c', rfl, hc1, hc2⟩ := own_shape _ h2
  unfold Oper.wp execOp
  simp only [ho, resolve, invoke, builtin, Sem.run_bind, Sem.run_pure, Result.andThen_ok, List.map_toArray, List.map_cons, List.map_nil, hs, hx, hrun]
  exact h A' c' w' h2 hc1 hc2 ((Below.refl _ _).grown h3 hbase (fun k hk => (hown.lt k hk).1))

theorem wpList_app {ops : Array Oper} {rest : List Oper} {o : Oper} {a : Act} {Q : Exit → Act → World → Prop} (hgd : o.guard = none) (s x : Operand) (t : TypeId)
    (ho : o.op = .call { callee := .builtin .append, args := #[s, x], argTypes := #[t, t] })
    (base : Nat) (e : TypeId) (z : Value) (size bytes : Nat) (ht : P.underlying t = some (.slice e)) (hinfo : (P.info? e).map (fun i => (i.zero, i.size, i.bytes)) = some (some z, size, bytes))
    (hzs : z.cells.size = size) (hsz : 0 < size)
    (A0 : Option Addr) (c0 n : Nat) (xs : List Value) (hs : a.eval s = .slice A0 n c0) (hown : w.ownsRow base e size (.slice A0 n c0) n xs)
    (A : Option Addr) (m c : Nat) (news : List Value) (hx : a.eval x = .slice A m c) (hr : Rd w size A m news) (h1 : ∀ u ∈ news, u.oneCell' = true)
    (hbytes : (n + m) * bytes ≤ 140737488355328) (hb1 : 1 ≤ bytes) (hbase : base ≤ w.heap.size)
    (h : ∀ A' c' w', w'.ownsRow base e size (.slice A' (n + m) c') (n + m) (xs ++ news) → n + m ≤ c' → c' ≤ maxLen → Below base w w' → wpList P ops Q rest (a.put o.dst (.slice A' (n + m) c')) w') : wpList P ops Q (o :: rest) a w :=
  wpList_plain hgd fun _ hK => wp_app w s x t ho base e z size bytes ht hinfo hzs hsz A0 c0 n xs hs hown A m c news hx hr h1 hbytes hb1 hbase fun A' c' w' h2 h3 h4 h5 => hK _ _ (h A' c' w' h2 h3 h4 h5)
end

/-- A slice of bytes of the call's own. (E: the number of the type uint8.) -/
def OwnB (w : World) (base : Nat) (E : TypeId) (A : Option Addr) (c : Nat) (bs : List UInt8) : Prop := w.ownsRow base E 1 (.slice A bs.length c) bs.length (u8s bs)
section
variable {w w' : World} {base : Nat} {E : TypeId} {A : Option Addr} {c : Nat} {bs : List UInt8}
theorem OwnB.rd (h : OwnB w base E A c bs) : RdB w A bs := Rd.of_own h
theorem OwnB.cap (h : OwnB w base E A c bs) : bs.length ≤ c ∧ c ≤ maxLen := by
  obtain ⟨A', c', e, h1, h2⟩ := own_shape _ h
  injection e with _ _ e; subst e; exact ⟨h1, h2⟩
theorem OwnB.made (w : World) (base : Nat) (E : TypeId) (hb : base ≤ w.heap.size) : OwnB (w.alloc (.cells #[] E)) base E (some ⟨w.heap.size, 0, none⟩) 0 [] :=
  World.ownsRow_made w #[] 0 hb (by decide) (by simp)
theorem OwnB.nil (w : World) (base : Nat) (E : TypeId) : OwnB w base E none 0 [] := World.ownsRow_nil w base E 1
theorem OwnB.below {B : Nat} (h : OwnB w base E A c bs) (hb : Below B w w') (hB : w.heap.size ≤ B) : OwnB w' base E A c bs := by
  refine ⟨h.1, ?_⟩
  rcases h.2 with h2 | ⟨g, cap, cur, hv, hg, hh, r⟩
  · exact .inl h2
  · exact .inr ⟨g, cap, cur, hv, hg, by rw [hb.block g (by have := (Array.getElem?_eq_some_iff.1 hh).1; omega)]; exact hh, r⟩
theorem Blk.ownB {g : Nat} (h : Blk w g E (u8s bs).toArray) (hb : base ≤ g) (hm : bs.length ≤ maxLen) : OwnB w base E (some ⟨g, 0, none⟩) bs.length bs := by
  have := h.own (base := base) (size := 1) (n := bs.length) hb (by simp [u8s]) hm
  simpa [OwnB] using this
end

/-- Bytes of the call's own, opened: their block, the cells, a store. -/
theorem OwnB.opened {w : World} {base : Nat} {E : TypeId} {A : Option Addr} {c : Nat} {bs : List UInt8} (h : OwnB w base E A c bs) (hn : 0 < bs.length) :
    ∃ g, A = some ⟨g, 0, none⟩ ∧ base ≤ g ∧ g < w.heap.size ∧ (∀ j, j < bs.length → w.cell? ⟨g, j, none⟩ = some (.int .u8 ((bs.getD j 0).toNat : Int))) ∧ (∀ j, w.frozen? ⟨g, j, none⟩ = false) ∧
      ∀ j (b : UInt8), OwnB (w.setCell ⟨g, j, none⟩ (.int .u8 (b.toNat : Int))) base E A c (bs.set j b) := by
  rcases h.2 with ⟨_, h0⟩ | ⟨g, cap, cur, hv, hg, hh, _⟩
  · omega
  · injection hv with hA _ hcap
    subst hA; subst hcap
    refine ⟨g, rfl, hg, (Array.getElem?_eq_some_iff.1 hh).1, fun j hj => ?_, fun j => World.ownsRow.frozenAt h j, fun j b => ?_⟩
    · rw [World.ownsRow.cellAt h j (by simpa using hj)]; exact u8s_get bs j hj
    · have := (World.ownsRow.stored h j (.int .u8 (b.toNat : Int))).1
      unfold OwnB
      rw [List.length_set]
      have e : u8s (bs.set j b) = (u8s bs).set j (.int .u8 (b.toNat : Int)) := by simp [u8s, List.map_set]
      rw [e]; exact this

/-- append of bytes onto bytes of the call's own. -/
theorem wpList_appB {P : Program} (w : World) {ops : Array Oper} {rest : List Oper} {o : Oper} {a : Act} {Q : Exit → Act → World → Prop} (hgd : o.guard = none) (s x : Operand) (t : TypeId)
    (ho : o.op = .call { callee := .builtin .append, args := #[s, x], argTypes := #[t, t] })
    (base : Nat) (E : TypeId) (ht : P.underlying t = some (.slice E)) (hinfo : (P.info? E).map (fun i => (i.zero, i.size, i.bytes)) = some (some (.int .u8 0), 1, 1))
    (A0 : Option Addr) (n0 c0 : Nat) (as_v : List UInt8) (hs : a.eval s = .slice A0 n0 c0) (hn0 : as_v.length = n0) (hown : OwnB w base E A0 c0 as_v)
    (A : Option Addr) (m0 c : Nat) (bs : List UInt8) (hx : a.eval x = .slice A m0 c) (hm0 : bs.length = m0) (hr : RdB w A bs)
    (zs : List UInt8) (hz : as_v ++ bs = zs) (k : Nat) (hk : n0 + m0 = k) (hbytes : n0 + m0 ≤ 140737488355328) (hbase : base ≤ w.heap.size)
    (h : ∀ A' c' w', OwnB w' base E A' c' zs → k ≤ c' → c' ≤ 9223372036854775807 → Below base w w' → wpList P ops Q rest (a.put o.dst (.slice A' k c')) w') : wpList P ops Q (o :: rest) a w := by
  subst hz; subst hn0; subst hm0; subst hk
  refine wpList_app w hgd s x t ho base E (.int .u8 0) 1 1 ht hinfo rfl (by decide) A0 c0 as_v.length (u8s as_v) hs hown A bs.length c (u8s bs) hx hr (u8s_one bs) (by omega) (by decide) hbase fun A' c' w' h2 h3 h4 h5 => ?_
  rw [← u8s_append, ← List.length_append] at h2
  exact h A' c' w' h2 h3 (by unfold maxLen at h4; omega) h5

theorem RdB.one (w : World) (E : TypeId) (x : Int) (b : UInt8) (h : x = (b.toNat : Int)) : RdB (w.alloc (.cells #[.int .u8 x] E)) (some ⟨w.heap.size, 0, none⟩) [b] := by
  subst h
  exact (Blk.new w E #[.int .u8 (b.toNat : Int)]).rdB (bs := [b])

/-- What the walk is told of a slice of integers that came in. -/
def IsRow (k : IntKind) (w : World) (a : Option Addr) (len cap : Nat) (zs : List Int) : Prop :=
  (a = none ∧ len = 0 ∧ cap = 0 ∧ zs = []) ∨
  ∃ x, a = some x ∧ len ≤ cap ∧ cap ≤ maxLen ∧ zs.length = cap ∧ (∀ i, i < zs.length → w.cell? (x.add i) = some (.int k (zs.getD i 0))) ∧ ∀ n ∈ zs, (Lit.int k n).wf = true

/-- A slice of bytes that came in reads as_v a list of bytes. -/
theorem IsRow.bytes {w : World} {a : Option Addr} {len cap : Nat} {zs : List Int} (h : IsRow .u8 w a len cap zs) :
    ∃ bs : List UInt8, bs.length = len ∧ RdB w a bs ∧ len ≤ cap ∧ cap ≤ maxLen := by
  rcases h with ⟨rfl, rfl, rfl, rfl⟩ | ⟨x, rfl, hl, hm, hz, hcell, hwz⟩
  · exact ⟨[], rfl, Rd.nil, Nat.le_refl _, by decide⟩
  · refine ⟨(zs.take len).map fun z => UInt8.ofNat z.toNat, by simp; omega, ?_, hl, hm⟩
    refine ⟨by simp [u8s], fun hn => ?_⟩
    have hlen : 0 < len := by simpa using (by simp at hn; omega : 0 < len)
    obtain ⟨b, off, spot⟩ := x
    have hc0 := hcell 0 (by omega)
    have hspot : spot = none := by simpa [Addr.add] using World.cell?_spot hc0
    subst hspot
    refine ⟨b, off, rfl, fun j u hu => ?_⟩
    have hj : j < len := by
      have := (List.getElem?_eq_some_iff.1 hu).1
      simp [u8s] at this; omega
    have hc := hcell j (by omega)
    rw [add_none] at hc
    rw [hc]
    have hw := hwz (zs.getD j 0) (by simp [List.getD, show j < zs.length by omega])
    have hb : 0 ≤ zs.getD j 0 ∧ zs.getD j 0 ≤ 255 := by
      revert hw; generalize zs.getD j 0 = z; intro hw
      simpa [Lit.wf, IntKind.min, IntKind.max, IntKind.signed, IntKind.bits] using hw
    have e : (u8s ((zs.take len).map fun z => UInt8.ofNat z.toNat))[j]? = some (.int .u8 (zs.getD j 0)) := by
      rw [u8s_get _ _ (by simp; omega)]
      simp [List.getD, show j < zs.length by omega, hj] at hb ⊢
      omega
    rw [e] at hu
    exact hu

theorem i64_bounds' {a : Int} (h : (Lit.int .i64 a).wf = true) : -9223372036854775808 ≤ a ∧ a ≤ 9223372036854775807 := by
  simpa [Lit.wf, IntKind.min, IntKind.max, IntKind.signed, IntKind.bits] using h

/-! ### Raw things that came in -/
structure RawD where
  kind : Int
  a : Int
  b : Int
  text : ByteArray
def rawCells (r : RawD) : List Value := [.int .i64 r.kind, .int .i64 r.a, .int .i64 r.b, .string r.text]
def RawOk (r : RawD) : Prop := (-9223372036854775808 ≤ r.kind ∧ r.kind ≤ 9223372036854775807) ∧ (-9223372036854775808 ≤ r.a ∧ r.a ≤ 9223372036854775807) ∧ (-9223372036854775808 ≤ r.b ∧ r.b ≤ 9223372036854775807) ∧ r.text.size ≤ maxLen
def rawNone : RawD := ⟨0, 0, 0, ByteArray.empty⟩
/-- What the walk is told of a slice of raw things that came in. -/
def IsRaws (w : World) (A : Option Addr) (len cap : Nat) (rs : List RawD) : Prop :=
  rs.length = len ∧ Rd w 4 A len (rs.flatMap rawCells) ∧ len ≤ cap ∧ cap ≤ maxLen ∧ ∀ k, k < len → RawOk (rs.getD k rawNone)

theorem flatMap_get {α : Type} (l : List α) (f : α → List Value) (m : Nat) (hf : ∀ x, (f x).length = m) (d : α) (k j : Nat) (hk : k < l.length) (hj : j < m) : (l.flatMap f)[k * m + j]? = (f (l.getD k d))[j]? := by
  induction l generalizing k with
  | nil => simp at hk
  | cons x l ih =>
    rw [List.flatMap_cons]
    cases k with
    | zero => rw [List.getElem?_append_left (by rw [hf]; omega)]; simp
    | succ k =>
      have hlk : k < l.length := by simp at hk; omega
      rw [List.getElem?_append_right (by rw [hf, Nat.add_mul]; omega), hf]
      rw [show (k + 1) * m + j - m = k * m + j from by rw [Nat.add_mul]; omega, ih k hlk]
      simp

theorem flatMap_take {α : Type} (l : List α) (f : α → List Value) (m : Nat) (hf : ∀ x, (f x).length = m) (k : Nat) : (l.flatMap f).take (k * m) = (l.take k).flatMap f := by
  induction l generalizing k with
  | nil => simp
  | cons x l ih =>
    cases k with
    | zero => simp
    | succ k => rw [List.flatMap_cons, List.take_succ_cons, List.flatMap_cons, show (k + 1) * m = (f x).length + k * m from by rw [hf, Nat.add_mul]; omega, List.take_length_add_append, ih]

theorem IsRaws.keep {w w' : World} {A : Option Addr} {len cap : Nat} {rs : List RawD} (h : IsRaws w A len cap rs) (hb : Below w.heap.size w w') : IsRaws w' A len cap rs :=
  ⟨h.1, h.2.1.below hb, h.2.2⟩
/-- One raw thing's cells. -/
theorem IsRaws.at_ {w : World} {A : Option Addr} {len cap : Nat} {rs : List RawD} (h : IsRaws w A len cap rs) (hn : 0 < len) : ∃ b off, A = some ⟨b, off, none⟩ ∧ ∀ k, k < len →
    w.cell? ⟨b, off + k * 4, none⟩ = some (.int .i64 (rs.getD k rawNone).kind) ∧ w.cell? ⟨b, off + k * 4 + 1, none⟩ = some (.int .i64 (rs.getD k rawNone).a) ∧
    w.cell? ⟨b, off + k * 4 + 2, none⟩ = some (.int .i64 (rs.getD k rawNone).b) ∧ w.cell? ⟨b, off + k * 4 + 3, none⟩ = some (.string (rs.getD k rawNone).text) := by
  obtain ⟨hl, hr, _⟩ := h
  obtain ⟨b, off, e, hc⟩ := hr.2 hn
  refine ⟨b, off, e, fun k hk => ?_⟩
  have g : ∀ j, j < 4 → (rs.flatMap rawCells)[k * 4 + j]? = (rawCells (rs.getD k rawNone))[j]? := fun j hj => flatMap_get rs rawCells 4 (fun _ => rfl) rawNone k j (by omega) hj
  refine ⟨hc (k * 4) _ (g 0 (by decide)), ?_, ?_, ?_⟩
  · rw [Nat.add_assoc]; exact hc _ _ (g 1 (by decide))
  · rw [Nat.add_assoc]; exact hc _ _ (g 2 (by decide))
  · rw [Nat.add_assoc]; exact hc _ _ (g 3 (by decide))
/-- The first ones. -/
theorem IsRaws.front {w : World} {A : Option Addr} {len cap : Nat} {rs : List RawD} (h : IsRaws w A len cap rs) (k : Nat) (hk : k ≤ len) : IsRaws w A k cap (rs.take k) := by
  obtain ⟨hl, hr, hc, hm, ho⟩ := h
  refine ⟨by rw [List.length_take]; omega, ?_, by omega, hm, fun j hj => ?_⟩
  · have := hr.front hk
    have e : (rs.flatMap rawCells).take (k * 4) = (rs.take k).flatMap rawCells := flatMap_take rs rawCells 4 (fun _ => rfl) k
    rwa [e] at this
  · have : (rs.take k).getD j rawNone = rs.getD j rawNone := by simp [List.getD, hj]
    rw [this]; exact ho j (by omega)

/-! ### A world behind a name: what is told of it, and nothing else -/
theorem wp_world {P : Program} {c : Code} {Q : Exit → Act → World → Prop} {a : Act} {w : World} (T : World → Prop) (h : T w) (k : ∀ w', T w' → c.wp P Q a w') : c.wp P Q a w := k w h
theorem calls_world {P : Program} {f : FuncId} {args : Array Value} {w : World} {R : Ending → World → Prop} (T : World → Prop) (h : T w) (k : ∀ w', T w' → Calls P f args w' R) : Calls P f args w R := k w h
theorem Blk.as {w : World} {g : Nat} {t : TypeId} {cs ds : Array Value} (h : Blk w g t cs) (e : cs = ds) : Blk w g t ds := e ▸ h
theorem Blk.carry {w0 w' : World} {g : Nat} {t : TypeId} {cs : Array Value} (h : Blk w0 g t cs) (hb : Below w0.heap.size w0 w') : Blk w' g t cs := h.below hb h.lt
theorem Blk.new1 (w : World) (o : Obj) (t : TypeId) (cs : Array Value) : Blk ((w.alloc o).alloc (.cells cs t)) (w.heap.size + 1) t cs := by
  have := Blk.new (w.alloc o) t cs
  simpa using this
theorem Blk.new2 (w : World) (o p : Obj) (t : TypeId) (cs : Array Value) : Blk (((w.alloc o).alloc p).alloc (.cells cs t)) (w.heap.size + 1 + 1) t cs := by
  have := Blk.new ((w.alloc o).alloc p) t cs
  simpa using this

/-! ### append as_v a step of a region that draws -/
theorem wp_app2 {P : Program} (w : World) {o : Oper} {a : Act} {K : Act → World → Prop} {Q : Exit → Act → World → Prop} (s x : Operand) (t : TypeId)
    (ho : o.op = .call { callee := .builtin .append, args := #[s, x], argTypes := #[t, t] })
    (base : Nat) (e : TypeId) (z : Value) (size bytes : Nat) (ht : P.underlying t = some (.slice e)) (hinfo : (P.info? e).map (fun i => (i.zero, i.size, i.bytes)) = some (some z, size, bytes))
    (hzs : z.cells.size = size) (hsz : 0 < size)
    (A0 : Option Addr) (c0 n : Nat) (xs : List Value) (hs : a.eval s = .slice A0 n c0) (hown : w.ownsRow base e size (.slice A0 n c0) n xs)
    (A : Option Addr) (m c : Nat) (news : List Value) (hx : a.eval x = .slice A m c) (hr : Rd w size A m news) (h1 : ∀ u ∈ news, u.oneCell' = true)
    (hbytes : (n + m) * bytes ≤ 140737488355328) (hb1 : 1 ≤ bytes) (hbase : base ≤ w.heap.size)
    (h : ∀ A' c' w', w'.ownsRow base e size (.slice A' (n + m) c') (n + m) (xs ++ news) → n + m ≤ c' → c' ≤ maxLen → Below base w w' → w.grownBy w' (Value.slice A0 n c0).ownBlock → K (a.put o.dst (.slice A' (n + m) c')) w') : o.wp P a w K Q := by
  obtain ⟨i, hi, hz, hsize, hby⟩ := info_parts hinfo
  have h63 : n + m ≤ maxLen := by
    have : (n + m) * 1 ≤ (n + m) * bytes := Nat.mul_le_mul_left _ hb1
    unfold maxLen; omega
  obtain ⟨v', w', hrun, h2, h3, h4⟩ := run_append_any (P := P) w base t o.type e i z size bytes ht hi hz hsize hby hzs hsz _ n xs hown A m c news hr h1 h63 hbytes hbase
  obtain ⟨A', c', rfl, hc1, hc2⟩ := own_shape _ h2
  unfold Oper.wp execOp
  simp only [ho, resolve, invoke, builtin, Sem.run_bind, Sem.run_pure, Result.andThen_ok, List.map_toArray, List.map_cons, List.map_nil, hs, hx, hrun]
  exact h A' c' w' h2 hc1 hc2 ((Below.refl _ _).grown h3 hbase (fun k hk => (hown.lt k hk).1)) h3

theorem step_app {P : Program} {w : World} {ops : Array Oper} {o : Oper} {a : Act} {K : Act → World → Prop} {Q : Exit → Act → World → Prop} {E : Prop} (hg : o.guard = none) (s x : Operand) (t : TypeId)
    (ho : o.op = .call { callee := .builtin .append, args := #[s, x], argTypes := #[t, t] })
    (base : Nat) (e : TypeId) (z : Value) (size bytes : Nat) (ht : P.underlying t = some (.slice e)) (hinfo : (P.info? e).map (fun i => (i.zero, i.size, i.bytes)) = some (some z, size, bytes))
    (hzs : z.cells.size = size) (hsz : 0 < size) (hb1 : 1 ≤ bytes)
    (A0 : Option Addr) (c0 n : Nat) (xs : List Value) (hs : a.eval s = .slice A0 n c0) (hown : w.ownsRow base e size (.slice A0 n c0) n xs)
    (A : Option Addr) (m c : Nat) (news : List Value) (hx : a.eval x = .slice A m c) (hr : Rd w size A m news) (h1 : ∀ u ∈ news, u.oneCell' = true)
    (hbytes : (n + m) * bytes ≤ 140737488355328) (hbase : base ≤ w.heap.size)
    (h : ∀ A' c' w', w'.ownsRow base e size (.slice A' (n + m) c') (n + m) (xs ++ news) → n + m ≤ c' → c' ≤ maxLen → Below base w w' → w.grownBy w' (Value.slice A0 n c0).ownBlock → K (a.put o.dst (.slice A' (n + m) c')) w') :
    if Region.wanted o (yielded ops a.tmps) = true then Oper.wp P o a w K Q else E := by
  rw [if_pos (by simp [Region.wanted, hg])]
  exact wp_app2 w s x t ho base e z size bytes ht hinfo hzs hsz A0 c0 n xs hs hown A m c news hx hr h1 hbytes hb1 hbase h
/-- One element, in a block of its own. -/
theorem Rd.new (w : World) (t : TypeId) (cs : Array Value) (size : Nat) (h : cs.size = size) : Rd (w.alloc (.cells cs t)) size (some ⟨w.heap.size, 0, none⟩) 1 cs.toList :=
  ⟨by simp [h], fun _ => ⟨w.heap.size, 0, rfl, fun j u hu => by rw [(Blk.new w t cs).cell, Nat.zero_add]; simpa using hu⟩⟩
theorem Rd.of_blk {w : World} {g : Nat} {t : TypeId} {cs : Array Value} {size n : Nat} (hB : Blk w g t cs) (h : cs.size = n * size) : Rd w size (some ⟨g, 0, none⟩) n cs.toList :=
  ⟨by simp [h], fun _ => ⟨g, 0, rfl, fun j u hu => by rw [hB.cell, Nat.zero_add]; simpa using hu⟩⟩
theorem flatMap_drop {α : Type} (l : List α) (f : α → List Value) (m : Nat) (hf : ∀ x, (f x).length = m) (k : Nat) : (l.flatMap f).drop (k * m) = (l.drop k).flatMap f := by
  induction l generalizing k with
  | nil => simp
  | cons x l ih =>
    cases k with
    | zero => simp
    | succ k => rw [List.flatMap_cons, List.drop_succ_cons, show (k + 1) * m = (f x).length + k * m from by rw [hf, Nat.add_mul]; omega, List.drop_length_add_append, ih]
/-- A slice whose elements are things, some cells each. -/
def RdX {α : Type} (f : α → List Value) (m : Nat) (w : World) (A : Option Addr) (xs : List α) : Prop := Rd w m A xs.length (xs.flatMap f)
section
variable {α : Type} {f : α → List Value} {m : Nat} {w w' : World} {A : Option Addr} {xs : List α}
theorem RdX.below (h : RdX f m w A xs) (hb : Below w.heap.size w w') : RdX f m w' A xs := Rd.below h hb
theorem RdX.nil : RdX f m w A [] := by unfold RdX; exact Rd.nil
theorem RdX.front (hf : ∀ x, (f x).length = m) (h : RdX f m w A xs) {k : Nat} (hk : k ≤ xs.length) : RdX f m w A (xs.take k) := by
  have := Rd.front (k := k) h hk
  rw [flatMap_take xs f m hf] at this
  simpa only [RdX, List.length_take, Nat.min_eq_left hk] using this
theorem RdX.cut (hf : ∀ x, (f x).length = m) (h : RdX f m w A xs) {k cap : Nat} (hk : k ≤ xs.length) (hc : xs.length ≤ cap) : RdX f m w (if cap = k then A else A.map (·.add (k * m))) (xs.drop k) := by
  have := Rd.cut (k := k) (cap := cap) h hk hc
  rw [flatMap_drop xs f m hf] at this
  simpa only [RdX, List.length_drop] using this
theorem RdX.at_ (hf : ∀ x, (f x).length = m) (h : RdX f m w A xs) (d : α) (hn : 0 < xs.length) : ∃ b off, A = some ⟨b, off, none⟩ ∧ ∀ k, k < xs.length → ∀ j v, j < m → (f (xs.getD k d))[j]? = some v → w.cell? ⟨b, off + k * m + j, none⟩ = some v := by
  obtain ⟨b, off, e, hc⟩ := h.2 hn
  refine ⟨b, off, e, fun k hk j v hj hv => ?_⟩
  rw [Nat.add_assoc]
  exact hc _ v (by rw [flatMap_get xs f m hf d k j hk hj]; exact hv)
end
end Go.Proofs.YtbcagdjfegobnaaGreat
