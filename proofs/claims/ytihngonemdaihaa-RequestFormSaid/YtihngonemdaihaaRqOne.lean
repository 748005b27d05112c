/- Texts of the requests, merged by merge.py: OrderInv RqFresh RqNext RqFramed RqNames RqCheck RqWrite RqFrame RqFeedP. -/
import Derived.Test.YtihngonemdaihaaAppL
import Derived.Orders
import Derived.Test.YtihngonemdaihaaEncSt
import Derived.Test.YtihngonemdaihaaFittedWalk
import Derived.Deep.RegionLaw
import Derived.Test.YtihngonemdaihaaDecodeWalk
import Derived.BigQuiet
import Derived.Test.YtihngonemdaihaaEncodeWalk
import Derived.Test.YtihngonemdaihaaFPen
import Derived.Test.YtihngonemdaihaaFLineBack
import Derived.Maps.Views
import Derived.Test.YtihngonemdaihaaFChk
import Derived.Test.YtihngonemdaihaaStrBytes
import Derived.Maps.OwnOps
import Derived.StringKeys
import Derived.Maps.OwnSet
import Derived.Test.YtihngonemdaihaaEncWalk
import Derived.Test.YtihngonemdaihaaTabKeep
/- A region that draws its order, by a condition that every step keeps. -/
namespace Go.Proofs.Ytihngonemdaihaa
open Go.RowKit
set_option linter.unusedVariables false

section
variable {P : Program} {ops : Array Oper} {Q : Exit → Act → World → Prop} {md : Region.Mode}
theorem getD_lt {l : Array Bool} {i : Nat} (h : l.getD i true = false) : ∃ hi : i < l.size, l[i] = false := by
  unfold Array.getD at h
  split at h
  · rename_i hi; exact ⟨hi, h⟩
  · cases h
theorem count_listed {l : Array Bool} {i : Nat} (h : l.getD i true = false) : (l.setIfInBounds i true).toList.count false + 1 = l.toList.count false := by
  obtain ⟨hi, hv⟩ := getD_lt h
  have h1 : l.toList[i]'(by simpa using hi) = false := by simpa using hv
  rw [Array.toList_setIfInBounds, List.count_set (by simpa using hi), h1]
  have : 0 < l.toList.count false := List.count_pos_iff.2 (by rw [← h1]; exact List.getElem_mem _)
  rw [if_pos (by decide), if_neg (by decide)]
  omega
/-- An operation, as it stands in the region. -/
theorem wpOp_if {i : Nat} {o : Oper} {K : Act → World → Prop} {a : Act} {w : World} (ho : ops[i]? = some o) (h : if Region.wanted o (yielded ops a.tmps) = true then Oper.wp P o a w K Q else K (a.put o.dst undef) w) : wpOp P ops Q i K a w := by
  unfold wpOp
  rw [ho]
  dsimp only
  split
  · rename_i hw; rw [if_pos hw] at h; exact .inl h
  · rename_i hw; rw [if_neg hw] at h; exact h
/-- Whatever order is drawn: a condition that holds at the start, that every operation keeps that may come up, and that at the end says what is wanted. -/
theorem wpAny_inv {I : Array Bool → Act → World → Prop} (hstep : ∀ l a w i, I l a w → i ∈ Region.ready md ops l → wpOp P ops Q i (I (l.setIfInBounds i true)) a w)
    (hend : ∀ l a w, I l a w → Region.ready md ops l = [] → Q .normal a w) : ∀ (fuel : Nat) (l : Array Bool) (a : Act) (w : World), l.toList.count false ≤ fuel → I l a w → wpAny P md ops Q fuel l a w
  | 0, l, a, w, hc, hI => by
    have hr : Region.ready md ops l = [] := List.eq_nil_iff_forall_not_mem.2 fun i hi => by
      have := count_listed (mem_ready.1 hi).1
      omega
    exact ⟨hr, hend _ _ _ hI hr⟩
  | fuel + 1, l, a, w, hc, hI => ⟨fun h => hend _ _ _ hI h, fun i hi => wpOp_mono (fun a' w' h => wpAny_inv hstep hend fuel _ a' w' (by have := count_listed (mem_ready.1 hi).1; omega) h) (hstep l a w i hI hi)⟩
/-- Where none may come up, all have come up. -/
def backEdges (ops : Array Oper) : Bool := (List.range ops.size).all fun i => ((ops[i]?).map fun o => o.after.toList.all fun e => e.on < i).getD true
theorem ready_all {l : Array Bool} (h : Region.ready md ops l = []) (hsz : l.size = ops.size) (hb : backEdges ops = true) : ∀ n i, i < n → l.getD i true = true
  | 0, i, hi => absurd hi (Nat.not_lt_zero _)
  | n + 1, i, hi => by
    rcases Nat.lt_or_ge i n with h1 | h1
    · exact ready_all h hsz hb n i h1
    · obtain rfl : i = n := by omega
      cases hv : l.getD i true with
      | true => rfl
      | false =>
        exfalso
        obtain ⟨hi2, _⟩ := getD_lt hv
        have hi3 : i < ops.size := by omega
        have hm : i ∈ Region.ready md ops l := mem_ready.2 ⟨hv, ops[i], by simp [hi3], fun e he _ => by
          have h2 := List.all_eq_true.1 hb i (List.mem_range.2 hi3)
          simp only [Array.getElem?_eq_getElem hi3, Option.map_some, Option.getD_some] at h2
          have h3 := List.all_eq_true.1 h2 e (by simpa using he)
          have h4 : e.on < i := by simpa using h3
          have h5 := ready_all h hsz hb i e.on h4
          unfold Array.getD at h5 ⊢
          have h6 : e.on < l.size := by omega
          rw [dif_pos h6] at h5 ⊢
          exact h5⟩
        rw [h] at hm
        cases hm
end

/-- A chain 'append([]T{}, x...)' of a region: what has come up of it. A: where its row lies. -/
structure Chn {α : Type} (f : α → List Value) (m : Nat) (E : TypeId) (M : Nat) (w : World) (pt src : Value) (n : Nat) (xs : List α) (b0 b1 b2 b3 : Bool) (x0 x1 x2 x3 : Value) (A : Option Addr) : Prop where
  n0 : b0 = false → A = none
  e0 : b0 = true → b3 = false → x0 = .slice A 0 0 ∧ OwnX f m w M E A 0 []
  e1 : b1 = true → x1 = pt
  e2 : b2 = true → x2 = src
  e3 : b3 = true → ∃ c, x3 = .slice A n c ∧ n ≤ c ∧ c ≤ 9223372036854775807 ∧ OwnX f m w M E A c xs
  d3 : b3 = true → b0 = true
section
variable {α : Type} {f : α → List Value} {m : Nat} {E : TypeId} {M : Nat} {w w' : World} {pt src : Value} {n : Nat} {xs : List α} {b0 b1 b2 b3 : Bool} {x0 x1 x2 x3 : Value} {A : Option Addr}
theorem Chn.keep (h : Chn f m E M w pt src n xs b0 b1 b2 b3 x0 x1 x2 x3 A) (hk : ∀ c (ys : List α), OwnX f m w M E A c ys → OwnX f m w' M E A c ys) : Chn f m E M w' pt src n xs b0 b1 b2 b3 x0 x1 x2 x3 A where
  n0 := h.n0
  e0 := fun a b => ⟨(h.e0 a b).1, hk _ _ (h.e0 a b).2⟩
  e1 := h.e1
  e2 := h.e2
  e3 := fun a => by obtain ⟨c, h1, h2, h3, h4⟩ := h.e3 a; exact ⟨c, h1, h2, h3, hk _ _ h4⟩
  d3 := h.d3
theorem Chn.lt (h : Chn f m E M w pt src n xs b0 b1 b2 b3 x0 x1 x2 x3 A) : ∀ q, A.map (fun y : Addr => y.block) = some q → M ≤ q ∧ q < w.heap.size := fun q hq => by
  cases hb : b0 with
  | false => rw [h.n0 hb] at hq; cases hq
  | true =>
    cases hb3 : b3 with
    | false => exact (h.e0 hb hb3).2.lt (n := 0) q (by rw [slice_own]; exact hq)
    | true => obtain ⟨c, _, _, _, h4⟩ := h.e3 hb3; exact h4.lt (n := 0) q (by rw [slice_own]; exact hq)
theorem Chn.alloc (h : Chn f m E M w pt src n xs b0 b1 b2 b3 x0 x1 x2 x3 A) (o : Obj) : Chn f m E M (w.alloc o) pt src n xs b0 b1 b2 b3 x0 x1 x2 x3 A := h.keep fun _ _ ho => ho.alloc o
theorem Chn.set (h : Chn f m E M w pt src n xs b0 b1 b2 b3 x0 x1 x2 x3 A) {p : Addr} (hp : p.block < M) (u : Value) : Chn f m E M (w.setCell p u) pt src n xs b0 b1 b2 b3 x0 x1 x2 x3 A := h.keep fun _ _ ho => ho.set_below hp u
theorem Chn.grown (h : Chn f m E M w pt src n xs b0 b1 b2 b3 x0 x1 x2 x3 A) {row : Option Nat} (hg : w.grownBy w' row) (hne : ∀ q, A.map (fun y : Addr => y.block) = some q → row ≠ some q) : Chn f m E M w' pt src n xs b0 b1 b2 b3 x0 x1 x2 x3 A :=
  h.keep fun _ _ ho => ho.grown hg (by
    cases hA : A.map (fun y : Addr => y.block) with
    | none => exact .inl rfl
    | some q => exact .inr fun e => hne q hA e.symm)
theorem Chn.build (h : Chn f m E M w pt src n xs false b1 b2 b3 x0 x1 x2 x3 A) (hM : M ≤ w.heap.size) : Chn f m E M (w.alloc (.cells #[] E)) pt src n xs true b1 b2 b3 (.slice (some ⟨w.heap.size, 0, none⟩) 0 0) x1 x2 x3 (some ⟨w.heap.size, 0, none⟩) where
  n0 := fun a => by cases a
  e0 := fun _ _ => ⟨rfl, OwnX.made f m w M E hM⟩
  e1 := h.e1
  e2 := h.e2
  e3 := fun a => by have := h.d3 a; cases this
  d3 := fun _ => rfl
theorem Chn.addr (h : Chn f m E M w pt src n xs b0 b1 b2 b3 x0 x1 x2 x3 A) : Chn f m E M w pt src n xs b0 true b2 b3 x0 pt x2 x3 A := ⟨h.n0, h.e0, fun _ => rfl, h.e2, h.e3, h.d3⟩
theorem Chn.load (h : Chn f m E M w pt src n xs b0 b1 b2 b3 x0 x1 x2 x3 A) : Chn f m E M w pt src n xs b0 b1 true b3 x0 x1 src x3 A := ⟨h.n0, h.e0, h.e1, fun _ => rfl, h.e3, h.d3⟩
theorem Chn.app (h : Chn f m E M w pt src n xs true b1 b2 false x0 x1 x2 x3 A) {A' : Option Addr} {c : Nat} (ho : OwnX f m w' M E A' c xs) (h1 : n ≤ c) (h2 : c ≤ 9223372036854775807) : Chn f m E M w' pt src n xs true b1 b2 true x0 x1 x2 (.slice A' n c) A' :=
  ⟨fun a => Bool.noConfusion a, fun _ a => Bool.noConfusion a, h.e1, h.e2, fun _ => ⟨c, rfl, h1, h2, ho⟩, fun _ => rfl⟩
theorem Chn.zero (hA : A = none) : Chn f m E M w pt src n xs false false false false x0 x1 x2 x3 A :=
  ⟨fun _ => hA, fun a => Bool.noConfusion a, fun a => Bool.noConfusion a, fun a => Bool.noConfusion a, fun a => Bool.noConfusion a, fun a => Bool.noConfusion a⟩
end
end Go.Proofs.Ytihngonemdaihaa
/- The contract of request.fresh. Printed by wip/gen_rqfresh2.py. -/
namespace Go.Proofs.Ytihngonemdaihaa
open Go.ChangeShapes Go.WideShapes Go.ChangeAt Go.RowKit
set_option linter.unusedVariables false

theorem own0 {α : Type} (f : α → List Value) (m : Nat) {w : World} {H : Nat} {E : TypeId} {base : Nat} (h : Blk w H E #[]) (hb : base ≤ H) : OwnX f m w base E (some ⟨H, 0, none⟩) 0 [] := by
  have := h.own (n := 0) (size := m) hb (by simp) (by decide)
  unfold OwnX
  simpa using this
theorem Blk.facts5R {w : World} {g : Nat} {t : TypeId} {x y z u v : Value} (h : Blk w g t #[x, y, z, u, v]) : g < w.heap.size ∧ w.cell? ⟨g, 0, none⟩ = some x ∧ w.cell? ⟨g, 1, none⟩ = some y ∧ w.cell? ⟨g, 2, none⟩ = some z ∧ w.cell? ⟨g, 3, none⟩ = some u ∧ w.cell? ⟨g, 4, none⟩ = some v ∧
    w.frozen? ⟨g, 0, none⟩ = false ∧ w.frozen? ⟨g, 1, none⟩ = false ∧ w.frozen? ⟨g, 2, none⟩ = false ∧ w.frozen? ⟨g, 3, none⟩ = false ∧ w.frozen? ⟨g, 4, none⟩ = false :=
  ⟨h.lt, by rw [h.cell]; rfl, by rw [h.cell]; rfl, by rw [h.cell]; rfl, by rw [h.cell]; rfl, by rw [h.cell]; rfl, h.frozen 0, h.frozen 1, h.frozen 2, h.frozen 3, h.frozen 4⟩
/-- A reader's value. -/
def rdrA (HA : Option Addr) (hn hc : Nat) (FA : Option Addr) (fn fc : Nat) (bg : Bool) (BA : Option Addr) (bn bc : Nat) (en : Bool) : Array Value := #[.slice HA hn hc, .slice FA fn fc, .bool bg, .slice BA bn bc, .bool en]
/-- A reader's rows, read. -/
structure RdrV (w : World) (HA : Option Addr) (hn hc : Nat) (held : List UInt8) (FA : Option Addr) (fn fc : Nat) (fs : List Fld) (BA : Option Addr) (bn bc : Nat) (body : List UInt8) : Prop where
  h : BV w HA hn hc held
  fn_ : fs.length = fn
  fc_ : fn ≤ fc
  fm_ : fc ≤ 9223372036854775807
  f : RdX fcells 2 w FA fs
  b : BV w BA bn bc body
theorem RdrV.below {w w' : World} {HA : Option Addr} {hn hc : Nat} {held : List UInt8} {FA : Option Addr} {fn fc : Nat} {fs : List Fld} {BA : Option Addr} {bn bc : Nat} {body : List UInt8} (h : RdrV w HA hn hc held FA fn fc fs BA bn bc body) (hb : Below w.heap.size w w') : RdrV w' HA hn hc held FA fn fc fs BA bn bc body :=
  ⟨h.h.below hb, h.fn_, h.fc_, h.fm_, RdX.below h.f hb, h.b.below hb⟩
/-- A reader's rows, the call's own. -/
structure RdrO (w : World) (base : Nat) (HA : Option Addr) (hn hc : Nat) (held : List UInt8) (FA : Option Addr) (fn fc : Nat) (fs : List Fld) (BA : Option Addr) (bn bc : Nat) (body : List UInt8) : Prop where
  h : OwnX u8c 1 w base 5 HA hc held
  f : OwnX fcells 2 w base 47 FA fc fs
  b : OwnX u8c 1 w base 5 BA bc body
  ap : ∀ q, HA.map (fun y : Addr => y.block) = some q → BA.map (fun y : Addr => y.block) ≠ some q
  hn_ : held.length = hn
  fn_ : fs.length = fn
  bn_ : body.length = bn
section
variable {w w' : World} {base : Nat} {HA : Option Addr} {hn hc : Nat} {held : List UInt8} {FA : Option Addr} {fn fc : Nat} {fs : List Fld} {BA : Option Addr} {bn bc : Nat} {body : List UInt8}
theorem RdrO.carry (h : RdrO w base HA hn hc held FA fn fc fs BA bn bc body) (hb : Below w.heap.size w w') : RdrO w' base HA hn hc held FA fn fc fs BA bn bc body := ⟨h.h.carry hb, h.f.carry hb, h.b.carry hb, h.ap, h.hn_, h.fn_, h.bn_⟩
theorem RdrO.set (h : RdrO w base HA hn hc held FA fn fc fs BA bn bc body) {p : Addr} (hp : p.block < base) (u : Value) : RdrO (w.setCell p u) base HA hn hc held FA fn fc fs BA bn bc body := ⟨h.h.set_below hp u, h.f.set_below hp u, h.b.set_below hp u, h.ap, h.hn_, h.fn_, h.bn_⟩
theorem RdrO.drew (h : RdrO w base HA hn hc held FA fn fc fs BA bn bc body) : RdrO w.drew base HA hn hc held FA fn fc fs BA bn bc body := ⟨h.h, h.f, h.b, h.ap, h.hn_, h.fn_, h.bn_⟩
theorem RdrO.mono {base' : Nat} (h : RdrO w base HA hn hc held FA fn fc fs BA bn bc body) (hb : base' ≤ base) : RdrO w base' HA hn hc held FA fn fc fs BA bn bc body := ⟨h.h.mono hb, h.f.mono hb, h.b.mono hb, h.ap, h.hn_, h.fn_, h.bn_⟩
theorem RdrO.v (h : RdrO w base HA hn hc held FA fn fc fs BA bn bc body) : RdrV w HA hn hc held FA fn fc fs BA bn bc body := by
  have h1 := h.h.cap
  have h2 := h.f.cap
  have h3 := h.b.cap
  rw [h.hn_] at h1
  rw [h.fn_] at h2
  rw [h.bn_] at h3
  exact ⟨⟨h.hn_, h1.1, h1.2, h.h.rd.b⟩, h.fn_, h2.1, h2.2, h.f.rd, ⟨h.bn_, h3.1, h3.2, h.b.rd.b⟩⟩
end


/-- What stands in the reader's block, and what lies apart. -/
structure FreS (W W3 : World) (M : Nat) (w : World) (HA : Option Addr) (hn hc : Nat) (FA : Option Addr) (fn fc : Nat) (bg : Bool) (BA : Option Addr) (bn bc : Nat) (en : Bool) (b2 b3 b6 b7 b10 b11 b12 b13 b14 b15 b16 b17 : Bool) (x6 x10 x14 x15 x16 x17 : Value) (A1 A2 A3 : Option Addr) : Prop where
  s12 : b12 = true → x15 = .pointer (some ⟨W.heap.size, 0, none⟩)
  s14 : b14 = true → x16 = .pointer (some ⟨W.heap.size, 3, none⟩)
  s16 : b16 = true → x17 = .pointer (some ⟨W.heap.size, 1, none⟩)
  R : Blk w W.heap.size 35 #[if b13 then x6 else .slice HA hn hc, if b17 then x14 else .slice FA fn fc, .bool bg, if b15 then x10 else .slice BA bn bc, .bool en]
  ph : (b13 = true ∨ b15 = true ∨ b17 = true) → b2 = true ∧ b3 = true ∧ b6 = true ∧ b7 = true ∧ b10 = true ∧ b11 = true
  B3 : (b3 = false ∨ b7 = false ∨ b11 = false) → Below W3.heap.size W3 w
  o7 : b7 = true → b3 = true
  o11 : b11 = true → b7 = true
  Z : Blk w (W.heap.size + 1) 35 #[.slice none 0 0, .slice none 0 0, .bool false, .slice none 0 0, .bool false]
  B : Below W.heap.size W w
  hM : W.heap.size + 1 < M
  hMw : M ≤ w.heap.size
  ap : ∀ q, A1.map (fun y : Addr => y.block) = some q → A2.map (fun y : Addr => y.block) ≠ some q
  ap3 : ∀ q, A1.map (fun y : Addr => y.block) = some q → A3.map (fun y : Addr => y.block) ≠ some q
  ap4 : ∀ q, A2.map (fun y : Addr => y.block) = some q → A3.map (fun y : Addr => y.block) ≠ some q
section
variable {W W3 : World} {M : Nat} {w w' : World} {HA : Option Addr} {hn hc : Nat} {FA : Option Addr} {fn fc : Nat} {bg : Bool} {BA : Option Addr} {bn bc : Nat} {en : Bool} {b2 b3 b6 b7 b10 b11 b12 b13 b14 b15 b16 b17 : Bool} {x6 x10 x14 x15 x16 x17 : Value} {A1 A2 A3 : Option Addr}
theorem FreS.alloc (h : FreS W W3 M w HA hn hc FA fn fc bg BA bn bc en b2 b3 b6 b7 b10 b11 b12 b13 b14 b15 b16 b17 x6 x10 x14 x15 x16 x17 A1 A2 A3) (o : Obj) {A1' A2' A3' : Option Addr} (h4 : M = W3.heap.size)
    (h1 : ∀ q, A1'.map (fun y : Addr => y.block) = some q → A2'.map (fun y : Addr => y.block) ≠ some q) (h2 : ∀ q, A1'.map (fun y : Addr => y.block) = some q → A3'.map (fun y : Addr => y.block) ≠ some q) (h3 : ∀ q, A2'.map (fun y : Addr => y.block) = some q → A3'.map (fun y : Addr => y.block) ≠ some q) :
    FreS W W3 M (w.alloc o) HA hn hc FA fn fc bg BA bn bc en b2 b3 b6 b7 b10 b11 b12 b13 b14 b15 b16 b17 x6 x10 x14 x15 x16 x17 A1' A2' A3' :=
  ⟨h.s12, h.s14, h.s16, h.R.alloc o, h.ph, fun a => (h.B3 a).alloc (by have := h.hMw; omega) o, h.o7, h.o11, h.Z.alloc o, h.B.alloc (by have := h.hM; have := h.hMw; omega) o, h.hM, by have := h.hMw; simp; omega, h1, h2, h3⟩
/-- .. behind an append. -/
theorem FreS.app (h : FreS W W3 M w HA hn hc FA fn fc bg BA bn bc en b2 b3 b6 b7 b10 b11 b12 b13 b14 b15 b16 b17 x6 x10 x14 x15 x16 x17 A1 A2 A3) (h4 : M = W3.heap.size) (hb : Below M w w') (h0 : b3 = false ∨ b7 = false ∨ b11 = false) {c3 c7 c11 : Bool} (ho7 : c7 = true → c3 = true) (ho11 : c11 = true → c7 = true) (hd : b13 = false ∧ b15 = false ∧ b17 = false) {y6 y10 y14 : Value} {A1' A2' A3' : Option Addr}
    (h1 : ∀ q, A1'.map (fun y : Addr => y.block) = some q → A2'.map (fun y : Addr => y.block) ≠ some q) (h2 : ∀ q, A1'.map (fun y : Addr => y.block) = some q → A3'.map (fun y : Addr => y.block) ≠ some q) (h3 : ∀ q, A2'.map (fun y : Addr => y.block) = some q → A3'.map (fun y : Addr => y.block) ≠ some q) :
    FreS W W3 M w' HA hn hc FA fn fc bg BA bn bc en b2 c3 b6 c7 b10 c11 b12 b13 b14 b15 b16 b17 y6 y10 y14 x15 x16 x17 A1' A2' A3' := by
  obtain ⟨rfl, rfl, rfl⟩ := hd
  have hM := h.hM
  have hMw := h.hMw
  exact ⟨h.s12, h.s14, h.s16, h.R.below hb (by omega), (fun a => by rcases a with a | a | a <;> cases a), fun _ => (h.B3 h0).trans (by rw [← h4]; exact hb), ho7, ho11, h.Z.below hb hM, h.B.trans (hb.mono (by omega)), hM, Nat.le_trans hMw hb.size, h1, h2, h3⟩
end
/-- The state in the midst of fresh's region. -/
def FreI (W W3 : World) (M : Nat) (v0 : Value) (HA : Option Addr) (hn hc : Nat) (held : List UInt8) (FA : Option Addr) (fn fc : Nat) (fs : List Fld) (bg : Bool) (BA : Option Addr) (bn bc : Nat) (body : List UInt8) (en : Bool) (l : Array Bool) (a : Act) (w : World) : Prop :=
  ∃ (b0 b1 b2 b3 b4 b5 b6 b7 b8 b9 b10 b11 b12 b13 b14 b15 b16 b17 : Bool) (x3 x4 x5 x6 x7 x8 x9 x10 x11 x12 x13 x14 x15 x16 x17 : Value) (A1 A2 A3 : Option Addr), l = #[b0, b1, b2, b3, b4, b5, b6, b7, b8, b9, b10, b11, b12, b13, b14, b15, b16, b17] ∧ a = { tmps := #[v0, .pointer (some ⟨W.heap.size, 0, none⟩), .pointer (some ⟨W.heap.size + 1, 0, none⟩), x3, x4, x5, x6, x7, x8, x9, x10, x11, x12, x13, x14, x15, x16, x17, undef], defers := [] } ∧
    Chn u8c 1 5 M w (.pointer (some ⟨W.heap.size, 0, none⟩)) (.slice HA hn hc) hn held b0 b1 b2 b3 x3 x4 x5 x6 A1 ∧
    Chn u8c 1 5 M w (.pointer (some ⟨W.heap.size, 3, none⟩)) (.slice BA bn bc) bn body b4 b5 b6 b7 x7 x8 x9 x10 A2 ∧
    Chn fcells 2 47 M w (.pointer (some ⟨W.heap.size, 1, none⟩)) (.slice FA fn fc) fn fs b8 b9 b10 b11 x11 x12 x13 x14 A3 ∧
    FreS W W3 M w HA hn hc FA fn fc bg BA bn bc en b2 b3 b6 b7 b10 b11 b12 b13 b14 b15 b16 b17 x6 x10 x14 x15 x16 x17 A1 A2 A3

set_option maxRecDepth 100000 in
set_option maxHeartbeats 16000000 in
theorem rFresh_any (w : World) (HA : Option Addr) (hn hc : Nat) (held : List UInt8) (FA : Option Addr) (fn fc : Nat) (fs : List Fld) (bg : Bool) (BA : Option Addr) (bn bc : Nat) (body : List UInt8) (en : Bool) (hV : RdrV w HA hn hc held FA fn fc fs BA bn bc body) (h1 : hn ≤ 5000) (h2 : fn ≤ 8) (h3 : bn ≤ 5000) :
    Calls Try.prog 19 #[.agg #[.slice HA hn hc, .slice FA fn fc, .bool bg, .slice BA bn bc, .bool en]] w fun e w' => ∃ (HA' : Option Addr) (hc' : Nat) (FA' : Option Addr) (fc' : Nat) (BA' : Option Addr) (bc' : Nat), e = .returned (.agg #[.slice HA' hn hc', .slice FA' fn fc', .bool bg, .slice BA' bn bc', .bool en]) ∧ RdrO w' w.heap.size HA' hn hc' held FA' fn fc' fs BA' bn bc' body ∧ Below w.heap.size w w' := by
  have HV := Lib.hid hV
  have HHN : Hid (held.length = hn) := Lib.hid hV.h.hn
  have HFN : Hid (fs.length = fn) := Lib.hid hV.fn_
  have HBN : Hid (body.length = bn) := Lib.hid hV.b.hn
  clear hV
  go_enter Try.func19, Try.ntmps19
  go_upto_region 1 with (fail)
  refine wp_world (fun w' => Blk w' w.heap.size 35 #[.slice HA hn hc, .slice FA fn fc, .bool bg, .slice BA bn bc, .bool en] ∧ Blk w' (w.heap.size + 1) 35 #[.slice none 0 0, .slice none 0 0, .bool false, .slice none 0 0, .bool false] ∧ Below w.heap.size w w') ⟨(Blk.new _ _ _).alloc _, Blk.new1 _ _ _ _, ((Below.refl _ _).alloc (Nat.le_refl _) _).alloc (by simp) _⟩ ?_
  rintro w3 ⟨hS, hZ, hb⟩
  have hgz := hZ.lt
  have HHR : Hid (∀ W', Below w3.heap.size w3 W' → RdX u8c 1 W' HA held) := Lib.hid (fun W hW => ((HV.out.h.below hb).below hW).rd.x)
  have HFR : Hid (∀ W', Below w3.heap.size w3 W' → RdX fcells 2 W' FA fs) := Lib.hid (fun W hW => RdX.below (RdX.below HV.out.f hb) hW)
  have HBR : Hid (∀ W', Below w3.heap.size w3 W' → RdX u8c 1 W' BA body) := Lib.hid (fun W hW => ((HV.out.b.below hb).below hW).rd.x)
  refine wp_region_any (by kernel_rfl) ?_
  refine wpAny_inv (I := FreI w w3 w3.heap.size (.agg #[.slice HA hn hc, .slice FA fn fc, .bool bg, .slice BA bn bc, .bool en]) HA hn hc held FA fn fc fs bg BA bn bc body en) ?hstep ?hend _ _ _ _ (by decide) ?hinit
  case hinit =>
    exact ⟨false, false, false, false, false, false, false, false, false, false, false, false, false, false, false, false, false, false, undef, undef, undef, undef, undef, undef, undef, undef, undef, undef, undef, undef, undef, undef, undef, none, none, none, rfl, rfl, Chn.zero rfl, Chn.zero rfl, Chn.zero rfl, fun a => Bool.noConfusion a, fun a => Bool.noConfusion a, fun a => Bool.noConfusion a, hS.drew, (fun h => by rcases h with h | h | h <;> cases h), (fun _ => (Below.refl _ _).drew), (fun a => Bool.noConfusion a), (fun a => Bool.noConfusion a), hZ.drew, hb.drew, hgz, Nat.le_refl _, (fun q h => by cases h), (fun q h => by cases h), (fun q h => by cases h)⟩
  case hstep =>
    intro l a v i hI hi
    obtain ⟨b0, b1, b2, b3, b4, b5, b6, b7, b8, b9, b10, b11, b12, b13, b14, b15, b16, b17, x3, x4, x5, x6, x7, x8, x9, x10, x11, x12, x13, x14, x15, x16, x17, A1, A2, A3, rfl, rfl, c1, c2, c3, hs⟩ := hI
    obtain ⟨hf, o, ho, hall⟩ := mem_ready.1 hi
    have hi18 : i < 18 := (Array.getElem?_eq_some_iff.1 ho).1
    have hMw := hs.hMw
    have hM := hs.hM
    have hl1 := c1.lt
    have hl2 := c2.lt
    have hl3 := c3.lt
    clear hi
    rcases (show i = 0 ∨ i = 1 ∨ i = 2 ∨ i = 3 ∨ i = 4 ∨ i = 5 ∨ i = 6 ∨ i = 7 ∨ i = 8 ∨ i = 9 ∨ i = 10 ∨ i = 11 ∨ i = 12 ∨ i = 13 ∨ i = 14 ∨ i = 15 ∨ i = 16 ∨ i = 17 by omega) with rfl | rfl | rfl | rfl | rfl | rfl | rfl | rfl | rfl | rfl | rfl | rfl | rfl | rfl | rfl | rfl | rfl | rfl
    · -- [[op0
      obtain rfl : b0 = false := hf
      obtain rfl := Option.some.inj ho
      refine wpOp_if rfl ?_
      go_simp
      exact ⟨true, b1, b2, b3, b4, b5, b6, b7, b8, b9, b10, b11, b12, b13, b14, b15, b16, b17, .slice (some ⟨v.heap.size, 0, none⟩) 0 0, x4, x5, x6, x7, x8, x9, x10, x11, x12, x13, x14, x15, x16, x17, (some ⟨v.heap.size, 0, none⟩), A2, A3, rfl, rfl, c1.build hMw, c2.alloc _, c3.alloc _, hs.alloc _ rfl (fun q h h' => by have := hl2 q h'; simp at h; omega) (fun q h h' => by have := hl3 q h'; simp at h; omega) hs.ap4⟩
      -- ]]op0
    · -- [[op1
      obtain rfl : b1 = false := hf
      obtain rfl := Option.some.inj ho
      refine wpOp_if rfl ?_
      go_simp
      exact ⟨b0, true, b2, b3, b4, b5, b6, b7, b8, b9, b10, b11, b12, b13, b14, b15, b16, b17, x3, .pointer (some ⟨w.heap.size, 0, none⟩), x5, x6, x7, x8, x9, x10, x11, x12, x13, x14, x15, x16, x17, A1, A2, A3, rfl, rfl, c1.addr, c2, c3, hs⟩
      -- ]]op1
    · -- [[op2
      obtain rfl : b2 = false := hf
      obtain rfl := Option.some.inj ho
      have d1 : b1 = true := hall { on := 1, ground := .data } (by simp) rfl
      obtain rfl : b1 = true := d1
      have hph : b13 = false ∧ b15 = false ∧ b17 = false := by refine ⟨?_, ?_, ?_⟩ <;> (rw [← Bool.not_eq_true]; intro e; have := hs.ph (by simp [e]); simp at this)
      obtain ⟨rfl, rfl, rfl⟩ := hph
      obtain rfl := c1.e1 rfl
      have FR := hs.R.facts5R
      simp only [Bool.false_eq_true, if_false] at FR
      refine wpOp_if rfl ?_
      go_simp
      exact ⟨b0, true, true, b3, b4, b5, b6, b7, b8, b9, b10, b11, b12, false, b14, false, b16, false, x3, .pointer (some ⟨w.heap.size, 0, none⟩), .slice HA hn hc, x6, x7, x8, x9, x10, x11, x12, x13, x14, x15, x16, x17, A1, A2, A3, rfl, rfl, c1.load, c2, c3, { hs with ph := fun h => by rcases h with h | h | h <;> cases h }⟩
      -- ]]op2
    · -- [[op3
      obtain rfl : b3 = false := hf
      obtain rfl := Option.some.inj ho
      have d0 : b0 = true := hall { on := 0, ground := .data } (by simp) rfl
      have d2 : b2 = true := hall { on := 2, ground := .data } (by simp) rfl
      have hph : b13 = false ∧ b15 = false ∧ b17 = false := by refine ⟨?_, ?_, ?_⟩ <;> (rw [← Bool.not_eq_true]; intro e; have := hs.ph (by simp [e]); simp at this)
      obtain rfl : b0 = true := d0
      obtain ⟨rfl, hown⟩ := c1.e0 rfl rfl
      obtain rfl := c1.e2 d2
      refine wpOp_if rfl ?_
      refine step_appL u8c 1 u8c_one rfl (.tmp 3) (.tmp 5) _ rfl w3.heap.size 5 _ 1 Try.underlying24 u8_infoP rfl (by decide) (by decide) A1 0 0 [] rfl rfl hown HA hn hc held rfl HHN.out (HHR.out _ (hs.B3 (.inl rfl))) held rfl hn (by omega) (by omega) hMw ?_
      intro A' c' v' hO hc' hm' hb' hgr hat
      exact ⟨true, b1, b2, true, b4, b5, b6, b7, b8, b9, b10, b11, b12, b13, b14, b15, b16, b17, .slice A1 0 0, x4, .slice HA hn hc, .slice A' hn c', x7, x8, x9, x10, x11, x12, x13, x14, x15, x16, x17, A', A2, A3, rfl, rfl, c1.app hO hc' hm', c2.grown hgr (fun q hq e => hs.ap q e hq), c3.grown hgr (fun q hq e => hs.ap3 q e hq), hs.app rfl hb' (.inl rfl) (fun _ => rfl) hs.o11 hph (fun q h h' => by rcases hat with e | e <;> (rw [e] at h; first | exact hs.ap q h h' | (have := hl2 q h'; simp at h; omega))) (fun q h h' => by rcases hat with e | e <;> (rw [e] at h; first | exact hs.ap3 q h h' | (have := hl3 q h'; simp at h; omega))) hs.ap4⟩
      -- ]]op3
    · -- [[op4
      obtain rfl : b4 = false := hf
      obtain rfl := Option.some.inj ho
      refine wpOp_if rfl ?_
      go_simp
      exact ⟨b0, b1, b2, b3, true, b5, b6, b7, b8, b9, b10, b11, b12, b13, b14, b15, b16, b17, x3, x4, x5, x6, .slice (some ⟨v.heap.size, 0, none⟩) 0 0, x8, x9, x10, x11, x12, x13, x14, x15, x16, x17, A1, (some ⟨v.heap.size, 0, none⟩), A3, rfl, rfl, c1.alloc _, c2.build hMw, c3.alloc _, hs.alloc _ rfl (fun q h h' => by have := hl1 q h; simp at h'; omega) hs.ap3 (fun q h h' => by have := hl3 q h'; simp at h; omega)⟩
      -- ]]op4
    · -- [[op5
      obtain rfl : b5 = false := hf
      obtain rfl := Option.some.inj ho
      refine wpOp_if rfl ?_
      go_simp
      exact ⟨b0, b1, b2, b3, b4, true, b6, b7, b8, b9, b10, b11, b12, b13, b14, b15, b16, b17, x3, x4, x5, x6, x7, .pointer (some ⟨w.heap.size, 3, none⟩), x9, x10, x11, x12, x13, x14, x15, x16, x17, A1, A2, A3, rfl, rfl, c1, c2.addr, c3, hs⟩
      -- ]]op5
    · -- [[op6
      obtain rfl : b6 = false := hf
      obtain rfl := Option.some.inj ho
      have d5 : b5 = true := hall { on := 5, ground := .data } (by simp) rfl
      obtain rfl : b5 = true := d5
      have hph : b13 = false ∧ b15 = false ∧ b17 = false := by refine ⟨?_, ?_, ?_⟩ <;> (rw [← Bool.not_eq_true]; intro e; have := hs.ph (by simp [e]); simp at this)
      obtain ⟨rfl, rfl, rfl⟩ := hph
      obtain rfl := c2.e1 rfl
      have FR := hs.R.facts5R
      simp only [Bool.false_eq_true, if_false] at FR
      refine wpOp_if rfl ?_
      go_simp
      exact ⟨b0, b1, b2, b3, b4, true, true, b7, b8, b9, b10, b11, b12, false, b14, false, b16, false, x3, x4, x5, x6, x7, .pointer (some ⟨w.heap.size, 3, none⟩), .slice BA bn bc, x10, x11, x12, x13, x14, x15, x16, x17, A1, A2, A3, rfl, rfl, c1, c2.load, c3, { hs with ph := fun h => by rcases h with h | h | h <;> cases h }⟩
      -- ]]op6
    · -- [[op7
      obtain rfl : b7 = false := hf
      obtain rfl := Option.some.inj ho
      have d4 : b4 = true := hall { on := 4, ground := .data } (by simp) rfl
      have d6 : b6 = true := hall { on := 6, ground := .data } (by simp) rfl
      have d3 : b3 = true := hall { on := 3, ground := .chain } (by simp) rfl
      have hph : b13 = false ∧ b15 = false ∧ b17 = false := by refine ⟨?_, ?_, ?_⟩ <;> (rw [← Bool.not_eq_true]; intro e; have := hs.ph (by simp [e]); simp at this)
      obtain rfl : b4 = true := d4
      obtain ⟨rfl, hown⟩ := c2.e0 rfl rfl
      obtain rfl := c2.e2 d6
      refine wpOp_if rfl ?_
      refine step_appL u8c 1 u8c_one rfl (.tmp 7) (.tmp 9) _ rfl w3.heap.size 5 _ 1 Try.underlying24 u8_infoP rfl (by decide) (by decide) A2 0 0 [] rfl rfl hown BA bn bc body rfl HBN.out (HBR.out _ (hs.B3 (.inr (.inl rfl)))) body rfl bn (by omega) (by omega) hMw ?_
      intro A' c' v' hO hc' hm' hb' hgr hat
      exact ⟨b0, b1, b2, b3, true, b5, b6, true, b8, b9, b10, b11, b12, b13, b14, b15, b16, b17, x3, x4, x5, x6, .slice A2 0 0, x8, .slice BA bn bc, .slice A' bn c', x11, x12, x13, x14, x15, x16, x17, A1, A', A3, rfl, rfl, c1.grown hgr (fun q hq e => hs.ap q hq e), c2.app hO hc' hm', c3.grown hgr (fun q hq e => hs.ap4 q e hq), hs.app rfl hb' (.inr (.inl rfl)) (fun _ => d3) (fun _ => rfl) hph (fun q h h' => by rcases hat with e | e <;> (rw [e] at h'; first | exact hs.ap q h h' | (have := hl1 q h; simp at h'; omega))) hs.ap3 (fun q h h' => by rcases hat with e | e <;> (rw [e] at h; first | exact hs.ap4 q h h' | (have := hl3 q h'; simp at h; omega)))⟩
      -- ]]op7
    · -- [[op8
      obtain rfl : b8 = false := hf
      obtain rfl := Option.some.inj ho
      refine wpOp_if rfl ?_
      go_simp
      exact ⟨b0, b1, b2, b3, b4, b5, b6, b7, true, b9, b10, b11, b12, b13, b14, b15, b16, b17, x3, x4, x5, x6, x7, x8, x9, x10, .slice (some ⟨v.heap.size, 0, none⟩) 0 0, x12, x13, x14, x15, x16, x17, A1, A2, (some ⟨v.heap.size, 0, none⟩), rfl, rfl, c1.alloc _, c2.alloc _, c3.build hMw, hs.alloc _ rfl hs.ap (fun q h h' => by have := hl1 q h; simp at h'; omega) (fun q h h' => by have := hl2 q h; simp at h'; omega)⟩
      -- ]]op8
    · -- [[op9
      obtain rfl : b9 = false := hf
      obtain rfl := Option.some.inj ho
      refine wpOp_if rfl ?_
      go_simp
      exact ⟨b0, b1, b2, b3, b4, b5, b6, b7, b8, true, b10, b11, b12, b13, b14, b15, b16, b17, x3, x4, x5, x6, x7, x8, x9, x10, x11, .pointer (some ⟨w.heap.size, 1, none⟩), x13, x14, x15, x16, x17, A1, A2, A3, rfl, rfl, c1, c2, c3.addr, hs⟩
      -- ]]op9
    · -- [[op10
      obtain rfl : b10 = false := hf
      obtain rfl := Option.some.inj ho
      have d9 : b9 = true := hall { on := 9, ground := .data } (by simp) rfl
      obtain rfl : b9 = true := d9
      have hph : b13 = false ∧ b15 = false ∧ b17 = false := by refine ⟨?_, ?_, ?_⟩ <;> (rw [← Bool.not_eq_true]; intro e; have := hs.ph (by simp [e]); simp at this)
      obtain ⟨rfl, rfl, rfl⟩ := hph
      obtain rfl := c3.e1 rfl
      have FR := hs.R.facts5R
      simp only [Bool.false_eq_true, if_false] at FR
      refine wpOp_if rfl ?_
      go_simp
      exact ⟨b0, b1, b2, b3, b4, b5, b6, b7, b8, true, true, b11, b12, false, b14, false, b16, false, x3, x4, x5, x6, x7, x8, x9, x10, x11, .pointer (some ⟨w.heap.size, 1, none⟩), .slice FA fn fc, x14, x15, x16, x17, A1, A2, A3, rfl, rfl, c1, c2, c3.load, { hs with ph := fun h => by rcases h with h | h | h <;> cases h }⟩
      -- ]]op10
    · -- [[op11
      obtain rfl : b11 = false := hf
      obtain rfl := Option.some.inj ho
      have d8 : b8 = true := hall { on := 8, ground := .data } (by simp) rfl
      have d10 : b10 = true := hall { on := 10, ground := .data } (by simp) rfl
      have d7 : b7 = true := hall { on := 7, ground := .chain } (by simp) rfl
      have hph : b13 = false ∧ b15 = false ∧ b17 = false := by refine ⟨?_, ?_, ?_⟩ <;> (rw [← Bool.not_eq_true]; intro e; have := hs.ph (by simp [e]); simp at this)
      obtain rfl : b8 = true := d8
      obtain ⟨rfl, hown⟩ := c3.e0 rfl rfl
      obtain rfl := c3.e2 d10
      refine wpOp_if rfl ?_
      refine step_appL fcells 2 fcells_one rfl (.tmp 11) (.tmp 13) _ rfl w3.heap.size 47 _ 32 Try.underlying23 fldInfo rfl (by decide) (by decide) A3 0 0 [] rfl rfl hown FA fn fc fs rfl HFN.out (HFR.out _ (hs.B3 (.inr (.inr rfl)))) fs rfl fn (by omega) (by omega) hMw ?_
      intro A' c' v' hO hc' hm' hb' hgr hat
      exact ⟨b0, b1, b2, b3, b4, b5, b6, b7, true, b9, b10, true, b12, b13, b14, b15, b16, b17, x3, x4, x5, x6, x7, x8, x9, x10, .slice A3 0 0, x12, .slice FA fn fc, .slice A' fn c', x15, x16, x17, A1, A2, A', rfl, rfl, c1.grown hgr (fun q hq e => hs.ap3 q hq e), c2.grown hgr (fun q hq e => hs.ap4 q hq e), c3.app hO hc' hm', hs.app rfl hb' (.inr (.inr rfl)) hs.o7 (fun _ => d7) hph hs.ap (fun q h h' => by rcases hat with e | e <;> (rw [e] at h'; first | exact hs.ap3 q h h' | (have := hl1 q h; simp at h'; omega))) (fun q h h' => by rcases hat with e | e <;> (rw [e] at h'; first | exact hs.ap4 q h h' | (have := hl2 q h; simp at h'; omega)))⟩
      -- ]]op11
    · -- [[op12
      obtain rfl : b12 = false := hf
      obtain rfl := Option.some.inj ho
      refine wpOp_if rfl ?_
      go_simp
      exact ⟨b0, b1, b2, b3, b4, b5, b6, b7, b8, b9, b10, b11, true, b13, b14, b15, b16, b17, x3, x4, x5, x6, x7, x8, x9, x10, x11, x12, x13, x14, .pointer (some ⟨w.heap.size, 0, none⟩), x16, x17, A1, A2, A3, rfl, rfl, c1, c2, c3, { hs with s12 := fun _ => rfl }⟩
      -- ]]op12
    · -- [[op13
      obtain rfl : b13 = false := hf
      obtain rfl := Option.some.inj ho
      have d12 : b12 = true := hall { on := 12, ground := .data } (by simp) rfl
      have d2 : b2 = true := hall { on := 2, ground := .phase } (by simp) rfl
      have d6 : b6 = true := hall { on := 6, ground := .phase } (by simp) rfl
      have d10 : b10 = true := hall { on := 10, ground := .phase } (by simp) rfl
      have d3 : b3 = true := hall { on := 3, ground := .data } (by simp) rfl
      have d11 : b11 = true := hall { on := 11, ground := .chain } (by simp) rfl
      have d7 : b7 = true := hs.o11 d11
      subst d2 d3 d6 d7 d10 d11 d12
      obtain ⟨cx, hx, _, _, _⟩ := c1.e3 rfl
      subst hx
      obtain rfl := hs.s12 rfl
      have FR := hs.R.facts5R
      refine wpOp_if rfl ?_
      go_simp
      exact ⟨b0, b1, true, true, b4, b5, true, true, b8, b9, true, true, true, true, b14, b15, b16, b17, x3, x4, x5, .slice A1 hn cx, x7, x8, x9, x10, x11, x12, x13, x14, .pointer (some ⟨w.heap.size, 0, none⟩), x16, x17, A1, A2, A3, rfl, rfl, c1.set (by show w.heap.size < w3.heap.size; omega) _, c2.set (by show w.heap.size < w3.heap.size; omega) _, c3.set (by show w.heap.size < w3.heap.size; omega) _, ⟨hs.s12, hs.s14, hs.s16, (hs.R.set_ 0 (.slice A1 hn cx)).as (by simp), (fun _ => ⟨rfl, rfl, rfl, rfl, rfl, rfl⟩), (fun h => by rcases h with h | h | h <;> cases h), hs.o7, hs.o11, hs.Z.far (p := ⟨w.heap.size, 0, none⟩) (by show w.heap.size + 1 ≠ w.heap.size; omega) _, hs.B.setCell (p := ⟨w.heap.size, 0, none⟩) (Nat.le_refl _) _, hM, by simpa using hMw, hs.ap, hs.ap3, hs.ap4⟩⟩
      -- ]]op13
    · -- [[op14
      obtain rfl : b14 = false := hf
      obtain rfl := Option.some.inj ho
      refine wpOp_if rfl ?_
      go_simp
      exact ⟨b0, b1, b2, b3, b4, b5, b6, b7, b8, b9, b10, b11, b12, b13, true, b15, b16, b17, x3, x4, x5, x6, x7, x8, x9, x10, x11, x12, x13, x14, x15, .pointer (some ⟨w.heap.size, 3, none⟩), x17, A1, A2, A3, rfl, rfl, c1, c2, c3, { hs with s14 := fun _ => rfl }⟩
      -- ]]op14
    · -- [[op15
      obtain rfl : b15 = false := hf
      obtain rfl := Option.some.inj ho
      have d14 : b14 = true := hall { on := 14, ground := .data } (by simp) rfl
      have d13 : b13 = true := hall { on := 13, ground := .chain } (by simp) rfl
      obtain ⟨d2, d3, d6, d7, d10, d11⟩ := hs.ph (.inl d13)
      subst d2 d3 d6 d7 d10 d11 d13 d14
      obtain ⟨cx, hx, _, _, _⟩ := c2.e3 rfl
      subst hx
      obtain rfl := hs.s14 rfl
      have FR := hs.R.facts5R
      refine wpOp_if rfl ?_
      go_simp
      exact ⟨b0, b1, true, true, b4, b5, true, true, b8, b9, true, true, b12, true, true, true, b16, b17, x3, x4, x5, x6, x7, x8, x9, .slice A2 bn cx, x11, x12, x13, x14, x15, .pointer (some ⟨w.heap.size, 3, none⟩), x17, A1, A2, A3, rfl, rfl, c1.set (by show w.heap.size < w3.heap.size; omega) _, c2.set (by show w.heap.size < w3.heap.size; omega) _, c3.set (by show w.heap.size < w3.heap.size; omega) _, ⟨hs.s12, hs.s14, hs.s16, (hs.R.set_ 3 (.slice A2 bn cx)).as (by simp), (fun _ => ⟨rfl, rfl, rfl, rfl, rfl, rfl⟩), (fun h => by rcases h with h | h | h <;> cases h), hs.o7, hs.o11, hs.Z.far (p := ⟨w.heap.size, 3, none⟩) (by show w.heap.size + 1 ≠ w.heap.size; omega) _, hs.B.setCell (p := ⟨w.heap.size, 3, none⟩) (Nat.le_refl _) _, hM, by simpa using hMw, hs.ap, hs.ap3, hs.ap4⟩⟩
      -- ]]op15
    · -- [[op16
      obtain rfl : b16 = false := hf
      obtain rfl := Option.some.inj ho
      refine wpOp_if rfl ?_
      go_simp
      exact ⟨b0, b1, b2, b3, b4, b5, b6, b7, b8, b9, b10, b11, b12, b13, b14, b15, true, b17, x3, x4, x5, x6, x7, x8, x9, x10, x11, x12, x13, x14, x15, x16, .pointer (some ⟨w.heap.size, 1, none⟩), A1, A2, A3, rfl, rfl, c1, c2, c3, { hs with s16 := fun _ => rfl }⟩
      -- ]]op16
    · -- [[op17
      obtain rfl : b17 = false := hf
      obtain rfl := Option.some.inj ho
      have d16 : b16 = true := hall { on := 16, ground := .data } (by simp) rfl
      have d15 : b15 = true := hall { on := 15, ground := .chain } (by simp) rfl
      obtain ⟨d2, d3, d6, d7, d10, d11⟩ := hs.ph (.inr (.inl d15))
      subst d2 d3 d6 d7 d10 d11 d15 d16
      obtain ⟨cx, hx, _, _, _⟩ := c3.e3 rfl
      subst hx
      obtain rfl := hs.s16 rfl
      have FR := hs.R.facts5R
      refine wpOp_if rfl ?_
      go_simp
      exact ⟨b0, b1, true, true, b4, b5, true, true, b8, b9, true, true, b12, b13, b14, true, true, true, x3, x4, x5, x6, x7, x8, x9, x10, x11, x12, x13, .slice A3 fn cx, x15, x16, .pointer (some ⟨w.heap.size, 1, none⟩), A1, A2, A3, rfl, rfl, c1.set (by show w.heap.size < w3.heap.size; omega) _, c2.set (by show w.heap.size < w3.heap.size; omega) _, c3.set (by show w.heap.size < w3.heap.size; omega) _, ⟨hs.s12, hs.s14, hs.s16, (hs.R.set_ 1 (.slice A3 fn cx)).as (by simp), (fun _ => ⟨rfl, rfl, rfl, rfl, rfl, rfl⟩), (fun h => by rcases h with h | h | h <;> cases h), hs.o7, hs.o11, hs.Z.far (p := ⟨w.heap.size, 1, none⟩) (by show w.heap.size + 1 ≠ w.heap.size; omega) _, hs.B.setCell (p := ⟨w.heap.size, 1, none⟩) (Nat.le_refl _) _, hM, by simpa using hMw, hs.ap, hs.ap3, hs.ap4⟩⟩
      -- ]]op17
  case hend =>
    intro l a v hI hr
    obtain ⟨b0, b1, b2, b3, b4, b5, b6, b7, b8, b9, b10, b11, b12, b13, b14, b15, b16, b17, x3, x4, x5, x6, x7, x8, x9, x10, x11, x12, x13, x14, x15, x16, x17, A1, A2, A3, rfl, rfl, c1, c2, c3, hs⟩ := hI
    have hall := ready_all hr rfl (by kernel_rfl) 18
    obtain rfl : b0 = true := hall 0 (by decide)
    obtain rfl : b1 = true := hall 1 (by decide)
    obtain rfl : b2 = true := hall 2 (by decide)
    obtain rfl : b3 = true := hall 3 (by decide)
    obtain rfl : b4 = true := hall 4 (by decide)
    obtain rfl : b5 = true := hall 5 (by decide)
    obtain rfl : b6 = true := hall 6 (by decide)
    obtain rfl : b7 = true := hall 7 (by decide)
    obtain rfl : b8 = true := hall 8 (by decide)
    obtain rfl : b9 = true := hall 9 (by decide)
    obtain rfl : b10 = true := hall 10 (by decide)
    obtain rfl : b11 = true := hall 11 (by decide)
    obtain rfl : b12 = true := hall 12 (by decide)
    obtain rfl : b13 = true := hall 13 (by decide)
    obtain rfl : b14 = true := hall 14 (by decide)
    obtain rfl : b15 = true := hall 15 (by decide)
    obtain rfl : b16 = true := hall 16 (by decide)
    obtain rfl : b17 = true := hall 17 (by decide)
    obtain ⟨k1, rfl, k1a, k1b, hO1⟩ := c1.e3 rfl
    obtain ⟨k2, rfl, k2a, k2b, hO2⟩ := c2.e3 rfl
    obtain ⟨k3, rfl, k3a, k3b, hO3⟩ := c3.e3 rfl
    have hR := hs.R
    have hZ7 := hs.Z
    have hb7 := hs.B
    have hM := hs.hM
    simp only [if_true] at hR
    have HX := Lib.hid (show RdrO v w3.heap.size A1 hn k1 held A3 fn k3 fs A2 bn k2 body from ⟨hO1, hO3, hO2, hs.ap, HHN.out, HFN.out, HBN.out⟩)
    clear c1 c2 c3 hs hall hr hO1 hO2 hO3
    have FS := hR.facts5R
    have FZ := hZ7.facts5R
    go_wp2_with fail
    refine bodyPost_ret (v := .agg #[.slice A1 hn k1, .slice A3 fn k3, .bool bg, .slice A2 bn k2, .bool en]) ?_ rfl ⟨A1, k1, A3, k3, A2, k2, rfl, ?_, ?_⟩
    · simp [results, Try.results19, go_sem, FZ] <;> rfl
    · refine RdrO.mono (base := w3.heap.size) ?_ (by omega)
      have h := HX.out
      (repeat (first | with_reducible exact h | (with_reducible refine RdrO.set ?_ ?side _; case side => (first | (simp; done) | (simp; omega)))))
    · (repeat (first | with_reducible exact hb7 | with_reducible refine Below.drew ?_ | (with_reducible refine Below.set4 ?_ ?side _ _ _ _; case side => (first | omega | (simp; omega) | (simp; done))) | (with_reducible refine Below.setCell ?_ ?side _; case side => (first | omega | (simp; omega) | (simp; done))) | (with_reducible refine Below.alloc ?_ ?side _; case side => (first | omega | (simp; omega) | (simp; done)))))
end Go.Proofs.Ytihngonemdaihaa
/- The contract of request.next. -/
namespace Go.Proofs.Ytihngonemdaihaa
open Go.ChangeShapes Go.WideShapes Go.ChangeAt Go.RowKit
set_option linter.unusedVariables false

/-- The next frame that is held whole: its kind, its bytes, how many bytes it has, and what is wrong. -/
def nextR (b : List UInt8) : Int × List UInt8 × Int × Int :=
  if (decR b).2.2 ≠ 0 then (0, [], 0, 4) else
  if (decR (b.drop (decR b).2.1.toNat)).2.2 ≠ 0 then (0, [], 0, 4) else
  if 400 < (decR (b.drop (decR b).2.1.toNat)).1 then (0, [], 0, 1) else
  if (b.length : Int) - (decR b).2.1 - (decR (b.drop (decR b).2.1.toNat)).2.1 < (decR (b.drop (decR b).2.1.toNat)).1 then (0, [], 0, 4) else
  ((decR b).1, (b.drop ((decR b).2.1.toNat + (decR (b.drop (decR b).2.1.toNat)).2.1.toNat)).take (decR (b.drop (decR b).2.1.toNat)).1.toNat, (decR b).2.1 + (decR (b.drop (decR b).2.1.toNat)).2.1 + (decR (b.drop (decR b).2.1.toNat)).1, 0)
theorem BV.frontR {w : World} {A : Option Addr} {n c k : Nat} {bs : List UInt8} (h : BV w A n c bs) (hk : k ≤ n) : BV w A k c (bs.take k) :=
  ⟨by rw [List.length_take, h.hn]; omega, by have := h.hnc; omega, h.hcm, h.rd.front (by rw [h.hn]; exact hk)⟩
theorem BV.cutR {w : World} {A : Option Addr} {n c k : Nat} {bs : List UInt8} (h : BV w A n c bs) (hk : k ≤ n) : BV w (if c = k then A else A.map (·.add k)) (n - k) (c - k) (bs.drop k) :=
  ⟨by rw [List.length_drop, h.hn], by have := h.hnc; omega, by have := h.hcm; omega, h.rd.cut (by rw [h.hn]; exact hk) (by rw [h.hn]; exact h.hnc)⟩
theorem BV.nilR (w : World) : BV w none 0 0 [] := ⟨rfl, Nat.le_refl _, by decide, RdB.nil⟩

set_option maxRecDepth 100000 in
set_option maxHeartbeats 4000000 in
theorem rNext_any (w : World) (A : Option Addr) (n c : Nat) (bs : List UInt8) (hB : BV w A n c bs) (kd : Int) (body : List UInt8) (us E : Int) (hR : nextR bs = (kd, body, us, E)) :
    Calls Try.prog 20 #[.slice A n c] w fun e w' => ∃ (X : Option Addr) (m d : Nat), e = .returned (.tuple #[.int .i64 kd, .slice X m d, .int .i64 us, .int .i64 E]) ∧ BV w X m d body ∧ Below w.heap.size w w' := by
  have HB := Lib.hid hB
  have HN := Lib.hid hB.hn
  have hn0 := hB.hn
  have hnc := hB.hnc
  have hcm := hB.hcm
  unfold nextR at hR
  rcases decR_cases bs with ⟨h1, h2⟩ | ⟨N, K, h1, hK, hNK, hKl, hK1, hNlt⟩
  ·
    -- [[bad1
    rw [h1, if_pos (by simp)] at hR
    injection hR with e1 e2
    injection e2 with e2 e3
    injection e3 with e3 e4
    subst e1 e2 e3 e4
    have HD1 : Hid (Calls Try.prog 33 #[.slice A n c] w fun e w' => e = .returned (.tuple #[.int .i64 0, .int .i64 0, .int .i64 4]) ∧ w = w') := Lib.hid (decode_n A bs n c w HN.out HB.out.rd hnc hcm _ h1)
    clear h1 h2
    go_enter Try.func20, Try.ntmps20
    go_wp2_with fail
    refine HD1.out.mono ?_
    rintro e w' ⟨rfl, rfl⟩
    go_wp2_with fail
    refine bodyPost_ret (v := .tuple #[.int .i64 0, .slice none 0 0, .int .i64 0, .int .i64 4]) ?_ rfl ⟨none, 0, 0, rfl, BV.nilR _, Below.refl _ _⟩
    simp [results, Try.results20, go_sem] <;> rfl
    -- ]]bad1
  · have hNb : (N : Int) ≤ 4611686018427387903 := (dec_size bs N K hK hNlt).1
    rw [hn0] at hKl
    rw [h1] at hR
    simp only [Int.toNat_natCast] at hR
    rw [if_neg (by simp)] at hR
    have HD1 : Hid (Calls Try.prog 33 #[.slice A n c] w fun e w' => e = .returned (.tuple #[.int .i64 (N : Int), .int .i64 (K : Int), .int .i64 0]) ∧ w = w') := Lib.hid (decode_n A bs n c w HN.out HB.out.rd hnc hcm _ h1)
    obtain ⟨D, hD⟩ : ∃ D, (if c = K then A else Option.map (fun x => x.add K) A) = D := ⟨_, rfl⟩
    obtain ⟨n2, hn2⟩ : ∃ n2, n - K = n2 := ⟨_, rfl⟩
    obtain ⟨c2, hc2⟩ : ∃ c2, c - K = c2 := ⟨_, rfl⟩
    obtain ⟨bs2, hbs2⟩ : ∃ bs2, bs.drop K = bs2 := ⟨_, rfl⟩
    have hB2 : BV w D n2 c2 bs2 := by
      have h := HB.out.cutR (k := K) hKl
      rw [hn2, hc2, hbs2] at h
      rw [← hD]; exact h
    have HB2 := Lib.hid hB2
    have hnn2 : n2 ≤ c2 ∧ c2 ≤ 9223372036854775807 := ⟨hB2.hnc, hB2.hcm⟩
    have hk0 : (0 : Int) ≤ (K : Int) := by omega
    have hkn : (K : Int) ≤ (n : Int) := by omega
    have hkc : (K : Int) ≤ (c : Int) := by omega
    have hkc' : K ≤ c := by omega
    rw [hbs2] at hR
    clear h1 hK hNK hNlt hbs2 hB2
    rcases decR_cases bs2 with ⟨g1, g2⟩ | ⟨M, J, g1, gJ, gM, gJl, gJ1, gMlt⟩
    ·
      -- [[bad2
      rw [g1, if_pos (by simp)] at hR
      injection hR with e1 e2
      injection e2 with e2 e3
      injection e3 with e3 e4
      subst e1 e2 e3 e4
      have HD2 : Hid (Calls Try.prog 33 #[.slice D n2 c2] w fun e w' => e = .returned (.tuple #[.int .i64 0, .int .i64 0, .int .i64 4]) ∧ w = w') := Lib.hid (decode_n D bs2 n2 c2 w HB2.out.hn HB2.out.rd hnn2.1 hnn2.2 _ g1)
      clear g1 g2
      go_enter Try.func20, Try.ntmps20
      go_wp2_with fail
      refine HD1.out.mono ?_
      rintro e w' ⟨rfl, rfl⟩
      go_wp2_with fail
      refine HD2.out.mono ?_
      rintro e w' ⟨rfl, rfl⟩
      go_wp2_with fail
      refine bodyPost_ret (v := .tuple #[.int .i64 0, .slice none 0 0, .int .i64 0, .int .i64 4]) ?_ rfl ⟨none, 0, 0, rfl, BV.nilR _, Below.refl _ _⟩
      simp [results, Try.results20, go_sem] <;> rfl
      -- ]]bad2
    · have hMb : (M : Int) ≤ 4611686018427387903 := (dec_size bs2 M J gJ gMlt).1
      rw [g1] at hR
      simp only [Int.toNat_natCast] at hR
      rw [if_neg (by simp), HN.out] at hR
      rw [HB2.out.hn] at gJl
      have HD2 : Hid (Calls Try.prog 33 #[.slice D n2 c2] w fun e w' => e = .returned (.tuple #[.int .i64 (M : Int), .int .i64 (J : Int), .int .i64 0]) ∧ w = w') := Lib.hid (decode_n D bs2 n2 c2 w HB2.out.hn HB2.out.rd hnn2.1 hnn2.2 _ g1)
      rw [if_neg (by omega)] at hD
      clear g1 gJ gM gMlt
      by_cases h400 : (400 : Int) < (M : Int)
      ·
        -- [[big
        rw [if_pos h400] at hR
        injection hR with e1 e2
        injection e2 with e2 e3
        injection e3 with e3 e4
        subst e1 e2 e3 e4
        have d1 : decide ((400 : Int) < (M : Int)) = true := decide_eq_true h400
        have d1' : decide (400 < M) = true := decide_eq_true (by omega)
        go_enter Try.func20, Try.ntmps20
        go_wp2_with fail
        refine HD1.out.mono ?_
        rintro e w' ⟨rfl, rfl⟩
        go_wp2_with fail
        refine HD2.out.mono ?_
        rintro e w' ⟨rfl, rfl⟩
        go_wp2_with fail
        refine bodyPost_ret (v := .tuple #[.int .i64 0, .slice none 0 0, .int .i64 0, .int .i64 1]) ?_ rfl ⟨none, 0, 0, rfl, BV.nilR _, Below.refl _ _⟩
        simp [results, Try.results20, go_sem] <;> rfl
        -- ]]big
      · rw [if_neg h400] at hR
        have d1 : decide ((400 : Int) < (M : Int)) = false := decide_eq_false h400
        have d1' : decide (400 < M) = false := decide_eq_false (by omega)
        by_cases hsh : (n : Int) - (K : Int) - (J : Int) < (M : Int)
        ·
          -- [[short
          rw [if_pos hsh] at hR
          injection hR with e1 e2
          injection e2 with e2 e3
          injection e3 with e3 e4
          subst e1 e2 e3 e4
          have d2 : decide ((n : Int) - (K : Int) - (J : Int) < (M : Int)) = true := decide_eq_true hsh
          go_enter Try.func20, Try.ntmps20
          go_wp2_with fail
          refine HD1.out.mono ?_
          rintro e w' ⟨rfl, rfl⟩
          go_wp2_with fail
          refine HD2.out.mono ?_
          rintro e w' ⟨rfl, rfl⟩
          go_wp2_with fail
          refine bodyPost_ret (v := .tuple #[.int .i64 0, .slice none 0 0, .int .i64 0, .int .i64 4]) ?_ rfl ⟨none, 0, 0, rfl, BV.nilR _, Below.refl _ _⟩
          simp [results, Try.results20, go_sem] <;> rfl
          -- ]]short
        ·
          -- [[good
          rw [if_neg hsh] at hR
          injection hR with e1 e2
          injection e2 with e2 e3
          injection e3 with e3 e4
          subst e1 e2 e3 e4
          have d2 : decide ((n : Int) - (K : Int) - (J : Int) < (M : Int)) = false := decide_eq_false hsh
          have hlo : (0 : Int) ≤ (K : Int) + (J : Int) := by omega
          have hlh : (K : Int) + (J : Int) ≤ (K : Int) + (J : Int) + (M : Int) := by omega
          have hhc : (K : Int) + (J : Int) + (M : Int) ≤ (c : Int) := by omega
          have hw1 : IntKind.i64.wrap ((K : Int) + (J : Int)) = (K : Int) + (J : Int) := IntWalk.i64_in _ (by omega)
          have hw2 : IntKind.i64.wrap ((K : Int) + (J : Int) + (M : Int)) = (K : Int) + (J : Int) + (M : Int) := IntWalk.i64_in _ (by omega)
          go_enter Try.func20, Try.ntmps20
          go_wp2_with fail
          refine HD1.out.mono ?_
          rintro e w' ⟨rfl, rfl⟩
          go_wp2_with fail
          refine HD2.out.mono ?_
          rintro e w' ⟨rfl, rfl⟩
          go_wp2_with fail
          go_quiet (fail)
          obtain ⟨X, hX⟩ : ∃ X, (if c = K + J then A else Option.map (fun x => x.add (K + J)) A) = X := ⟨_, rfl⟩
          rw [hX, show K + J + M - (K + J) = M by omega]
          have hBX : BV w X M (c - (K + J)) ((bs.drop (K + J)).take M) := by
            have h := (HB.out.cutR (k := K + J) (by omega)).frontR (k := M) (by omega)
            rw [← hX]
            exact h
          have HBX := Lib.hid hBX
          clear hX hBX hD HB2 hn2 hc2
          go_wp2_with fail
          refine bodyPost_ret (v := .tuple #[.int .i64 (N : Int), .slice X M (c - (K + J)), .int .i64 ((K : Int) + (J : Int) + (M : Int)), .int .i64 0]) ?_ rfl ⟨X, M, c - (K + J), rfl, HBX.out, ⟨rfl, rfl, rfl, Nat.le_refl _, fun _ _ => rfl⟩⟩
          simp [results, Try.results20, go_sem] <;> rfl
          -- ]]good
end Go.Proofs.Ytihngonemdaihaa
/- The contract of request.framed. -/
namespace Go.Proofs.Ytihngonemdaihaa
open Go.ChangeShapes Go.WideShapes Go.ChangeAt Go.RowKit
set_option linter.unusedVariables false

/-- A frame: its kind, how many bytes it has, and these. -/
def frmB (kind : Nat) (bs : List UInt8) : List UInt8 := UInt8.ofNat kind :: (encB bs.length ++ bs)
theorem frmB_len (kind : Nat) (bs : List UInt8) (h : bs.length ≤ 16383) : 2 ≤ (frmB kind bs).length ∧ (frmB kind bs).length ≤ 3 + bs.length := by
  have h1 := encB_pos bs.length (by omega)
  have h2 : (encB bs.length).length ≤ 2 := by rw [encB_length]; unfold sizeI; split <;> (try split) <;> (try split) <;> (try split) <;> omega
  unfold frmB
  rw [List.length_cons, List.length_append]
  omega

set_option maxRecDepth 100000 in
set_option maxHeartbeats 4000000 in
theorem rFramed_any (w : World) (kind : Nat) (hk : kind ≤ 1) (A : Option Addr) (n c : Nat) (bs : List UInt8) (hB : BV w A n c bs) (hn : n ≤ 2000) (k : Nat) (hk2 : (frmB kind bs).length = k) :
    Calls Try.prog 18 #[.int .i64 (kind : Int), .slice A n c] w fun e w' => ∃ (A' : Option Addr) (c' : Nat), e = .returned (.slice A' k c') ∧ OwnX u8c 1 w' w.heap.size 5 A' c' (frmB kind bs) ∧ Below w.heap.size w w' := by
  have HB := Lib.hid hB
  have HN := Lib.hid hB.hn
  obtain ⟨m, hm⟩ : ∃ m, (encB n).length = m := ⟨_, rfl⟩
  have hmk : 1 + m + n = k := by
    rw [← hk2, ← hm]
    unfold frmB
    rw [List.length_cons, List.length_append, hB.hn]
    omega
  have hm8 : m ≤ 8 := by rw [← hm]; exact (encB_pos n (by omega)).2
  have HC : Hid (∀ W, Calls Try.prog 32 #[.int .i64 (n : Int)] W fun e w' => ∃ A c, e = .returned (.tuple #[.slice A m c, .int .i64 0]) ∧ m ≤ c ∧ RdB w' A (encB n) ∧ Below W.heap.size W w') := Lib.hid (fun W => by
    refine (encode_any n (by omega) W).mono ?_
    rintro e w' ⟨he, hb, hbl⟩
    rw [hm] at he
    exact ⟨_, _, he, Nat.le_refl _, hb.rdB, hbl⟩)
  have HM := Lib.hid hm
  clear hB hm hk2
  go_enter Try.func18, Try.ntmps18
  go_wp2_with fail
  refine (HC.out _).mono ?_
  rintro e w1 ⟨A1, c1, rfl, hc1, hr1, hb1⟩
  have HR1 := Lib.hid hr1
  have HB1 := Lib.hid hb1
  have HBB := Lib.hid (HB.out.below hb1).rd
  clear hr1 hb1
  have hk256 : (kind : Int) % 256 = (kind : Int) := by omega
  have hO0 : OwnX u8c 1 (w1.alloc (.cells #[.int .u8 (kind : Int)] 5)) w1.heap.size 5 (some ⟨w1.heap.size, 0, none⟩) 1 [UInt8.ofNat kind] := by
    have h := (Blk.new w1 5 #[.int .u8 (kind : Int)]).own (n := 1) (size := 1) (Nat.le_refl _) (by simp) (by decide)
    have e : ((UInt8.ofNat kind).toNat : Int) = (kind : Int) := by simp; omega
    unfold OwnX
    simpa [u8c, e, hk256] using h
  have HO0 := Lib.hid hO0
  clear hO0
  have hl1 : Hid ((encB n).length = m) := HM
  go_wp2_with (first
    | (at_builtin; refine wpList_appL u8c 1 u8c_one _ rfl (.tmp 15) (.tmp 16) _ rfl w1.heap.size 5 _ 1 Try.underlying24 u8_infoP rfl (by decide) (by decide) _ 1 _ [UInt8.ofNat kind] rfl rfl HO0.out A1 m c1 (encB n) rfl hl1.out (RdX.below HR1.out.x ((Below.refl _ _).alloc (Nat.le_refl _) _)) (UInt8.ofNat kind :: encB n) rfl (1 + m) rfl (by omega) (by simp) ?_; intro A5 c5 w5 hO5 hc5 hm5 hb5 hgr5 hat5; have hbb5 : Below w1.heap.size w1 w5 := ((Below.refl _ _).alloc (Nat.le_refl _) _).trans hb5; have HO5 := Lib.hid hO5; have hs5 := hbb5.size; have hl5 : Hid ((UInt8.ofNat kind :: encB n).length = 1 + m) := Lib.hid (by rw [List.length_cons, HM.out]; omega))
    | (at_builtin; refine wpList_appL u8c 1 u8c_one _ rfl (.tmp 17) (.tmp 18) _ rfl w1.heap.size 5 _ 1 Try.underlying24 u8_infoP rfl (by decide) (by decide) _ (1 + m) _ (UInt8.ofNat kind :: encB n) rfl hl5.out HO5.out A n c bs rfl HN.out (RdX.below HBB.out.x hbb5) ((UInt8.ofNat kind :: encB n) ++ bs) rfl (1 + m + n) rfl (by omega) hs5 ?_; intro A6 c6 w6 hO6 hc6 hm6 hb6 hgr6 hat6))
  go_ret
  refine ⟨A6, c6, rfl, ?_, (HB1.out.trans ((hbb5.trans hb6).mono HB1.out.size))⟩
  have e : frmB kind bs = (UInt8.ofNat kind :: encB n) ++ bs := by unfold frmB; rw [HN.out]; rfl
  rw [e]
  exact hO6.mono HB1.out.size
end Go.Proofs.Ytihngonemdaihaa
/- Plain: the names of a request's fields; what is counted of them. -/
namespace Go.Proofs.Ytihngonemdaihaa
open Go.RowKit
open Go.Maps (IsMap atKey_put_same atKey_put_other)
set_option linter.unusedVariables false

abbrev MapS := DataW Unit
def numS (n : Int) : MapS := .lit (.int .i64 n)
def keyS (s : ByteArray) : Lit := .string s.data.toList
theorem keyS_lit (s : ByteArray) : WideAt.IsKeyLit (keyS s) := trivial
theorem keyS_ne {a b : ByteArray} (h : a ≠ b) : keyS a ≠ keyS b := fun e => by
  unfold keyS at e
  injection e with e
  exact h (by cases a; cases b; simp at e; congr 1)
/-- A name whose bytes may be. -/
def nmGood (s : ByteArray) : Prop := 1 ≤ s.size ∧ s.size ≤ 20 ∧ ∀ j, j < s.size → 33 ≤ ((bts s).getD j 0).toNat ∧ ((bts s).getD j 0).toNat ≤ 126 ∧ (((bts s).getD j 0).toNat < 65 ∨ 90 < ((bts s).getD j 0).toNat)
def isP (s : ByteArray) : Bool := (bts s).getD 0 0 == 58
def hasN (l : List Fld) (i : Nat) (s : ByteArray) : Bool := (l.take i).any (fun f => decide (f.1 = s))
/-- A list of fields whose names may be: those with a ':' come first, each once. -/
structure ReqL (l : List Fld) : Prop where
  good : ∀ j, j < l.length → nmGood (l.getD j fnil).1
  ps : ∀ j, j < l.length → isP (l.getD j fnil).1 = true → ((l.getD j fnil).1 = kMethod ∨ (l.getD j fnil).1 = kPath) ∧ ∀ k, k < j → isP (l.getD k fnil).1 = true ∧ (l.getD k fnil).1 ≠ (l.getD j fnil).1
theorem hasN_succ (l : List Fld) (i : Nat) (hi : i < l.length) (s : ByteArray) : hasN l (i + 1) s = (hasN l i s || decide ((l.getD i fnil).1 = s)) := by
  unfold hasN
  rw [List.take_succ_eq_append_getElem hi, List.any_append]
  simp [List.getD, hi]
theorem hasN_none {l : List Fld} {i : Nat} {s : ByteArray} (hi : i ≤ l.length) (h : ∀ k, k < i → (l.getD k fnil).1 ≠ s) : hasN l i s = false := by
  unfold hasN
  rw [List.any_eq_false]
  intro f hf
  obtain ⟨k, hk, rfl⟩ := List.getElem_of_mem hf
  rw [List.length_take] at hk
  have := h k (by omega)
  simp only [List.getElem_take]
  simp [List.getD, show k < l.length by omega] at this
  simpa using this
/-- What the loop has counted of the first i fields. -/
structure ChkSt (l : List Fld) (i : Nat) (p : Bool) (D : MapS) : Prop where
  im : IsMap D
  m : D.atKey (keyS kMethod) (numS 0) = numS (if hasN l i kMethod then 1 else 0)
  q : D.atKey (keyS kPath) (numS 0) = numS (if hasN l i kPath then 1 else 0)
  pl : (∀ k, k < i → isP (l.getD k fnil).1 = true) → p = false
theorem ChkSt.zero (l : List Fld) : ChkSt l 0 false (.map []) where
  im := Go.Maps.isMap_empty
  m := by simp [hasN]; rfl
  q := by simp [hasN]; rfl
  pl := fun _ => rfl
theorem kM_p : isP kMethod = true := by decide +kernel
theorem kP_p : isP kPath = true := by decide +kernel
theorem kMP : kMethod ≠ kPath := by decide +kernel
theorem ChkSt.plain {l : List Fld} {i : Nat} {p : Bool} {D : MapS} (h : ChkSt l i p D) (hi : i < l.length) (hp : isP (l.getD i fnil).1 = false) : ChkSt l (i + 1) true D where
  im := h.im
  m := by rw [hasN_succ l i hi, h.m]; have : decide ((l.getD i fnil).1 = kMethod) = false := by rw [decide_eq_false_iff_not]; intro e; rw [e, kM_p] at hp; cases hp
          rw [this, Bool.or_false]
  q := by rw [hasN_succ l i hi, h.q]; have : decide ((l.getD i fnil).1 = kPath) = false := by rw [decide_eq_false_iff_not]; intro e; rw [e, kP_p] at hp; cases hp
          rw [this, Bool.or_false]
  pl := fun hall => by have := hall i (by omega); rw [hp] at this; cases this
theorem ChkSt.pseudo {l : List Fld} {i : Nat} {p : Bool} {D : MapS} (h : ChkSt l i p D) (hl : ReqL l) (hi : i < l.length) (hp : isP (l.getD i fnil).1 = true) :
    p = false ∧ D.atKey (keyS (l.getD i fnil).1) (numS 0) = numS 0 ∧ ChkSt l (i + 1) false (D.put (keyS (l.getD i fnil).1) (numS 1)) := by
  obtain ⟨hn, hk⟩ := hl.ps i hi hp
  have hno : hasN l i (l.getD i fnil).1 = false := hasN_none (by omega) fun k h => (hk k h).2
  have hpf : p = false := h.pl fun k h => (hk k h).1
  refine ⟨hpf, ?_, h.im.put _ _, ?_, ?_, fun _ => rfl⟩
  · rcases hn with e | e
    · rw [e] at hno ⊢; rw [h.m, hno]; rfl
    · rw [e] at hno ⊢; rw [h.q, hno]; rfl
  · rw [hasN_succ l i hi]
    rcases hn with e | e
    · rw [e, atKey_put_same h.im (keyS_lit _)]; simp
    · rw [e, atKey_put_other (keyS_ne kMP), h.m]
      have : decide (kPath = kMethod) = false := by decide +kernel
      rw [this, Bool.or_false]
  · rw [hasN_succ l i hi]
    rcases hn with e | e
    · rw [e, atKey_put_other (keyS_ne (Ne.symm kMP)), h.q]
      have : decide (kMethod = kPath) = false := by decide +kernel
      rw [this, Bool.or_false]
    · rw [e, atKey_put_same h.im (keyS_lit _)]; simp
end Go.Proofs.Ytihngonemdaihaa
/- The contract of request.Check, of fields whose names may be. -/
namespace Go.Proofs.Ytihngonemdaihaa
open Go.ChangeShapes Go.WideShapes Go.ChangeAt Go.RowKit
open Go.Maps (Keyed string_keyed atKey_put_same)
open Go.WideMaps (keyOf_string_mk)
set_option linter.unusedVariables false

theorem str_eq' (a : ByteArray) : (a.toList == a.toList) = true := by simp
theorem lawS : Keyed Try.prog 9 := string_keyed Try.underlying9
theorem zeroS (w : World) : (zeroValue 3).run Try.prog w = .ok (.int .i64 0) w := by kernel_rfl
/-- The map of names in block g reads as D. -/
def MapQ (w : World) (g cnt : Nat) (D : MapS) : Prop := w.ownsMap Try.prog 9 (plainElem Try.prog 3) g cnt D
theorem MapQ.lt {w : World} {g cnt : Nat} {D : MapS} (h : MapQ w g cnt D) : g < w.heap.size := by
  obtain ⟨es, clock, hb, _⟩ := h
  exact (Array.getElem?_eq_some_iff.1 hb).1
theorem MapQ.of_block {w w' : World} {g cnt : Nat} {D : MapS} (h : MapQ w g cnt D) (hb : w'.heap[g]? = w.heap[g]?) : MapQ w' g cnt D := by
  obtain ⟨es, clock, h1, r⟩ := h
  exact ⟨es, clock, hb.trans h1, r⟩
theorem MapQ.below {w w' : World} {g cnt : Nat} {D : MapS} (h : MapQ w g cnt D) (hb : Below w.heap.size w w') : MapQ w' g cnt D := h.of_block (hb.block g h.lt)
theorem MapQ.look {w : World} {g cnt : Nat} {D : MapS} (h : MapQ w g cnt D) (s : ByteArray) (hs : s.size ≤ 1000) (n : Int) (hD : D.atKey (keyS s) (numS 0) = numS n) : (Instr.lookup 60 (.map (some g)) (.string s) false).run Try.prog w = .ok (.int .i64 n) w := by
  have hk : keyOf Try.prog 9 (.string s) = some (.string s.data.toList) := keyOf_string_mk Try.underlying9 (by unfold maxLen; omega)
  obtain ⟨c, hr, hat, _⟩ := World.ownsMap.lookup_int h lawS Try.underlying60 Try.underlying3 (zeroS w) hk
  have he : (DataW.lit (Lit.int IntKind.i64 c) : MapS) = DataW.lit (Lit.int IntKind.i64 n) := hat.symm.trans hD
  have he2 : c = n := congrArg (fun d : MapS => match d with | .lit (.int _ z) => z | _ => 0) he
  rw [hr, he2]
theorem Blk.map_growS {w w' : World} {g q : Nat} {t : TypeId} {cs : Array Value} (h : Blk w q t cs) (hq : q ≠ g) (hg : w.grownBy w' (some g)) : Blk w' q t cs := h.grown hg fun e => hq (Option.some.inj e)

set_option maxRecDepth 100000 in
set_option maxHeartbeats 8000000 in
theorem rCheck_any (w : World) (A : Option Addr) (n c : Nat) (l : List Fld) (hn : l.length = n) (hc1 : n ≤ c) (hc2 : c ≤ 9223372036854775807) (h8 : n ≤ 8) (hf : ∀ f ∈ l, FOk f) (hl : ReqL l) (hr : RdX fcells 2 w A l) (E : Int) (hE : (if hasN l n kMethod && hasN l n kPath then 0 else 3) = E) :
    Calls Try.prog 12 #[.slice A n c] w fun e w' => e = .returned (.int .i64 E) ∧ Below w.heap.size w w' := by
  have HN := Lib.hid hn
  have HL := Lib.hid hl
  have HF := Lib.hid hf
  have HR := Lib.hid hr
  have HE := Lib.hid hE
  have hch : fchkR l = 0 := fchkR_ok (by omega) (fun j hj => (fokB_iff _).2 (hf _ (getD_inF _ _ _ hj)))
  have HCH := Lib.hid hch
  clear hn hl hf hr hE hch
  have hmm := @run_makeMap Try.prog
  go_enter Try.func12, Try.ntmps12
  go_wp2_with fail
  refine (fCheck_any A n c l HN.out hc1 hc2 _ HR.out 0 HCH.out).mono ?_
  rintro e w1 ⟨rfl, hb1⟩
  have HB1 := Lib.hid hb1
  clear hb1
  go_upto_region 7 with (fail)
  obtain ⟨gM, hgM⟩ : ∃ q, w1.heap.size = q := ⟨_, rfl⟩
  refine wp_world (fun w' => MapQ w' gM 0 (.map []) ∧ Below gM w1 w') ⟨by rw [← hgM]; exact World.ownsMap_made _ _ _ _, by rw [← hgM]; exact (Below.refl _ _).alloc (Nat.le_refl _) _⟩ ?_
  try rw [hgM]
  have HGM := Lib.hid hgM
  clear hgM hmm
  rintro w2 ⟨hM2, hb2⟩
  have HM2 := Lib.hid hM2
  have HB2 := Lib.hid hb2
  clear hM2 hb2
  go_loopw [5, 18] (fun s5 s18 wr => ∃ (i : Nat) (p : Bool) (D : MapS) (cnt : Nat), i ≤ n ∧ s18 = .int .i64 (i : Int) ∧ s5 = .bool p ∧ cnt ≤ i ∧ ChkSt l i p D ∧ MapQ wr gM cnt D ∧ Below gM w1 wr) (fun _ s18 _ => ((n : Int) - intOf s18).toNat)
  case atStart => exact ⟨0, false, .map [], 0, Nat.zero_le _, rfl, rfl, Nat.le_refl _, ChkSt.zero l, HM2.out, HB2.out⟩
  case round =>
    obtain ⟨i, p, D, cnt, hi, rfl, rfl, hcnt, hS, hM, hB⟩ := hrel
    have HS := Lib.hid hS
    have HM := Lib.hid hM
    have HB := Lib.hid hB
    have hgl := hM.lt
    clear hS hM hB HM2 HB2
    by_cases hlt : i < n
    ·
      -- [[step
      have hi2 : i < l.length := by rw [HN.out]; exact hlt
      have hBw : Below w.heap.size w wr := HB1.out.trans (HB.out.mono (by have := HB1.out.size; have := HGM.out; omega))
      obtain ⟨b, off, hA, hcell⟩ := (RdX.below HR.out hBw).fcell (by omega)
      obtain ⟨c0, c1⟩ := hcell i hi2
      obtain ⟨x, y, hxy⟩ : ∃ x y, l.getD i fnil = (x, y) := ⟨_, _, rfl⟩
      rw [hxy] at c0 c1
      dsimp only at c0 c1
      have hgood := HL.out.good i hi2
      rw [hxy] at hgood
      dsimp only at hgood
      have HXY := Lib.hid hxy
      have HG := Lib.hid hgood
      have hx1 := hgood.1
      have hx20 := hgood.2.1
      subst hA
      clear hcell hxy hgood hBw hi2
      go_upto_region 9 with (fail)
      obtain ⟨gF, hgF⟩ : ∃ q, wr.heap.size = q := ⟨_, rfl⟩
      refine wp_world (fun w' => Blk w' gF 47 #[.string x, .string y] ∧ MapQ w' gM cnt D ∧ Below gM w1 w') ⟨Blk.newR hgF, HM.out.below ((Below.refl _ _).alloc (Nat.le_refl _) _), HB.out.alloc (by omega) _⟩ ?_
      try rw [hgF]
      have hgMF : gM < gF := by omega
      clear c0 c1 HM HB hgF hgl
      rintro w3 ⟨hF3, hM3, hb3⟩
      have FF := hF3.two
      have HF3 := Lib.hid hF3
      have HM3 := Lib.hid hM3
      have HB3 := Lib.hid hb3
      clear hF3 hM3 hb3
      have hcv : ∀ W, (convert 9 24 (.string x)).run Try.prog W = .ok (.slice (some ⟨W.heap.size, 0, none⟩) x.size (grownCap W x.size 0 5)) (W.drew.alloc (.cells (bytesRow x (grownCap W x.size 0 5)) 5 ((bytesRow x (grownCap W x.size 0 5)).size, (bytesRow x (grownCap W x.size 0 5)).size + 1))) := fun W => run_bytes_of_string W _ _ _ x Try.underlying9 Try.underlying24 Try.underlying5
      go_upto_region 10 with (fail)
      obtain ⟨gB, hgB⟩ : ∃ q, w3.heap.size = q := ⟨_, rfl⟩
      refine wp_world (fun w' => RdB w' (some ⟨gB, 0, none⟩) (bts x) ∧ Below w3.heap.size w3 w') ⟨?q1, by first | exact ((Below.refl _ _).drew).alloc (Nat.le_refl _) _ | (have h := Below.refl w3.heap.size w3; (repeat (first | with_reducible exact h | with_reducible refine Below.drew ?_ | (with_reducible refine Below.set4 ?_ ?side _ _ _ _; case side => (first | omega | (simp; omega) | (simp; done))) | (with_reducible refine Below.setCell ?_ ?side _; case side => (first | omega | (simp; omega) | (simp; done))) | (with_reducible refine Below.alloc ?_ ?side _; case side => (first | omega | (simp; omega) | (simp; done))))))⟩ ?_
      case q1 => rw [← hgB]; exact bytes_rd _ _ _ _ _
      rw [hgB]
      clear hcv
      rintro w4 ⟨hR4, hb4⟩
      rw [← hgB] at hb4
      have hgBF : gF < gB := by have := HF3.out.lt; omega
      have HR4 := Lib.hid hR4
      have HF4 := Lib.hid (HF3.out.carry hb4)
      have HM4 := Lib.hid (HM3.out.below hb4)
      have HB4 := Lib.hid (HB3.out.trans (hb4.mono (by omega)))
      have hbl : (bts x).length = x.size := bts_len x
      have HBL := Lib.hid hbl
      clear hR4 hb4 HF3 HM3 HB3 FF hgB hbl
      go_loopw [26] (fun s26 wq => ∃ j : Nat, j ≤ x.size ∧ s26 = .int .i64 (j : Int) ∧ Below w4.heap.size w4 wq) (fun s26 _ => ((x.size : Int) - intOf s26).toNat)
      case atStart => exact ⟨0, Nat.zero_le _, rfl, Below.refl _ _⟩
      case round =>
        obtain ⟨j, hj, rfl, hbq⟩ := hrel
        by_cases hjx : j < x.size
        ·
          -- [[chr
          obtain ⟨g1, g2, g3⟩ := HG.out.2.2 j hjx
          obtain ⟨ci, hci⟩ : ∃ ci : Nat, ((bts x).getD j 0).toNat = ci := ⟨_, rfl⟩
          obtain ⟨b', off', he, hcell⟩ := (HR4.out.below hbq).cell (by rw [HBL.out]; omega)
          injection he with he
          injection he with he1 he2
          subst he1 he2
          have hc0 := hcell j (by rw [HBL.out]; exact hjx)
          rw [hci, Nat.zero_add] at hc0
          rw [hci] at g1 g2 g3
          have hj0 : (0 : Int) ≤ (j : Int) := by omega
          have hj1 : (j : Int) < (x.size : Int) := by omega
          have d3 : decide ((ci : Int) ≤ 32) = false := decide_eq_false (by omega)
          have d3' : decide (ci ≤ 32) = false := decide_eq_false (by omega)
          have d4 : decide ((126 : Int) < (ci : Int)) = false := decide_eq_false (by omega)
          have d4' : decide (126 < ci) = false := decide_eq_false (by omega)
          have HBQ := Lib.hid hbq
          clear hcell hci hbq
          by_cases h65 : 65 ≤ ci
          · have d1 : decide ((65 : Int) ≤ (ci : Int)) = true := decide_eq_true (by omega)
            have d1' : decide (65 ≤ ci) = true := decide_eq_true h65
            have d2 : decide ((ci : Int) ≤ 90) = false := decide_eq_false (by omega)
            have d2' : decide (ci ≤ 90) = false := decide_eq_false (by omega)
            go_wp2_with fail
            go_roundw
            case rel => exact ⟨j + 1, hjx, by go_num, HBQ.out⟩
            case measure => simp [intOf]; omega
          · have d1 : decide ((65 : Int) ≤ (ci : Int)) = false := decide_eq_false (by omega)
            have d1' : decide (65 ≤ ci) = false := decide_eq_false h65
            go_wp2_with fail
            go_roundw
            case rel => exact ⟨j + 1, hjx, by go_num, HBQ.out⟩
            case measure => simp [intOf]; omega
          -- ]]chr
        ·
          -- [[rest
          obtain rfl : j = x.size := by omega
          rename World => w5
          have HF5 := Lib.hid (HF4.out.carry hbq)
          have HM5 := Lib.hid (HM4.out.below hbq)
          have HB5 := Lib.hid (HB4.out.trans (hbq.mono (by have := HM4.out.lt; omega)))
          have FF := HF5.out.two
          obtain ⟨c0, hc0⟩ : ∃ c0 : Nat, ((bts x).getD 0 0).toNat = c0 := ⟨_, rfl⟩
          have hix : ∀ W, (Instr.index 9 (.string x) (.int .i64 0)).run Try.prog W = .ok (.int .u8 (c0 : Int)) W := fun W => by
            rw [run_index_string W 9 x .i64 0 Try.underlying9, dif_pos ⟨by omega, by omega⟩]
            rw [← hc0]
            congr 2
            have h0 : 0 < x.data.size := hx1
            show ((x.data[(0 : Int).toNat]'_ : UInt8).toNat : Int) = _
            simp [bts, List.getD]
            rw [Array.getElem?_eq_getElem h0]; rfl
          clear hbq HF4 HM4 HB4 hjx hj
          go_upto_region 15 with (fail)
          cases hp : isP x with
          | true =>
            -- [[pseudo
            have hi2 : i < l.length := by rw [HN.out]; exact hlt
            have hpp := HS.out.pseudo HL.out hi2 (by rw [HXY.out]; exact hp)
            rw [HXY.out] at hpp
            obtain ⟨hpf, hat, hS'⟩ := hpp
            subst hpf
            have HS' := Lib.hid hS'
            have hpn := (HL.out.ps i hi2 (by rw [HXY.out]; exact hp)).1
            rw [HXY.out] at hpn
            dsimp only at hpn hat
            have h58 : c0 = 58 := by
              unfold isP at hp
              have := eq_of_beq hp
              rw [← hc0, this]; rfl
            subst h58
            have hk0 := HM5.out.look x (by omega) 0 hat
            have HIM := Lib.hid HS.out.im
            have hgF5 := HF5.out.lt
            clear hat hS' hi2
            have HHP := Lib.hid hp
            have HXY2 := Lib.hid HXY.out
            clear hp hc0 HR4 HBL
            rcases hpn with hpn | hpn
            ·
              have t1 : (x.toList == [58, 109, 101, 116, 104, 111, 100]) = true := by rw [hpn]; decide +kernel
              clear hpn
              go_wp2_with (at_mapUpdate; refine wpList_mapUpdate_own _ rfl _ _ _ 60 rfl 9 3 lawS Try.underlying60 _ gM cnt D rfl HM5.out (by unfold maxLen; omega) _ _ _ rfl rfl (keyOf_string_mk Try.underlying9 (by unfold maxLen; omega)) _ [] (plainElem_int Try.underlying3 (by decide)) ?_; intro w9 hM9 hg9; have hk1 := MapQ.look hM9 x (by omega) 1 (atKey_put_same HIM.out (keyS_lit x) _ _); have HF9 := HF5.out.map_growS (by omega) hg9; have FF9 := HF9.two)
              go_roundw
              case rel => exact ⟨i + 1, false, D.put (keyS x) (numS 1), cnt + 1, hlt, by go_num, rfl, by omega, HS'.out, hM9, HB5.out.grown hg9 (by have := HM5.out.lt; omega) (fun q hq => by cases hq; exact Nat.le_refl _)⟩
              case measure => simp [intOf]; omega
            ·
              have t1 : (x.toList == [58, 109, 101, 116, 104, 111, 100]) = false := by rw [hpn]; decide +kernel
              have t2 : (x.toList == [58, 112, 97, 116, 104]) = true := by rw [hpn]; decide +kernel
              clear hpn
              go_wp2_with (at_mapUpdate; refine wpList_mapUpdate_own _ rfl _ _ _ 60 rfl 9 3 lawS Try.underlying60 _ gM cnt D rfl HM5.out (by unfold maxLen; omega) _ _ _ rfl rfl (keyOf_string_mk Try.underlying9 (by unfold maxLen; omega)) _ [] (plainElem_int Try.underlying3 (by decide)) ?_; intro w9 hM9 hg9; have hk1 := MapQ.look hM9 x (by omega) 1 (atKey_put_same HIM.out (keyS_lit x) _ _); have HF9 := HF5.out.map_growS (by omega) hg9; have FF9 := HF9.two)
              go_roundw
              case rel => exact ⟨i + 1, false, D.put (keyS x) (numS 1), cnt + 1, hlt, by go_num, rfl, by omega, HS'.out, hM9, HB5.out.grown hg9 (by have := HM5.out.lt; omega) (fun q hq => by cases hq; exact Nat.le_refl _)⟩
              case measure => simp [intOf]; omega
            -- ]]pseudo
          | false =>
            -- [[plain
            have hne : (c0 == 58) = false := by
              unfold isP at hp
              rw [beq_eq_false_iff_ne] at hp ⊢
              intro h; apply hp; apply UInt8.toNat_inj.1; rw [hc0, h]; rfl
            have hne2 : ((c0 : Int) == 58) = false := by
              rw [beq_eq_false_iff_ne] at hne ⊢; omega
            have HP := Lib.hid hp
            clear hc0 hp
            go_wp2_with fail
            go_roundw
            case rel => exact ⟨i + 1, true, D, cnt, hlt, by go_num, rfl, by omega, HS.out.plain (by rw [HN.out]; exact hlt) (by rw [HXY.out]; exact HP.out), HM5.out, HB5.out⟩
            case measure => simp [intOf]; omega
            -- ]]plain
          -- ]]rest
      -- ]]step
    ·
      -- [[fin
      obtain rfl : i = n := by omega
      have h1 := HM.out.look kMethod (by decide) _ HS.out.m
      have h2 := HM.out.look kPath (by decide) _ HS.out.q
      have HBB := Lib.hid (HB1.out.trans (HB.out.mono (by have := HB1.out.size; have := HGM.out; omega)))
      have hE := HE.out
      unfold kMethod at h1
      unfold kPath at h2
      rcases hm : hasN l i kMethod with _ | _ <;> rcases hp : hasN l i kPath with _ | _
      all_goals
        rw [hm, hp] at hE
        unfold kMethod at hm
        unfold kPath at hp
        rw [hm] at h1
        rw [hp] at h2
        simp only [Bool.and_self, Bool.and_true, Bool.and_false, if_true] at hE
        simp at h1 h2 hE
        subst hE
        clear hm hp
        go_wp2_with fail
        go_ret
        exact ⟨rfl, HBB.out⟩
      -- ]]fin
end Go.Proofs.Ytihngonemdaihaa
/- The contract of request.Write. -/
namespace Go.Proofs.Ytihngonemdaihaa
open Go.ChangeShapes Go.WideShapes Go.ChangeAt Go.RowKit
set_option linter.unusedVariables false

/-- A request's bytes. -/
def reqB (need : Nat) (ps : List (Fld × Int)) (body : List UInt8) : List UInt8 := frmB 1 (secB need ps) ++ (if body.length = 0 then [] else frmB 0 body)
/-- Fields that a request may have. -/
structure ReqOk (l : List Fld) : Prop where
  names : ReqL l
  few : l.length ≤ 8
  ok : ∀ f ∈ l, FOk f
  m : hasN l l.length kMethod = true
  p : hasN l l.length kPath = true
/-- What Write answers. -/
def RqWrOut (w : World) (r : Nat) (put : Int) (R0 : List Fld) (ah : Bool) (fs : List Fld) (body : List UInt8) (e' : Ending) (w' : World) : Prop :=
  ∃ (A : Option Addr) (n c : Nat) (A1 : Option Addr) (n1 c1 : Nat) (A2 : Option Addr) (n2 c2 : Nat) (told : List Fld) (need : Nat) (ps : List (Fld × Int)),
    e' = .returned (.tuple #[.agg #[.int .i64 (r : Int), .int .i64 (put + told.length), .slice A n c], .slice A1 n1 c1, .slice A2 n2 c2, .int .i64 0]) ∧ EncQ r put R0 ah fs told need ps ∧ TabV w' (r : Int) (put + told.length) A n c (R0 ++ told) ∧ BV w' A2 n2 c2 (reqB need ps body) ∧ Below w.heap.size w w'

set_option maxRecDepth 100000 in
set_option maxHeartbeats 8000000 in
theorem rWrite_any (w : World) (r : Nat) (put : Int) (TA : Option Addr) (tn tc : Nat) (R0 : List Fld) (hV : TabV w (r : Int) put TA tn tc R0) (ah : Bool) (L : Option Addr) (m cL : Nat) (fs : List Fld) (hm : fs.length = m) (hc1 : m ≤ cL) (hc2 : cL ≤ 9223372036854775807) (hrd : RdX fcells 2 w L fs) (hok : ReqOk fs)
    (B : Option Addr) (bn bc : Nat) (body : List UInt8) (hB : BV w B bn bc body) (hb200 : bn ≤ 200) :
    Calls Try.prog 7 #[.agg #[.int .i64 (r : Int), .int .i64 put, .slice TA tn tc], .agg #[.slice L m cL, .slice B bn bc], .bool ah] w (RqWrOut w r put R0 ah fs body) := by
  have HV := Lib.hid hV
  have HM := Lib.hid hm
  have HRD := Lib.hid hrd
  have HOK := Lib.hid hok
  have HB := Lib.hid hB
  have hm8 : m ≤ 8 := by have := hok.few; omega
  clear hV hm hrd hok hB
  go_enter Try.func7, Try.ntmps7
  go_upto_region 1 with (fail)
  refine wp_world (fun w' => Blk w' w.heap.size 29 #[.int .i64 (r : Int), .int .i64 put, .slice TA tn tc] ∧ Blk w' (w.heap.size + 1) 26 #[.slice L m cL, .slice B bn bc] ∧ Blk w' (w.heap.size + 1 + 1) 29 #[.int .i64 0, .int .i64 0, .slice none 0 0] ∧ Below w.heap.size w w') ⟨((Blk.new _ _ _).alloc _).alloc _, (Blk.new1 _ _ _ _).alloc _, Blk.new2 _ _ _ _ _, (((Below.refl _ _).alloc (Nat.le_refl _) _).alloc (by simp) _).alloc (by simp; omega) _⟩ ?_
  rintro w1 ⟨hT1, hR1, hZ1, hb1⟩
  have HT1 := Lib.hid hT1
  have HR1 := Lib.hid hR1
  have HZ1 := Lib.hid hZ1
  have HB1 := Lib.hid hb1
  have FR := hR1.two
  clear hT1 hR1 hZ1 hb1
  go_wp2_with fail
  refine (rCheck_any _ L m cL fs HM.out hc1 hc2 hm8 HOK.out.ok HOK.out.names (RdX.below HRD.out HB1.out) 0 (by have h1 := HOK.out.m; have h2 := HOK.out.p; rw [HM.out] at h1 h2; rw [h1, h2]; rfl)).mono ?_
  rintro e w2 ⟨rfl, hb2⟩
  have HT2 := Lib.hid (HT1.out.carry hb2)
  have HR2 := Lib.hid (HR1.out.carry hb2)
  have HZ2 := Lib.hid (HZ1.out.carry hb2)
  have HB2 := Lib.hid (HB1.out.trans (hb2.mono HB1.out.size))
  have FR := HR2.out.two
  have FT := HT2.out.facts3
  clear HT1 HR1 HZ1 HB1 hb2
  go_wp2_with fail
  refine (fEncode_any _ r put TA tn tc R0 (HV.out.below HB2.out) ah L m cL fs HM.out hc1 hc2 (RdX.below HRD.out HB2.out) HOK.out.ok hm8).mono ?_
  rintro e w3 ⟨A, n, c, A1, n1, c1, A2, n2, c2, told, need, ps, rfl, hQ, hV3, hB13, hB23, hb3⟩
  have HT3 := Lib.hid (HT2.out.carry hb3)
  have HR3 := Lib.hid (HR2.out.carry hb3)
  have HZ3 := Lib.hid (HZ2.out.carry hb3)
  have HB3 := Lib.hid (HB2.out.trans (hb3.mono HB2.out.size))
  have HQ := Lib.hid hQ
  have FT3 := HT3.out.facts3
  have HV3 := Lib.hid hV3
  have HS3 := Lib.hid hB23
  clear HT2 HR2 HZ2 HB2 hb3 FR FT hQ hV3 hB13 hB23
  go_upto_region 9 with (fail)
  refine wp_world (fun w' => TabB w' w.heap.size (r : Int) (put + told.length) A n c (R0 ++ told) ∧ Blk w' (w.heap.size + 1) 26 #[.slice L m cL, .slice B bn bc] ∧ Blk w' (w.heap.size + 1 + 1) 29 #[.int .i64 0, .int .i64 0, .slice none 0 0] ∧ BV w' A2 n2 c2 (secB need ps) ∧ Below w.heap.size w w') ⟨TabB.store HV3.out HT3.out, ?q2, ?q3, ?q4, ?q5⟩ ?_
  case q2 => exact ((HR3.out.far (p := ⟨w.heap.size, 0, none⟩) (by show w.heap.size + 1 ≠ w.heap.size; omega) _).far (p := ⟨w.heap.size, 1, none⟩) (by show w.heap.size + 1 ≠ w.heap.size; omega) _).far (p := ⟨w.heap.size, 2, none⟩) (by show w.heap.size + 1 ≠ w.heap.size; omega) _
  case q3 => exact ((HZ3.out.far (p := ⟨w.heap.size, 0, none⟩) (by show w.heap.size + 1 + 1 ≠ w.heap.size; omega) _).far (p := ⟨w.heap.size, 1, none⟩) (by show w.heap.size + 1 + 1 ≠ w.heap.size; omega) _).far (p := ⟨w.heap.size, 2, none⟩) (by show w.heap.size + 1 + 1 ≠ w.heap.size; omega) _
  case q4 => exact ⟨HS3.out.hn, HS3.out.hnc, HS3.out.hcm, RdB.setT3 HS3.out.rd HT3.out _ _ _ _ _⟩
  case q5 => exact Below.set3 HB3.out (Nat.le_refl _) _ _ _
  clear HT3 HR3 HZ3 HB3 FT3 HV3 HS3
  rintro w4 ⟨hT4, hR4, hZ4, hS4, hb4⟩
  have HT4 := Lib.hid hT4
  have HR4 := Lib.hid hR4
  have HZ4 := Lib.hid hZ4
  have HS4 := Lib.hid hS4
  have HB4 := Lib.hid hb4
  have hsl : n2 ≤ 2000 := by
    have h1 := linesB_le need ps (fun p hp => (HQ.out.ok p hp).1)
    have h2 := (pEnc_len 8 0 need).2
    have h3 : ps.length = fs.length := by rw [← HQ.out.fst, List.length_map]
    have h4 := HM.out
    have h5 := hS4.hn
    unfold secB at h5
    rw [List.length_append] at h5
    omega
  clear hT4 hR4 hZ4 hS4 hb4
  obtain ⟨k1, hk1⟩ : ∃ k1, (frmB 1 (secB need ps)).length = k1 := ⟨_, rfl⟩
  have hk1b : 2 ≤ k1 ∧ k1 ≤ 2100 := by have h := frmB_len 1 (secB need ps) (by rw [HS4.out.hn]; omega); rw [hk1, HS4.out.hn] at h; omega
  have HK1 := Lib.hid hk1
  clear hk1
  go_wp2_with fail
  refine (rFramed_any _ 1 (by decide) A2 n2 c2 _ HS4.out hsl k1 HK1.out).mono ?_
  rintro e w5 ⟨A5, c5, rfl, hO5, hb5⟩
  have HT5 := Lib.hid (HT4.out.below hb5)
  have HR5 := Lib.hid (HR4.out.carry hb5)
  have HZ5 := Lib.hid (HZ4.out.carry hb5)
  have HB5 := Lib.hid (HB4.out.trans (hb5.mono HB4.out.size))
  have HO5 := Lib.hid hO5
  have hc5 := hO5.cap
  rw [HK1.out] at hc5
  have FR := HR5.out.two
  have HBB5 := Lib.hid hb5
  clear HR4 HS4 hO5 hb5
  by_cases hb0 : bn = 0
  ·
    -- [[nobody
    have hbl : body.length = 0 := by rw [HB.out.hn]; exact hb0
    subst hb0
    have FT := HT5.out.blk.facts3
    have FZ := HZ5.out.facts3
    go_wp2_with fail
    refine bodyPost_ret (v := .tuple #[.agg #[.int .i64 (r : Int), .int .i64 (put + told.length), .slice A n c], .slice A1 n1 c1, .slice A5 k1 c5, .int .i64 0]) ?_ rfl ⟨A, n, c, A1, n1, c1, A5, k1, c5, told, need, ps, rfl, HQ.out, ?_, ?_, ?_⟩
    · simp [results, Try.results7, go_sem, FZ] <;> rfl
    · exact HT5.out.tab.rows (RdX.setT3 HT5.out.tab.hr HZ5.out _ _ _ _ _)
    · have e : reqB need ps body = frmB 1 (secB need ps) := by unfold reqB; rw [if_pos hbl, List.append_nil]
      rw [e]
      exact ⟨HK1.out, hc5.1, hc5.2, RdB.setT3 HO5.out.rd.b HZ5.out _ _ _ _ _⟩
    · have h := HB5.out
      (repeat (first | with_reducible exact h | with_reducible refine Below.drew ?_ | (with_reducible refine Below.set4 ?_ ?side _ _ _ _; case side => (first | omega | (simp; omega) | (simp; done))) | (with_reducible refine Below.setCell ?_ ?side _; case side => (first | omega | (simp; omega) | (simp; done))) | (with_reducible refine Below.alloc ?_ ?side _; case side => (first | omega | (simp; omega) | (simp; done)))))
    -- ]]nobody
  ·
    -- [[body
    have hbn1 : (0 : Int) < (bn : Int) := by omega
    have hbn2 : 0 < bn := by omega
    have hbl : body.length ≠ 0 := by rw [HB.out.hn]; exact hb0
    obtain ⟨k2, hk2⟩ : ∃ k2, (frmB 0 body).length = k2 := ⟨_, rfl⟩
    have hk2b : k2 ≤ 300 := by have h := frmB_len 0 body (by rw [HB.out.hn]; omega); rw [hk2, HB.out.hn] at h; omega
    have HK2 := Lib.hid hk2
    clear hk2
    have hOl : ∀ q, A5.map (fun y : Addr => y.block) = some q → q < w5.heap.size := fun q hq => (HO5.out.lt (n := 0) q (by rw [slice_own]; exact hq)).2
    go_wp2_with fail
    refine (rFramed_any _ 0 (by decide) B bn bc body (HB.out.below HB5.out) (by omega) k2 HK2.out).mono ?_
    rintro e w6 ⟨A6, c6, rfl, hO6, hb6⟩
    have HO56 := Lib.hid (HO5.out.carry hb6)
    have HR6 := Lib.hid hO6.rd
    have HBB6 := Lib.hid (HBB5.out.trans (hb6.mono HBB5.out.size))
    have hs6 := HBB6.out.size
    have FR6 := (HR5.out.carry hb6).two
    clear hO6 hb6 FR hOl HO5
    go_upto_region 12 with (at_builtin; refine wpList_appL u8c 1 u8c_one _ rfl (.tmp 47) (.tmp 50) _ rfl w4.heap.size 5 _ 1 Try.underlying24 u8_infoP rfl (by decide) (by decide) A5 k1 c5 (frmB 1 (secB need ps)) rfl HK1.out HO56.out A6 k2 c6 (frmB 0 body) rfl HK2.out HR6.out (frmB 1 (secB need ps) ++ frmB 0 body) rfl (k1 + k2) rfl (by omega) hs6 ?_; intro A7 c7 w7 hO7 hc7 hm7 hb7 hgr7 hat7)
    have hb47 := HBB6.out.trans hb7
    have HT7 := Lib.hid (HT4.out.below hb47)
    have HZ7 := Lib.hid (HZ4.out.carry hb47)
    have HB7 := Lib.hid (HB4.out.trans (hb47.mono HB4.out.size))
    have HO7 := Lib.hid hO7
    have FT := HT7.out.blk.facts3
    have FZ := HZ7.out.facts3
    clear HT4 HZ4 HB4 HT5 HZ5 HR5 HB5 HO56 HR6 HBB5 HBB6 hO7 hb7 hgr7 hat7 hb47 FR6
    go_wp2_with fail
    refine bodyPost_ret (v := .tuple #[.agg #[.int .i64 (r : Int), .int .i64 (put + told.length), .slice A n c], .slice A1 n1 c1, .slice A7 (k1 + k2) c7, .int .i64 0]) ?_ rfl ⟨A, n, c, A1, n1, c1, A7, k1 + k2, c7, told, need, ps, rfl, HQ.out, ?_, ?_, ?_⟩
    · simp [results, Try.results7, go_sem, FZ] <;> rfl
    · exact HT7.out.tab.rows (RdX.setT3 HT7.out.tab.hr HZ7.out _ _ _ _ _)
    · have e : reqB need ps body = frmB 1 (secB need ps) ++ frmB 0 body := by unfold reqB; rw [if_neg hbl]
      rw [e]
      exact ⟨by rw [List.length_append, HK1.out, HK2.out], hc7, hm7, RdB.setT3 HO7.out.rd.b HZ7.out _ _ _ _ _⟩
    · have h := HB7.out
      (repeat (first | with_reducible exact h | with_reducible refine Below.drew ?_ | (with_reducible refine Below.set4 ?_ ?side _ _ _ _; case side => (first | omega | (simp; omega) | (simp; done))) | (with_reducible refine Below.setCell ?_ ?side _; case side => (first | omega | (simp; omega) | (simp; done))) | (with_reducible refine Below.alloc ?_ ?side _; case side => (first | omega | (simp; omega) | (simp; done)))))
    -- ]]body
end Go.Proofs.Ytihngonemdaihaa
/- The contracts of request.frame. -/
namespace Go.Proofs.Ytihngonemdaihaa
open Go.ChangeShapes Go.WideShapes Go.ChangeAt Go.RowKit
set_option linter.unusedVariables false

theorem Blk.set5 {w : World} {g : Nat} {t : TypeId} {a b c d e : Value} (h : Blk w g t #[a, b, c, d, e]) (u v x y z : Value) : Blk (((((w.setCell ⟨g, 0, none⟩ u).setCell ⟨g, 1, none⟩ v).setCell ⟨g, 2, none⟩ x).setCell ⟨g, 3, none⟩ y).setCell ⟨g, 4, none⟩ z) g t #[u, v, x, y, z] := ((((h.set_ 0 u).set_ 1 v).set_ 2 x).set_ 3 y).set_ 4 z
theorem Blk.far5 {w : World} {g : Nat} {t : TypeId} {cs : Array Value} (h : Blk w g t cs) {q : Nat} (hne : g ≠ q) (u v x y z : Value) : Blk (((((w.setCell ⟨q, 0, none⟩ u).setCell ⟨q, 1, none⟩ v).setCell ⟨q, 2, none⟩ x).setCell ⟨q, 3, none⟩ y).setCell ⟨q, 4, none⟩ z) g t cs :=
  ((((h.far (p := ⟨q, 0, none⟩) hne u).far (p := ⟨q, 1, none⟩) hne v).far (p := ⟨q, 2, none⟩) hne x).far (p := ⟨q, 3, none⟩) hne y).far (p := ⟨q, 4, none⟩) hne z
theorem Below.set5 {B : Nat} {a w : World} (h : Below B a w) {g : Nat} (hg : B ≤ g) (u v x y z : Value) : Below B a (((((w.setCell ⟨g, 0, none⟩ u).setCell ⟨g, 1, none⟩ v).setCell ⟨g, 2, none⟩ x).setCell ⟨g, 3, none⟩ y).setCell ⟨g, 4, none⟩ z) := ((((h.setCell hg u).setCell hg v).setCell hg x).setCell hg y).setCell hg z
theorem OwnX.set5 {α : Type} {f : α → List Value} {m : Nat} {w : World} {base : Nat} {E : TypeId} {A : Option Addr} {c : Nat} {xs : List α} (h : OwnX f m w base E A c xs) {g : Nat} (hg : g < base) (u v x y z : Value) : OwnX f m (((((w.setCell ⟨g, 0, none⟩ u).setCell ⟨g, 1, none⟩ v).setCell ⟨g, 2, none⟩ x).setCell ⟨g, 3, none⟩ y).setCell ⟨g, 4, none⟩ z) base E A c xs :=
  ((((h.set_below (p := ⟨g, 0, none⟩) hg u).set_below (p := ⟨g, 1, none⟩) hg v).set_below (p := ⟨g, 2, none⟩) hg x).set_below (p := ⟨g, 3, none⟩) hg y).set_below (p := ⟨g, 4, none⟩) hg z

theorem RdrO.far {w : World} {base : Nat} {HA : Option Addr} {hn hc : Nat} {held : List UInt8} {FA : Option Addr} {fn fc : Nat} {fs : List Fld} {BA : Option Addr} {bn bc : Nat} {body : List UInt8} (h : RdrO w base HA hn hc held FA fn fc fs BA bn bc body) {p : Addr} (h1 : ∀ q, HA.map (fun y : Addr => y.block) = some q → q ≠ p.block) (h2 : ∀ q, FA.map (fun y : Addr => y.block) = some q → q ≠ p.block) (h3 : ∀ q, BA.map (fun y : Addr => y.block) = some q → q ≠ p.block) (u : Value) : RdrO (w.setCell p u) base HA hn hc held FA fn fc fs BA bn bc body :=
  ⟨own_far h.h (fun k hk => h1 k (by rw [slice_own] at hk; exact hk)) u, own_far h.f (fun k hk => h2 k (by rw [slice_own] at hk; exact hk)) u, own_far h.b (fun k hk => h3 k (by rw [slice_own] at hk; exact hk)) u, h.ap, h.hn_, h.fn_, h.bn_⟩
/-- Rows of two kinds lie apart. -/
theorem OwnX.kinds {α β : Type} {f : α → List Value} {m : Nat} {g : β → List Value} {m' : Nat} {w : World} {b b' : Nat} {E E' : TypeId} {A A' : Option Addr} {c c' : Nat} {xs : List α} {ys : List β} (h : OwnX f m w b E A c xs) (h' : OwnX g m' w b' E' A' c' ys) (hE : E' ≠ E) : ∀ q, A.map (fun y : Addr => y.block) = some q → A'.map (fun y : Addr => y.block) ≠ some q := fun q hq hq' => by
  rcases h'.2 with ⟨h2, _⟩ | ⟨k, cap, cur, hv, _, hh, _⟩
  · injection h2 with h2; rw [h2] at hq'; cases hq'
  · injection hv with hv
    rw [hv] at hq'
    simp at hq'
    subst hq'
    exact own_type h (k := k) (by rw [slice_own]; exact hq) hh hE rfl
set_option maxRecDepth 100000 in
set_option maxHeartbeats 4000000 in
/-- A head that comes twice, a body ahead of its head. -/
theorem rFrame_form (w : World) (H F B : Value) (bg en : Bool) (T : Array Value) (hT : T.size = 3) (kind : Int) (hk : (kind = 1 ∧ bg = true) ∨ (kind = 0 ∧ bg = false)) (X : Option Addr) (m d : Nat) (H1 : ∃ A n c, H = .slice A n c) (F1 : ∃ A n c, F = .slice A n c) (B1 : ∃ A n c, B = .slice A n c) (T1 : ∃ a b A n c, T = #[.int .i64 a, .int .i64 b, .slice A n c]) :
    Calls Try.prog 21 #[.agg #[H, F, .bool bg, B, .bool en], .agg T, .int .i64 kind, .slice X m d] w fun e w' => e = .returned (.tuple #[.agg #[H, F, .bool bg, B, .bool en], .int .i64 3]) ∧ Below w.heap.size w w' := by
  obtain ⟨HA, hn, hc, rfl⟩ := H1
  obtain ⟨FA, fn, fc, rfl⟩ := F1
  obtain ⟨BA, bn, bc, rfl⟩ := B1
  obtain ⟨ta, tb, TA, tn, tc, rfl⟩ := T1
  clear hT
  rcases hk with ⟨rfl, rfl⟩ | ⟨rfl, rfl⟩
  all_goals
    go_enter Try.func21, Try.ntmps21
    go_upto_region 1 with (fail)
    refine wp_world (fun w' => Blk w' w.heap.size 35 #[.slice HA hn hc, .slice FA fn fc, .bool _, .slice BA bn bc, .bool en] ∧ Blk w' (w.heap.size + 1 + 1) 35 #[.slice none 0 0, .slice none 0 0, .bool false, .slice none 0 0, .bool false] ∧ Below w.heap.size w w') ⟨((Blk.new _ _ _).alloc _).alloc _, Blk.new2 _ _ _ _ _, (((Below.refl _ _).alloc (Nat.le_refl _) _).alloc (by simp) _).alloc (by simp; omega) _⟩ ?_
    rintro w1 ⟨hR1, hZ1, hb1⟩
    have FR := hR1.facts5R
    have FZ := hZ1.facts5R
    go_wp2_with fail
    refine bodyPost_ret (v := .tuple #[.agg #[.slice HA hn hc, .slice FA fn fc, .bool _, .slice BA bn bc, .bool en], .int .i64 3]) ?_ rfl ⟨rfl, ?_⟩
    · simp [results, Try.results21, go_sem, FZ] <;> rfl
    · have h := hb1
      (repeat (first | with_reducible exact h | with_reducible refine Below.drew ?_ | (with_reducible refine Below.set4 ?_ ?side _ _ _ _; case side => (first | omega | (simp; omega) | (simp; done))) | (with_reducible refine Below.setCell ?_ ?side _; case side => (first | omega | (simp; omega) | (simp; done))) | (with_reducible refine Below.alloc ?_ ?side _; case side => (first | omega | (simp; omega) | (simp; done)))))

set_option maxRecDepth 100000 in
set_option maxHeartbeats 4000000 in
/-- The head of a request. -/
theorem rFrame_head (w : World) (HA : Option Addr) (hn hc : Nat) (FA : Option Addr) (fn fc : Nat) (BA : Option Addr) (bn bc : Nat) (en : Bool) (room put : Int) (TA : Option Addr) (tn tc : Nat) (l : List Fld) (ht : TabV w room put TA tn tc l) (X : Option Addr) (m d : Nat) (sec : List UInt8) (hX : BV w X m d sec) (out : List Fld) (E : Int) (hD : fdecR put l sec = (out, E)) (hok : E = 0 → ReqOk out) :
    Calls Try.prog 21 #[.agg #[.slice HA hn hc, .slice FA fn fc, .bool false, .slice BA bn bc, .bool en], .agg #[.int .i64 room, .int .i64 put, .slice TA tn tc], .int .i64 1, .slice X m d] w fun e w' =>
      ∃ (F' : Option Addr) (fn' fc' : Nat), e = .returned (.tuple #[.agg #[.slice HA hn hc, .slice F' fn' fc', .bool (E == 0), .slice BA bn bc, .bool en], .int .i64 E]) ∧ out.length = fn' ∧ OwnX fcells 2 w' w.heap.size 47 F' fc' out ∧ Below w.heap.size w w' := by
  have HT := Lib.hid ht
  have HX := Lib.hid hX
  have HD := Lib.hid hD
  have HOK := Lib.hid hok
  clear ht hX hD hok
  go_enter Try.func21, Try.ntmps21
  go_upto_region 1 with (fail)
  refine wp_world (fun w' => Blk w' w.heap.size 35 #[.slice HA hn hc, .slice FA fn fc, .bool false, .slice BA bn bc, .bool en] ∧ Blk w' (w.heap.size + 1) 29 #[.int .i64 room, .int .i64 put, .slice TA tn tc] ∧ Blk w' (w.heap.size + 1 + 1) 35 #[.slice none 0 0, .slice none 0 0, .bool false, .slice none 0 0, .bool false] ∧ Below w.heap.size w w') ⟨((Blk.new _ _ _).alloc _).alloc _, (Blk.new1 _ _ _ _).alloc _, Blk.new2 _ _ _ _ _, (((Below.refl _ _).alloc (Nat.le_refl _) _).alloc (by simp) _).alloc (by simp; omega) _⟩ ?_
  rintro w1 ⟨hR1, hT1, hZ1, hb1⟩
  have FR := hR1.facts5R
  have FT := hT1.facts3
  have HR1 := Lib.hid hR1
  have HZ1 := Lib.hid hZ1
  have HB1 := Lib.hid hb1
  have hz1 := hZ1.lt
  clear hR1 hT1 hZ1 hb1
  go_wp2_with fail
  refine (fDecode_own _ room put TA tn tc l (HT.out.below HB1.out) X sec m d HX.out.hn HX.out.hnc HX.out.hcm (RdB.below HX.out.rd HB1.out) out E HD.out).mono ?_
  rintro e w2 ⟨F', fn', fc', rfl, hfn, hfc, hfm, hO2, hb2⟩
  have HR2 := Lib.hid (HR1.out.carry hb2)
  have HZ2 := Lib.hid (HZ1.out.carry hb2)
  have HB2 := Lib.hid (HB1.out.trans (hb2.mono HB1.out.size))
  have HO2 := Lib.hid (OwnX.mono hO2 (by omega : w.heap.size + 1 + 1 + 1 ≤ w1.heap.size))
  have HFN := Lib.hid hfn
  clear FR FT HR1 HZ1 HB1 hO2 hb2 hfn
  by_cases hE : E = 0
  ·
    -- [[good
    subst hE
    have hok := HOK.out rfl
    have hf8 : fn' ≤ 8 := by have := hok.few; have := HFN.out; omega
    have HOK2 := Lib.hid hok
    clear hok
    go_wp2_with fail
    refine (rCheck_any _ F' fn' fc' out HFN.out hfc hfm hf8 HOK2.out.ok HOK2.out.names HO2.out.rd 0 (by have h1 := HOK2.out.m; have h2 := HOK2.out.p; rw [HFN.out] at h1 h2; rw [h1, h2]; rfl)).mono ?_
    rintro e w3 ⟨rfl, hb3⟩
    have HR3 := Lib.hid (HR2.out.carry hb3)
    have HZ3 := Lib.hid (HZ2.out.carry hb3)
    have HB3 := Lib.hid (HB2.out.trans (hb3.mono HB2.out.size))
    have HO3 := Lib.hid (HO2.out.carry hb3)
    have FR3 := HR3.out.facts5R
    clear HR2 HZ2 HB2 HO2 hb3
    go_upto_region 9 with (fail)
    refine wp_world (fun w' => Blk w' w.heap.size 35 #[.slice HA hn hc, .slice F' fn' fc', .bool true, .slice BA bn bc, .bool en] ∧ Blk w' (w.heap.size + 1 + 1) 35 #[.slice none 0 0, .slice none 0 0, .bool false, .slice none 0 0, .bool false] ∧ OwnX fcells 2 w' (w.heap.size + 1 + 1 + 1) 47 F' fc' out ∧ Below w.heap.size w w') ⟨?q1, ?q2, ?q3, ?q4⟩ ?_
    case q1 => exact ((HR3.out.set_ 1 _).set_ 2 _).as (by rfl)
    case q2 => exact (HZ3.out.far (p := ⟨w.heap.size, 1, none⟩) (by show w.heap.size + 1 + 1 ≠ w.heap.size; omega) _).far (p := ⟨w.heap.size, 2, none⟩) (by show w.heap.size + 1 + 1 ≠ w.heap.size; omega) _
    case q3 => exact (HO3.out.set_below (p := ⟨w.heap.size, 1, none⟩) (by show w.heap.size < _; omega) _).set_below (p := ⟨w.heap.size, 2, none⟩) (by show w.heap.size < _; omega) _
    case q4 => exact (HB3.out.setCell (p := ⟨w.heap.size, 1, none⟩) (Nat.le_refl _) _).setCell (p := ⟨w.heap.size, 2, none⟩) (Nat.le_refl _) _
    clear HR3 HZ3 HB3 HO3 FR3
    rintro w4 ⟨hR4, hZ4, hO4, hb4⟩
    have FR := hR4.facts5R
    have FZ := hZ4.facts5R
    have HO4 := Lib.hid hO4
    clear hO4
    go_wp2_with fail
    refine bodyPost_ret (v := .tuple #[.agg #[.slice HA hn hc, .slice F' fn' fc', .bool true, .slice BA bn bc, .bool en], .int .i64 0]) ?_ rfl ⟨F', fn', fc', rfl, HFN.out, ?_, ?_⟩
    · simp [results, Try.results21, go_sem, FZ] <;> rfl
    · exact OwnX.mono (HO4.out.set5 (by omega) _ _ _ _ _) (by omega)
    · have h := hb4
      (repeat (first | with_reducible exact h | with_reducible refine Below.drew ?_ | (with_reducible refine Below.set4 ?_ ?side _ _ _ _; case side => (first | omega | (simp; omega) | (simp; done))) | (with_reducible refine Below.setCell ?_ ?side _; case side => (first | omega | (simp; omega) | (simp; done))) | (with_reducible refine Below.alloc ?_ ?side _; case side => (first | omega | (simp; omega) | (simp; done)))))
    -- ]]good
  ·
    -- [[bad
    have hne : (E == 0) = false := by simp [hE]
    have FR3 := HR2.out.facts5R
    go_upto_region 9 with (fail)
    refine wp_world (fun w' => Blk w' w.heap.size 35 #[.slice HA hn hc, .slice F' fn' fc', .bool false, .slice BA bn bc, .bool en] ∧ Blk w' (w.heap.size + 1 + 1) 35 #[.slice none 0 0, .slice none 0 0, .bool false, .slice none 0 0, .bool false] ∧ OwnX fcells 2 w' (w.heap.size + 1 + 1 + 1) 47 F' fc' out ∧ Below w.heap.size w w') ⟨?q1, ?q2, ?q3, ?q4⟩ ?_
    case q1 => exact ((HR2.out.set_ 1 _).set_ 2 _).as (by rfl)
    case q2 => exact (HZ2.out.far (p := ⟨w.heap.size, 1, none⟩) (by show w.heap.size + 1 + 1 ≠ w.heap.size; omega) _).far (p := ⟨w.heap.size, 2, none⟩) (by show w.heap.size + 1 + 1 ≠ w.heap.size; omega) _
    case q3 => exact (HO2.out.set_below (p := ⟨w.heap.size, 1, none⟩) (by show w.heap.size < _; omega) _).set_below (p := ⟨w.heap.size, 2, none⟩) (by show w.heap.size < _; omega) _
    case q4 => exact (HB2.out.setCell (p := ⟨w.heap.size, 1, none⟩) (Nat.le_refl _) _).setCell (p := ⟨w.heap.size, 2, none⟩) (Nat.le_refl _) _
    clear HR2 HZ2 HB2 HO2 FR3
    rintro w4 ⟨hR4, hZ4, hO4, hb4⟩
    have FR := hR4.facts5R
    have FZ := hZ4.facts5R
    have HO4 := Lib.hid hO4
    clear hO4
    go_wp2_with fail
    refine bodyPost_ret (v := .tuple #[.agg #[.slice HA hn hc, .slice F' fn' fc', .bool false, .slice BA bn bc, .bool en], .int .i64 E]) ?_ rfl ⟨F', fn', fc', by rw [hne], HFN.out, ?_, ?_⟩
    · simp [results, Try.results21, go_sem, FZ] <;> rfl
    · exact OwnX.mono (HO4.out.set5 (by omega) _ _ _ _ _) (by omega)
    · have h := hb4
      (repeat (first | with_reducible exact h | with_reducible refine Below.drew ?_ | (with_reducible refine Below.set4 ?_ ?side _ _ _ _; case side => (first | omega | (simp; omega) | (simp; done))) | (with_reducible refine Below.setCell ?_ ?side _; case side => (first | omega | (simp; omega) | (simp; done))) | (with_reducible refine Below.alloc ?_ ?side _; case side => (first | omega | (simp; omega) | (simp; done)))))
    -- ]]bad

set_option maxRecDepth 100000 in
set_option maxHeartbeats 4000000 in
/-- More of the body. -/
theorem rFrame_body (w : World) (base : Nat) (hbase : base ≤ w.heap.size) (HA : Option Addr) (hn hc : Nat) (held : List UInt8) (FA : Option Addr) (fn fc : Nat) (fs : List Fld) (BA : Option Addr) (bn bc : Nat) (body : List UInt8) (en : Bool) (hO : RdrO w base HA hn hc held FA fn fc fs BA bn bc body) (room put : Int) (TA : Option Addr) (tn tc : Nat) (X : Option Addr) (m d : Nat) (more : List UInt8) (hX : BV w X m d more) (h200 : bn + m ≤ 200) :
    Calls Try.prog 21 #[.agg #[.slice HA hn hc, .slice FA fn fc, .bool true, .slice BA bn bc, .bool en], .agg #[.int .i64 room, .int .i64 put, .slice TA tn tc], .int .i64 0, .slice X m d] w fun e w' =>
      ∃ (BA' : Option Addr) (bc' : Nat), e = .returned (.tuple #[.agg #[.slice HA hn hc, .slice FA fn fc, .bool true, .slice BA' (bn + m) bc', .bool en], .int .i64 0]) ∧ RdrO w' base HA hn hc held FA fn fc fs BA' (bn + m) bc' (body ++ more) ∧ Below base w w' := by
  have HO := Lib.hid hO
  have HX := Lib.hid hX
  clear hO hX
  go_enter Try.func21, Try.ntmps21
  go_upto_region 1 with (fail)
  refine wp_world (fun w' => Blk w' w.heap.size 35 #[.slice HA hn hc, .slice FA fn fc, .bool true, .slice BA bn bc, .bool en] ∧ Blk w' (w.heap.size + 1 + 1) 35 #[.slice none 0 0, .slice none 0 0, .bool false, .slice none 0 0, .bool false] ∧ Below w.heap.size w w') ⟨((Blk.new _ _ _).alloc _).alloc _, Blk.new2 _ _ _ _ _, (((Below.refl _ _).alloc (Nat.le_refl _) _).alloc (by simp) _).alloc (by simp; omega) _⟩ ?_
  rintro w1 ⟨hR1, hZ1, hb1⟩
  have FR := hR1.facts5R
  have HR1 := Lib.hid hR1
  have HZ1 := Lib.hid hZ1
  have HO1 := Lib.hid (HO.out.carry hb1)
  have HX1 := Lib.hid ((HX.out.below hb1).rd)
  have hs1 : base ≤ w1.heap.size := Nat.le_trans hbase hb1.size
  have HB1 := Lib.hid hb1
  clear hR1 hZ1 hb1
  have d1 : decide (200 - (bn : Int) < (m : Int)) = false := decide_eq_false (by omega)
  have d1' : decide ((m : Int) ≤ 200 - (bn : Int)) = true := decide_eq_true (by omega)
  have hbn := HO.out.bn_
  have hmn := HX.out.hn
  have HBN := Lib.hid hbn
  have HMN := Lib.hid hmn
  clear hbn hmn
  go_upto_region 14 with (at_builtin; refine wpList_appL u8c 1 u8c_one _ rfl (.tmp 64) (.tmp 65) _ rfl base 5 _ 1 Try.underlying24 u8_infoP rfl (by decide) (by decide) BA bn bc body rfl HBN.out HO1.out.b X m d more rfl HMN.out HX1.out.x (body ++ more) rfl (bn + m) rfl (by omega) hs1 ?_; intro A5 c5 w5 hO5 hc5 hm5 hb5 hgr5 hat5; have FR5 := (HR1.out.grown hgr5 (fun e => by have := (HO1.out.b.lt (n := 0) _ (by rw [slice_own]; exact e.symm)).2; have := (HO.out.b.lt (n := 0) _ (by rw [slice_own]; exact e.symm)).2; omega)).facts5R)
  have hz1 := HZ1.out.lt
  have l1 : ∀ q, HA.map (fun y : Addr => y.block) = some q → q < w.heap.size := fun q hq => (HO.out.h.lt (n := 0) q (by rw [slice_own]; exact hq)).2
  have l2 : ∀ q, FA.map (fun y : Addr => y.block) = some q → q < w.heap.size := fun q hq => (HO.out.f.lt (n := 0) q (by rw [slice_own]; exact hq)).2
  have l3 : ∀ q, BA.map (fun y : Addr => y.block) = some q → q < w.heap.size := fun q hq => (HO.out.b.lt (n := 0) q (by rw [slice_own]; exact hq)).2
  have l5 : ∀ q, A5.map (fun y : Addr => y.block) = some q → q < w.heap.size ∨ w.heap.size + 1 + 1 < q := fun q hq => by
    rcases hat5 with e | e
    · rw [e] at hq; exact .inl (l3 q hq)
    · rw [e] at hq; injection hq with hq; omega
  have hne1 : some w.heap.size ≠ BA.map (fun y : Addr => y.block) := fun e => by have := l3 _ e.symm; omega
  have hne2 : some (w.heap.size + 1 + 1) ≠ BA.map (fun y : Addr => y.block) := fun e => by have := l3 _ e.symm; omega
  have hX5 : RdrO w5 base HA hn hc held FA fn fc fs A5 (bn + m) c5 (body ++ more) := by
    refine ⟨HO1.out.h.grown hgr5 ?_, HO1.out.f.grown hgr5 ?_, hO5, ?_, HO.out.hn_, HO.out.fn_, by rw [List.length_append, HBN.out, HMN.out]⟩
    · cases hA : HA.map (fun y : Addr => y.block) with
      | none => exact .inl rfl
      | some q => exact .inr fun e => HO.out.ap q hA e.symm
    · cases hA : FA.map (fun y : Addr => y.block) with
      | none => exact .inl rfl
      | some q => exact .inr fun e => OwnX.kinds HO.out.f HO.out.b (by decide) q hA e.symm
    · intro q hq hq'
      rcases hat5 with e | e
      · rw [e] at hq'; exact HO.out.ap q hq hq'
      · rw [e] at hq'; injection hq' with hq'; have := l1 q hq; omega
  refine wp_world (fun w' => Blk w' w.heap.size 35 #[.slice HA hn hc, .slice FA fn fc, .bool true, .slice A5 (bn + m) c5, .bool en] ∧ Blk w' (w.heap.size + 1 + 1) 35 #[.slice none 0 0, .slice none 0 0, .bool false, .slice none 0 0, .bool false] ∧ RdrO w' base HA hn hc held FA fn fc fs A5 (bn + m) c5 (body ++ more) ∧ Below base w w') ⟨?q1, ?q2, ?q3, ?q4⟩ ?_
  case q1 => exact ((HR1.out.grown hgr5 hne1).set_ 3 _).as (by rfl)
  case q2 => exact (HZ1.out.grown hgr5 hne2).far (p := ⟨w.heap.size, 3, none⟩) (by show w.heap.size + 1 + 1 ≠ w.heap.size; omega) _
  case q3 => exact hX5.far (p := ⟨w.heap.size, 3, none⟩) (fun q hq => by have := l1 q hq; show q ≠ w.heap.size; omega) (fun q hq => by have := l2 q hq; show q ≠ w.heap.size; omega) (fun q hq => by have := l5 q hq; show q ≠ w.heap.size; omega) _
  case q4 => exact (((HB1.out.mono hbase).trans hb5).setCell (p := ⟨w.heap.size, 3, none⟩) hbase _)
  clear HR1 HZ1 HO1 HX1 HB1 hO5 hb5 hgr5 hat5 FR5 hX5 hne1 hne2
  rintro w6 ⟨hR6, hZ6, hX6, hb6⟩
  have FR6 := hR6.facts5R
  have FZ6 := hZ6.facts5R
  have HX6 := Lib.hid hX6
  clear hX6
  go_wp2_with fail
  refine bodyPost_ret (v := .tuple #[.agg #[.slice HA hn hc, .slice FA fn fc, .bool true, .slice A5 (bn + m) c5, .bool en], .int .i64 0]) ?_ rfl ⟨A5, c5, rfl, ?_, ?_⟩
  · simp [results, Try.results21, go_sem, FZ6] <;> rfl
  · have h := HX6.out
    (repeat (first | with_reducible exact h | (with_reducible refine RdrO.far ?_ ?s1 ?s2 ?s3 _; (case s1 => (intro q hq; have := l1 q hq; show q ≠ w.heap.size + 1 + 1; omega)); (case s2 => (intro q hq; have := l2 q hq; show q ≠ w.heap.size + 1 + 1; omega)); (case s3 => (intro q hq; have := l5 q hq; show q ≠ w.heap.size + 1 + 1; omega)))))
  · have h := hb6
    have hb2 : base ≤ w.heap.size + 1 + 1 := by omega
    (repeat (first | with_reducible exact h | with_reducible refine Below.drew ?_ | (with_reducible refine Below.set4 ?_ ?side _ _ _ _; case side => (first | omega | (simp; omega) | (simp; done))) | (with_reducible refine Below.setCell ?_ ?side _; case side => (first | omega | (simp; omega) | (simp; done))) | (with_reducible refine Below.alloc ?_ ?side _; case side => (first | omega | (simp; omega) | (simp; done)))))
end Go.Proofs.Ytihngonemdaihaa
/- Plain: what a reader comes to that is fed. -/
namespace Go.Proofs.Ytihngonemdaihaa
open Go.ChangeShapes Go.WideShapes Go.ChangeAt Go.RowKit
set_option linter.unusedVariables false

/-- A reader of a request. -/
structure RdrD where
  held : List UInt8
  fs : List Fld
  bg : Bool
  body : List UInt8
  en : Bool
def rdr0 : RdrD := ⟨[], [], false, [], false⟩
/-- Frame by frame; 'none': it is not said. -/
def feedGo (sec : List UInt8) (out : List Fld) (E : Int) (fin : Bool) : Nat → RdrD → Option (RdrD × Int)
  | 0, _ => none
  | k + 1, r =>
    if r.held.length = 0 then (if fin = true ∧ r.bg = false then some (rdr0, 4) else some (⟨r.held, r.fs, r.bg, r.body, fin⟩, 0)) else
    if (nextR r.held).2.2.2 = 4 ∧ fin = false then some (r, 0) else
    if (nextR r.held).2.2.2 ≠ 0 then some (rdr0, (nextR r.held).2.2.2) else
    if ((nextR r.held).1 = 1 ∧ r.bg = true) ∨ ((nextR r.held).1 = 0 ∧ r.bg = false) then some (rdr0, 3) else
    if (nextR r.held).1 = 1 then (if (nextR r.held).2.1 = sec then (if E = 14 then some (r, 14) else if E = 0 then feedGo sec out E fin k ⟨r.held.drop (nextR r.held).2.2.1.toNat, out, true, r.body, r.en⟩ else none) else none) else
    if (nextR r.held).1 = 0 then (if r.body.length + (nextR r.held).2.1.length ≤ 200 then feedGo sec out E fin k ⟨r.held.drop (nextR r.held).2.2.1.toNat, r.fs, r.bg, r.body ++ (nextR r.held).2.1, r.en⟩ else none) else none
theorem nextR_ok {b : List UInt8} {kd : Int} {body : List UInt8} {us : Int} (h : nextR b = (kd, body, us, 0)) : ∃ U : Nat, us = (U : Int) ∧ 1 ≤ U ∧ U ≤ b.length := by
  unfold nextR at h
  rcases decR_cases b with ⟨h1, _⟩ | ⟨N, K, h1, _, _, hKl, hK1, _⟩
  · rw [h1, if_pos (by simp)] at h; simp at h
  · rw [h1] at h
    simp only [Int.toNat_natCast] at h
    rw [if_neg (by simp)] at h
    rcases decR_cases (b.drop K) with ⟨g1, _⟩ | ⟨M, J, g1, _, _, gJl, gJ1, _⟩
    · rw [g1, if_pos (by simp)] at h; simp at h
    · rw [g1] at h
      simp only [Int.toNat_natCast] at h
      rw [if_neg (by simp)] at h
      by_cases h4 : (400 : Int) < (M : Int)
      · rw [if_pos h4] at h; simp at h
      · rw [if_neg h4] at h
        by_cases h5 : (b.length : Int) - (K : Int) - (J : Int) < (M : Int)
        · rw [if_pos h5] at h; simp at h
        · rw [if_neg h5] at h
          injection h with _ h
          injection h with _ h
          injection h with h _
          exact ⟨K + J + M, by rw [← h]; push_cast; rfl, by omega, by omega⟩
theorem RdrO.set5 {w : World} {base : Nat} {HA : Option Addr} {hn hc : Nat} {held : List UInt8} {FA : Option Addr} {fn fc : Nat} {fs : List Fld} {BA : Option Addr} {bn bc : Nat} {body : List UInt8} (h : RdrO w base HA hn hc held FA fn fc fs BA bn bc body) {g : Nat} (hg : g < base) (u v x y z : Value) : RdrO (((((w.setCell ⟨g, 0, none⟩ u).setCell ⟨g, 1, none⟩ v).setCell ⟨g, 2, none⟩ x).setCell ⟨g, 3, none⟩ y).setCell ⟨g, 4, none⟩ z) base HA hn hc held FA fn fc fs BA bn bc body :=
  ((((h.set (p := ⟨g, 0, none⟩) hg u).set (p := ⟨g, 1, none⟩) hg v).set (p := ⟨g, 2, none⟩) hg x).set (p := ⟨g, 3, none⟩) hg y).set (p := ⟨g, 4, none⟩) hg z
theorem RdrV.nil (w : World) : RdrV w none 0 0 [] none 0 0 [] none 0 0 [] := ⟨BV.nilR w, rfl, Nat.le_refl _, by decide, RdX.nil, BV.nilR w⟩
/-- The state of Feed's loop. -/
structure FdT (W wr : World) (room put : Int) (TA : Option Addr) (tn tc : Nat) (HA : Option Addr) (hn hc : Nat) (FA : Option Addr) (fn fc : Nat) (BA : Option Addr) (bn bc : Nat) (r : RdrD) : Prop where
  R : Blk wr W.heap.size 35 #[.slice HA hn hc, .slice FA fn fc, .bool r.bg, .slice BA bn bc, .bool r.en]
  T : Blk wr (W.heap.size + 1) 29 #[.int .i64 room, .int .i64 put, .slice TA tn tc]
  Z : Blk wr (W.heap.size + 1 + 1) 35 #[.slice none 0 0, .slice none 0 0, .bool false, .slice none 0 0, .bool false]
  O : RdrO wr (W.heap.size + 1 + 1 + 1) HA hn hc r.held FA fn fc r.fs BA bn bc r.body
  B : Below W.heap.size W wr
  h1 : hn ≤ 5000
  h2 : fn ≤ 8
  h3 : bn ≤ 200
section
variable {W w w' : World} {room put : Int} {TA : Option Addr} {tn tc : Nat} {HA : Option Addr} {hn hc : Nat} {FA : Option Addr} {fn fc : Nat} {BA : Option Addr} {bn bc : Nat} {r : RdrD}
theorem FdT.carry (h : FdT W w room put TA tn tc HA hn hc FA fn fc BA bn bc r) (hb : Below w.heap.size w w') : FdT W w' room put TA tn tc HA hn hc FA fn fc BA bn bc r :=
  ⟨h.R.carry hb, h.T.carry hb, h.Z.carry hb, h.O.carry hb, h.B.trans (hb.mono h.B.size), h.h1, h.h2, h.h3⟩
theorem FdT.alloc (h : FdT W w room put TA tn tc HA hn hc FA fn fc BA bn bc r) (o : Obj) : FdT W (w.alloc o) room put TA tn tc HA hn hc FA fn fc BA bn bc r := h.carry ((Below.refl _ _).alloc (Nat.le_refl _) _)
/-- The reader's block is written whole. -/
theorem FdT.setR (h : FdT W w room put TA tn tc HA hn hc FA fn fc BA bn bc r) {HA' : Option Addr} {hn' hc' : Nat} {FA' : Option Addr} {fn' fc' : Nat} {BA' : Option Addr} {bn' bc' : Nat} {r' : RdrD} (hO : RdrO w (W.heap.size + 1 + 1 + 1) HA' hn' hc' r'.held FA' fn' fc' r'.fs BA' bn' bc' r'.body) (h1 : hn' ≤ 5000) (h2 : fn' ≤ 8) (h3 : bn' ≤ 200) :
    FdT W (((((w.setCell ⟨W.heap.size, 0, none⟩ (.slice HA' hn' hc')).setCell ⟨W.heap.size, 1, none⟩ (.slice FA' fn' fc')).setCell ⟨W.heap.size, 2, none⟩ (.bool r'.bg)).setCell ⟨W.heap.size, 3, none⟩ (.slice BA' bn' bc')).setCell ⟨W.heap.size, 4, none⟩ (.bool r'.en)) room put TA tn tc HA' hn' hc' FA' fn' fc' BA' bn' bc' r' :=
  ⟨h.R.set5 _ _ _ _ _, h.T.far5 (by omega) _ _ _ _ _, h.Z.far5 (by omega) _ _ _ _ _, hO.set5 (by omega) _ _ _ _ _, Below.set5 h.B (Nat.le_refl _) _ _ _ _ _, h1, h2, h3⟩
end
/-- The blocks alone. -/
structure FdM (W wr : World) (room put : Int) (TA : Option Addr) (tn tc : Nat) (H F : Value) (bg : Bool) (B : Value) (en : Bool) : Prop where
  R : Blk wr W.heap.size 35 #[H, F, .bool bg, B, .bool en]
  T : Blk wr (W.heap.size + 1) 29 #[.int .i64 room, .int .i64 put, .slice TA tn tc]
  Z : Blk wr (W.heap.size + 1 + 1) 35 #[.slice none 0 0, .slice none 0 0, .bool false, .slice none 0 0, .bool false]
  B : Below W.heap.size W wr
theorem FdT.m {W w : World} {room put : Int} {TA : Option Addr} {tn tc : Nat} {HA : Option Addr} {hn hc : Nat} {FA : Option Addr} {fn fc : Nat} {BA : Option Addr} {bn bc : Nat} {r : RdrD} (h : FdT W w room put TA tn tc HA hn hc FA fn fc BA bn bc r) : FdM W w room put TA tn tc (.slice HA hn hc) (.slice FA fn fc) r.bg (.slice BA bn bc) r.en := ⟨h.R, h.T, h.Z, h.B⟩
section
variable {W w w' : World} {room put : Int} {TA : Option Addr} {tn tc : Nat} {H F B : Value} {bg en : Bool}
theorem FdM.below (h : FdM W w room put TA tn tc H F bg B en) (hb : Below (W.heap.size + 1 + 1 + 1) w w') : FdM W w' room put TA tn tc H F bg B en := ⟨h.R.below hb (by omega), h.T.below hb (by omega), h.Z.below hb (by omega), h.B.trans (hb.mono (by omega))⟩
theorem FdM.setR (h : FdM W w room put TA tn tc H F bg B en) {HA' : Option Addr} {hn' hc' : Nat} {FA' : Option Addr} {fn' fc' : Nat} {BA' : Option Addr} {bn' bc' : Nat} {r' : RdrD} (hO : RdrO w (W.heap.size + 1 + 1 + 1) HA' hn' hc' r'.held FA' fn' fc' r'.fs BA' bn' bc' r'.body) (h1 : hn' ≤ 5000) (h2 : fn' ≤ 8) (h3 : bn' ≤ 200) :
    FdT W (((((w.setCell ⟨W.heap.size, 0, none⟩ (.slice HA' hn' hc')).setCell ⟨W.heap.size, 1, none⟩ (.slice FA' fn' fc')).setCell ⟨W.heap.size, 2, none⟩ (.bool r'.bg)).setCell ⟨W.heap.size, 3, none⟩ (.slice BA' bn' bc')).setCell ⟨W.heap.size, 4, none⟩ (.bool r'.en)) room put TA tn tc HA' hn' hc' FA' fn' fc' BA' bn' bc' r' :=
  ⟨h.R.set5 _ _ _ _ _, h.T.far5 (by omega) _ _ _ _ _, h.Z.far5 (by omega) _ _ _ _ _, hO.set5 (by omega) _ _ _ _ _, Below.set5 h.B (Nat.le_refl _) _ _ _ _ _, h1, h2, h3⟩
end
def rdrLen (w : World) (g : Nat) : Nat := match w.cell? ⟨g, 0, none⟩ with | some (.slice _ n _) => n | _ => 0
theorem FdT.rlen {W w : World} {room put : Int} {TA : Option Addr} {tn tc : Nat} {HA : Option Addr} {hn hc : Nat} {FA : Option Addr} {fn fc : Nat} {BA : Option Addr} {bn bc : Nat} {r : RdrD} (h : FdT W w room put TA tn tc HA hn hc FA fn fc BA bn bc r) : rdrLen w W.heap.size = hn := by
  unfold rdrLen
  rw [h.R.facts5R.2.1]
/-- What Feed answers. -/
def FeedOut (w : World) (r : RdrD) (E : Int) (e' : Ending) (w' : World) : Prop :=
  ∃ (HA : Option Addr) (hn hc : Nat) (FA : Option Addr) (fn fc : Nat) (BA : Option Addr) (bn bc : Nat), e' = .returned (.tuple #[.agg #[.slice HA hn hc, .slice FA fn fc, .bool r.bg, .slice BA bn bc, .bool r.en], .int .i64 E]) ∧ RdrV w' HA hn hc r.held FA fn fc r.fs BA bn bc r.body ∧ Below w.heap.size w w'
end Go.Proofs.Ytihngonemdaihaa
