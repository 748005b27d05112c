/- Texts of the proof, laid together: Gate11 SeqL SeqN FlowF SeqM Gate12 Client1 Client2 Client3. -/
import Derived.Test.YtbcagdjfegobnaaGreatC35
import Derived.Test.YtbcagdjfegobnaaGreatC36
import Derived.Test.YtbcagdjfegobnaaGreatC32
import Derived.Test.YtbcagdjfegobnaaGreatC34
/- Gates whose connections have just begun: gate.Hear of a greeting: a note more; a token told; a token taken. -/
namespace Go.Proofs.YtbcagdjfegobnaaGreat
open Go.ChangeShapes Go.WideShapes Go.ChangeAt Go.RowKit
set_option linter.unusedVariables false

theorem upd_upd (t : Nat → Tly) (p : Nat) (a b : Tly) : upd (upd t p a) p b = upd t p b := by
  funext i; simp only [upd]; split <;> rfl
theorem upd_at (t : Nat → Tly) (p : Nat) (a : Tly) : upd t p a p = a := by simp [upd]
theorem any_pl {xs ys : List NtB} (h : ys.map NtB.pl = xs.map NtB.pl) (p f : Int) : ys.any (fun x => decide (x.peer = p) && decide (x.from_ = f)) = xs.any (fun x => decide (x.peer = p) && decide (x.from_ = f)) := by
  have e : ∀ l : List NtB, l.any (fun x => decide (x.peer = p) && decide (x.from_ = f)) = (l.map NtB.pl).any (fun q : NtP => decide (q.2.2.1 = p) && decide (q.2.1 = f)) := fun l => by
    rw [List.any_map]; rfl
  rw [e, e, h]
/-- A note more. -/
def gMore (g : GtD) (p : Nat) (tl : Tly) : GtD := { g with next := g.next + 1, t := upd g.t p tl }
theorem GOk.more {g : GtD} {xs : List NtB} (h : GOk g xs) (p : Nat) (tl : Tly) (ht : TlyOk tl) (hn : xs.length ≤ 2) (hx : g.next ≤ 255) {y : NtB} (hi : y.id = g.next) (hf0 : 0 ≤ y.from_) (hf1 : y.from_ ≤ 255) (hp0 : 0 ≤ y.peer) (hp1 : y.peer < 4) (hk0 : 0 ≤ y.key) (hk1 : y.key < 18446744073709551616) (hr : BgR y.cs y.last)
    {ys : List NtB} (e : ys.map NtB.pl = xs.map NtB.pl) (hbg : ∀ z ∈ ys, BgR z.cs z.last) : GOk (gMore g p tl) (ys ++ [y]) := by
  have hy := h.as e hbg
  have hx0 := h.x0
  refine ⟨h.s0, h.s1, h.n0, h.n1, by simp only [gMore]; omega, by simp only [gMore]; omega, h.h0, h.h1, fun i hi => ?_, ?_, fun z hz => ?_, ?_⟩
  · simp only [gMore, upd]
    split
    · exact ht
    · exact h.tl i hi
  · have := congrArg List.length e
    simp at this ⊢
    omega
  · rcases List.mem_append.1 hz with h1 | h1
    · have := hy.nts z h1
      exact ⟨this.id0, by simp only [gMore]; have := this.id1; omega, this.f0, this.f1, this.p0, this.p1, this.k0, this.k1, this.r⟩
    · rw [List.mem_singleton.1 h1]
      exact ⟨by omega, by simp only [gMore]; omega, hf0, hf1, hp0, hp1, hk0, hk1, hr⟩
  · rw [List.pairwise_append]
    refine ⟨hy.inc, List.pairwise_singleton _ _, fun a ha b hb => ?_⟩
    rw [List.mem_singleton.1 hb, hi]
    exact (hy.nts a ha).id1
theorem GOk.tly {g : GtD} {xs : List NtB} (h : GOk g xs) (p : Nat) (tl : Tly) (ht : TlyOk tl) {ys : List NtB} (e : ys.map NtB.pl = xs.map NtB.pl) (hbg : ∀ z ∈ ys, BgR z.cs z.last) : GOk (g.set p tl) ys := by
  have hy := h.as e hbg
  refine ⟨h.s0, h.s1, h.n0, h.n1, h.x0, h.x1, h.h0, h.h1, fun i hi => ?_, hy.few, hy.nts, hy.inc⟩
  simp only [GtD.set, upd]
  split
  · exact ht
  · exact h.tl i hi
/-- What is answered where a note is added. -/
def Added (g : GtD) (n : Nat) (xs : List NtB) (p f x nx : Nat) (tl : Tly) (g2 : GtD) (n2 : Nat) (ys : List NtB) (m2 : Nat) (ms2 : List MlB) : Prop :=
  (GOk g2 ys ∧ ys.length = n2) ∧ n2 = n + 1 ∧ g2 = gMore g p tl ∧ ys.map NtB.pl = xs.map NtB.pl ++ [((nx : Int), (f : Int), (p : Int), sessI x (keyI g.secret nx), false, g.now)] ∧ m2 = 1 ∧ ∃ D dc, ms2 = [⟨p, D, 24, dc, greetB (keyI 1 f) f nx [] (keyI g.secret nx).toNat⟩]
/-- .. and where a token is told. -/
def Told (g : GtD) (n : Nat) (xs : List NtB) (p f : Nat) (tl : Tly) (g2 : GtD) (n2 : Nat) (ys : List NtB) (m2 : Nat) (ms2 : List MlB) : Prop :=
  (GOk g2 ys ∧ ys.length = n2) ∧ n2 = n ∧ g2 = g.set p tl ∧ ys.map NtB.pl = xs.map NtB.pl ∧ m2 = 1 ∧ ∃ D dc, ms2 = [⟨p, D, 20, dc, retryB f (tokB g.secret p g.now)⟩]
/-- What is answered. -/
def HearOutG (Pr : GtD → Nat → List NtB → Nat → List MlB → Prop) (E : Int) (w : World) (e : Ending) (w' : World) : Prop :=
  ∃ g2 A2 n2 c2 ys zs O2 m2 co2 ms2, e = .returned (.tuple #[.agg (gcs g2 A2 n2 c2), .slice O2 m2 co2, .int .i64 E]) ∧ GtV w' g2 A2 n2 c2 ys ∧ ys.map NtB.pl = zs.map NtB.pl ∧ Pr g2 n2 zs m2 ms2 ∧ ms2.length = m2 ∧ m2 ≤ co2 ∧ co2 ≤ 9223372036854775807 ∧ MlOwn w' w.heap.size O2 co2 ms2 ∧ OwnX ntc 29 w' w.heap.size 53 A2 c2 ys ∧ Below w.heap.size w w'

section
variable (p : Nat) (hp : p < 4) (f x : Nat) (hf : f ≤ 255) (hx : x < 18446744073709551616) (tok : List UInt8) (htk : tok.length ≤ 63) (B : Option Addr) (bc : Nat) (hbc : 24 + tok.length ≤ bc) (hbm : bc ≤ 9223372036854775807)
  (g : GtD) (A : Option Addr) (n c : Nat) (xs : List NtB) (hkf : (g.t p).1 = false) (h1 : (g.t p).2.1 ≤ 1099511620000) (h3 : (g.t p).2.2 ≤ 1099511620000) (nx : Nat) (hnx : g.next = nx) (hnx5 : nx ≤ 255)
  (hnot : xs.any (fun x => decide (x.peer = p) && decide (x.from_ = f)) = false) (w : World) (hG : GtV w g A n c xs) (hB : RdB w B (greetB (keyI 1 f) 0 f tok x))
include hp hf hx htk hbc hbm hkf h1 h3 hnx hnx5 hnot hG hB
theorem hear_new (hn : n ≤ 1) (hret : g.retry = false) :
    Calls Tryz.prog 27 #[.agg (gcs g A n c), .int .i64 p, .slice B (24 + tok.length) bc] w
      (HearOutG (Added g n xs p f x nx (false, (g.t p).2.1 + (24 + tok.length : Nat), (g.t p).2.2 + 24)) 0 w) := by
  have hok := hG.ok.tl p hp
  have hlt := hok.2.2 hkf
  have h0 := hok.1.1
  have h2 := hok.2.1.1
  have hok2 : TlyOk (false, (g.t p).2.1 + (24 + tok.length : Nat), (g.t p).2.2) := ⟨⟨by simp only; omega, by simp only; omega⟩, ⟨h2, by simp only; omega⟩, fun _ => by simp only; omega⟩
  have hok3 : TlyOk (false, (g.t p).2.1 + (24 + tok.length : Nat), (g.t p).2.2 + 24) := ⟨⟨by simp only; omega, by simp only; omega⟩, ⟨by simp only; omega, by simp only; omega⟩, fun _ => by simp only; omega⟩
  refine hear_first p hp 0 f tok _ B (24 + tok.length) bc _ (greetB_len _ _ _ _ _ htk) hbc hbm (by omega) (greetB_dec (keyI 1 f) 0 f tok x (by decide) hf (by omega)) g A n c xs hkf (by omega) (by omega) _ rfl 0 _ (fun _ _ _ _ _ h => h.1) w hG hB ?_
  intro W base gd A1 c1 xs1 T d hpl hbg hV hbase hT hTd hTm hBW
  have htp : ((g.set p (false, (g.t p).2.1 + (24 + tok.length : Nat), (g.t p).2.2)).t p) = (false, (g.t p).2.1 + (24 + tok.length : Nat), (g.t p).2.2) := upd_at _ _ _
  refine (first_new p hp 0 f x (by decide) hf hx T tok.length d tok rfl htk _ rfl B bc hbc hbm base gd (g.set p (false, (g.t p).2.1 + (24 + tok.length : Nat), (g.t p).2.2)) A1 n c1 xs1 none 0 0 (by decide) [] (by rw [htp]; exact hok2) (by rw [htp]; simp only; omega) (by rw [htp]; simp only; omega) (by rw [htp]; right; simp only; omega) hG.ok.s0 hG.ok.s1 hG.ok.n0 hG.ok.n1 nx hnx hnx5 hn hret (by rw [any_pl hpl]; exact hnot) W hV hbase hBW).mono ?_
  rintro e w' ⟨rfl, ⟨A', c', O', co', D, dc, cA, cc, cB, cd, hcc, hcd, hV2⟩, hb⟩
  rw [htp] at hV2
  have hg2 : (GtD.set (GtD.up (g.set p (false, (g.t p).2.1 + (24 + tok.length : Nat), (g.t p).2.2))) p (false, (g.t p).2.1 + (24 + tok.length : Nat), (g.t p).2.2 + 24)) = gMore g p (false, (g.t p).2.1 + (24 + tok.length : Nat), (g.t p).2.2 + 24) := by
    simp only [GtD.set, GtD.up, gMore, upd_upd]
  simp only at hV2
  rw [hg2] at hV2
  have hxs : xs1.length = n := hV.hn
  have hxl : xs.length = n := hG.hn
  refine ⟨rfl, ⟨_, _, _, _, _, _, _, _, _, hV2, ⟨hG.ok.more p _ hok3 (by omega) (by omega) (by rfl) (by simp [newN]) (by simp only [newN]; omega) (by simp [newN]) (by simp only [newN]; omega) (by exact (sessI_range _ _).1) (by exact (sessI_range _ _).2) ⟨cA, cc, cB, cd, hcc, hcd, rfl, hG.ok.n0, hG.ok.n1⟩ hpl hbg, by simp [hxs]⟩, rfl, rfl, ?_, rfl, D, dc, rfl⟩, hb⟩
  rw [List.map_append, hpl]
  simp [NtB.pl, newN, GtD.set, hnx]
end
end Go.Proofs.YtbcagdjfegobnaaGreat
/- A region that does not draw its order, walked operation by operation; each side fact is the kernel's. -/
namespace Go.Proofs.YtbcagdjfegobnaaGreat
open Go.RowKit
set_option linter.unusedVariables false

section
variable {P : Program} {ops : Array Oper} {Q : Exit → Act → World → Prop} {a : Act} {w : World} {o : Oper} {os : List Oper}
theorem lval (d : Option Tmp) (v : Value) (w' : World) (hd : o.dst = d) (hg : o.guard = none) (hr : (execOp a.eval o).run P w = .ok (.value v) w') (h : wpList P ops Q os (a.put d v) w') : wpList P ops Q (o :: os) a w := by
  unfold wpList
  rw [if_pos (by simp [Region.wanted, hg])]
  refine .inl ?_
  unfold Oper.wp
  rw [hr]
  simp only [Oper.upon]
  rw [hd]; exact h
theorem lnone (hg : o.guard = none) (hd : o.dst = none) (w' : World) (hr : (execOp a.eval o).run P w = .ok .skip w') (h : wpList P ops Q os (a.put none undef) w') : wpList P ops Q (o :: os) a w := by
  unfold wpList
  rw [if_pos (by simp [Region.wanted, hg])]
  refine .inl ?_
  unfold Oper.wp
  rw [hr]
  simp only [Oper.upon]
  rw [hd]; exact h
theorem lidx (d : Option Tmp) (t : TypeId) (x y : Operand) (b off n c : Nat) (K : IntKind) (i : Int) (sz : Nat) (to_ : Nat) (hd : o.dst = d) (hg : o.guard = none)
    (ho : o.op = .indexAddr t x y) (hx : a.eval x = .slice (some ⟨b, off, none⟩) n c) (hy : a.eval y = .int K i) (ht : P.underlying t = some (.slice (P.elem t))) (hz : (sizeOf (P.elem t)).run P w = .ok sz w) (h0 : 0 ≤ i) (h1 : i < n) (hto : off + i.toNat * sz = to_)
    (h : wpList P ops Q os (a.put d (.pointer (some ⟨b, to_, none⟩))) w) : wpList P ops Q (o :: os) a w :=
  lval d _ w hd hg (by
    subst hto
    unfold execOp
    simp only [ho, hx, hy, Sem.run_bind, run_indexAt_slice (h := ht), h0, h1, and_self, if_true, hz, Result.andThen_ok, Sem.run_pure, add_none]) h
theorem lcall (d : Option Tmp) (f : FuncId) (args : Array Value) (hd : o.dst = d) (hg : o.guard = none) (hr : (execOp a.eval o).run P w = .ok (.enter f args) w) (hc : Calls P f args w (fun e w'' => ∃ v, e = .returned v ∧ wpList P ops Q os (a.put d v) w'')) : wpList P ops Q (o :: os) a w := by
  unfold wpList
  rw [if_pos (by simp [Region.wanted, hg])]
  refine .inl ?_
  unfold Oper.wp
  rw [hr]
  simp only [Oper.upon]
  exact hc.mono fun e w'' ⟨v, he, hv⟩ => by subst he; rw [hd]; exact hv
end
end Go.Proofs.YtbcagdjfegobnaaGreat
/- A region that does not draw its order, walked operation by operation: more steps. -/
namespace Go.Proofs.YtbcagdjfegobnaaGreat
open Go.RowKit
set_option linter.unusedVariables false

section
variable {P : Program} {ops : Array Oper} {Q : Exit → Act → World → Prop} {a : Act} {w : World} {o : Oper} {os : List Oper}
theorem lvalG (d : Option Tmp) (v : Value) (w' : World) (hd : o.dst = d) (hw : Region.wanted o (yielded ops a.tmps) = true) (hr : (execOp a.eval o).run P w = .ok (.value v) w') (h : wpList P ops Q os (a.put d v) w') : wpList P ops Q (o :: os) a w := by
  unfold wpList
  rw [if_pos hw]
  refine .inl ?_
  unfold Oper.wp
  rw [hr]
  simp only [Oper.upon]
  rw [hd]; exact h
theorem lskip (d : Option Tmp) (hd : o.dst = d) (hw : Region.wanted o (yielded ops a.tmps) = false) (h : wpList P ops Q os (a.put d undef) w) : wpList P ops Q (o :: os) a w := by
  unfold wpList
  rw [if_neg (by simp [hw]), hd]; exact h
/-- What makes a new block. -/
theorem lnew (d : Option Tmp) (E : TypeId) (cs : Array Value) (vf : Nat → Value) (hd : o.dst = d) (hg : o.guard = none) (hr : (execOp a.eval o).run P w = .ok (.value (vf w.heap.size)) (w.alloc (.cells cs E)))
    (h : ∀ w' g, w.heap.size = g → Blk w' g E cs → Below w.heap.size w w' → wpList P ops Q os (a.put d (vf g)) w') : wpList P ops Q (o :: os) a w :=
  lval d _ _ hd hg hr (h _ _ rfl (Blk.new _ _ _) ((Below.refl _ _).alloc (Nat.le_refl _) _))
/-- .. whose value is written otherwise. -/
theorem lvalE (d : Option Tmp) (v0 v : Value) (w' : World) (e : v0 = v) (hd : o.dst = d) (hw : Region.wanted o (yielded ops a.tmps) = true) (hr : (execOp a.eval o).run P w = .ok (.value v0) w') (h : wpList P ops Q os (a.put d v) w') : wpList P ops Q (o :: os) a w :=
  lvalG d v w' hd hw (by rw [hr, e]) h
theorem lloadG (d : Option Tmp) (v : Value) (ty : TypeId) (x : Operand) (b off : Nat) (desc : TypeDesc) (hd : o.dst = d) (hw : Region.wanted o (yielded ops a.tmps) = true) (ho : o.op = .load ty x) (hx : a.eval x = .pointer (some ⟨b, off, none⟩)) (hu : P.underlying ty = some desc) (hds : (match desc with | .struct _ | .array _ _ => true | _ => false) = false) (hc : w.cell? ⟨b, off, none⟩ = some v) (h : wpList P ops Q os (a.put d v) w) : wpList P ops Q (o :: os) a w := by
  refine lvalG d v w hd hw ?_ h
  have hagg : (isAgg ty).run P w = .ok false w := by
    unfold isAgg
    rw [Sem.run_bind, run_underlying hu w]
    cases desc <;> simp_all
  have hl : (loadVar ty ⟨b, off, none⟩).run P w = .ok v w := by simp [loadVar, Sem.run_bind, hagg, hc]
  unfold execOp
  simp only [ho, hx, Instr.loadAt, Instr.sureAddr, Sem.run_bind, Sem.run_pure, Result.andThen_ok, hl]
end
end Go.Proofs.YtbcagdjfegobnaaGreat
/- A region that draws its order, walked once: what waits for what, reckoned in one go (for regions of many operations). -/
namespace Go.Proofs.YtbcagdjfegobnaaGreat
open Go.RowKit
set_option linter.unusedVariables false

section
variable (ops : Array Oper)
/-- What each operation waits for, at length, as_v bits: that of the last one first. -/
def tabN : Nat → List Nat
  | 0 => []
  | n + 1 => ((waits ops n).foldl (fun acc e => acc ||| ((1 <<< e) ||| (tabN n).getD (n - 1 - e) 0)) 0) :: tabN n
def depF (k i : Nat) : Bool := ((tabN ops ops.size).getD (ops.size - 1 - k) 0).testBit i
def flowG (dep : Nat → Nat → Bool) (core : Nat → Bool) (sz : Nat) : Bool :=
  (List.range ops.size).all fun k =>
    (waits ops k).all (fun e => e < k) &&
    (if core k then
      (waits ops k).all core &&
      (List.range ops.size).all (fun j => !core j || ((match dstOf ops j with
        | some d => d < sz && (!(looks ops k).contains d || dep k j) && (j == k || dstOf ops k != some d)
        | none => true))) &&
      (match ops[k]? with | some o => (match o.op with | Op.select _ _ => false | _ => true) | none => true)
    else (List.range ops.size).all (fun j => !core j || (dep k j || pu ops j)))
def pureG (dep : Nat → Nat → Bool) (core ev : Nat → Bool) : Bool := Region.noSelect ops &&
  (List.range ops.size).all fun j => !(core j && pu ops j) || (!ev j && (List.range ops.size).all fun i => i == j || ((waits ops i).contains j || (dep j i || (match ops[i]?, ops[j]? with | some oi, some oj => oj.apart ops oi | _, _ => true))))
end
section
variable {ops : Array Oper} {core ev : Nat → Bool} {dep dep' : Nat → Nat → Bool} {sz : Nat}
def entN (ops : Array Oper) (k : Nat) : Nat := (waits ops k).foldl (fun acc e => acc ||| ((1 <<< e) ||| (tabN ops k).getD (k - 1 - e) 0)) 0
end
section
variable {P : Program} {ops : Array Oper} {C : World → Prop} {W : Nat → Act → Value → World → Prop} {Q : Exit → Act → World → Prop}
end
end Go.Proofs.YtbcagdjfegobnaaGreat
/- A loop by a measure that its condition names; a region that draws its order, whose frame is whatever. -/
namespace Go.Proofs.YtbcagdjfegobnaaGreat
open Go.RowKit
set_option linter.unusedVariables false

theorem Blk.neq {w : World} {q g : Nat} {E t : TypeId} {cs ds : Array Value} (h : Blk w q E cs) (k : Blk w g t ds) (hne : E ≠ t) : q ≠ g := fun e => by
  subst e
  have h1 : some (Obj.cells cs E (0, 0)) = some (Obj.cells ds t (0, 0)) := (show w.heap[q]? = _ from h).symm.trans k
  injection h1 with h1; injection h1 with h1 h2; exact hne h2
theorem own_neq {α : Type} {f : α → List Value} {m base : Nat} {E t : TypeId} {w : World} {A : Option Addr} {c : Nat} {xs : List α} {g : Nat} {cs : Array Value} (h : OwnX f m w base E A c xs) (hg : Blk w g t cs) (hne : E ≠ t) : ∀ a, A = some a → a.block ≠ g := by
  intro a ha e
  subst ha
  rcases h.2 with ⟨h1, _⟩ | ⟨q, cap, cur, hv, _, hh, _⟩
  · cases h1
  · injection hv with h1
    injection h1 with h1
    subst h1
    subst e
    unfold Blk at hg
    rw [hh] at hg
    injection hg with h3
    injection h3 with _ h4
    exact hne h4
theorem all_one {cs : Array Value} (h : cs.toList.all (·.oneCell') = true) : ∀ v ∈ cs.toList, v.oneCell' = true := fun v hv => List.all_eq_true.1 h v hv
theorem then_normal {K : Act → World → Prop} {Q : Exit → Act → World → Prop} {a : Act} {w : World} (h : K a w) : Exit.then K Q .normal a w := h
theorem then_ret {K : Act → World → Prop} {Q : Exit → Act → World → Prop} {a : Act} {w : World} (h : Q .ret a w) : Exit.then K Q .ret a w := h
theorem then_exit {K : Act → World → Prop} {id : Nat} {Q : Exit → Act → World → Prop} {a : Act} {w : World} (h : Q (.exit id) a w) : Exit.then K Q (.exit id) a w := h
theorem inBlock_exit {id : Nat} {Q : Exit → Act → World → Prop} {a : Act} {w : World} (h : Q .normal a w) : Exit.inBlock id Q (.exit id) a w := by simp only [Exit.inBlock, if_true]; exact h
theorem wp_loopI {P : Program} {Q : Exit → Act → World → Prop} {a : Act} {w : World} {c : Code} (I : Nat → Act → World → Prop) (n : Nat) (h : I n a w)
    (round : ∀ n a w, I n a w → c.wp P (Exit.then (fun a' w' => ∃ m, m < n ∧ I m a' w') Q) a w) : (Code.loop c).wp P Q a w := by
  intro b k cs
  have key : ∀ n a w, I n a w →
      ∃ e a' w', Q e a' w' ∧ Arrives P (lone (b.at a (.code c :: .inLoop c :: k)) cs w) b k cs e a' w' := by
    intro n
    induction n using Nat.strongRecOn with
    | _ n ih =>
      intro a w hI
      obtain ⟨e, a₁, w₁, hq, harr⟩ := round n a w hI b (.inLoop c :: k) cs
      cases e with
      | normal =>
        obtain ⟨m, hlt, hI₁⟩ := hq
        obtain ⟨e₂, a₂, w₂, hq₂, harr₂⟩ := ih m hlt a₁ w₁ hI₁
        exact ⟨e₂, a₂, w₂, hq₂, .of_steps (Steps.trans harr (.one step_inLoop)) harr₂⟩
      | exit id => exact ⟨_, a₁, w₁, hq, .pass (x := .inLoop c) rfl (fun _ _ => .inl (by simp)) harr⟩
      | goto l => exact ⟨_, a₁, w₁, hq, .pass (x := .inLoop c) rfl (fun _ _ => .inl (by simp)) harr⟩
      | ret => exact ⟨_, a₁, w₁, hq, .pass (x := .inLoop c) rfl (fun _ _ => .inl (by simp)) harr⟩
      | panic ch => exact ⟨_, a₁, w₁, hq, .pass (x := .inLoop c) rfl (fun _ _ => .inl (by simp)) harr⟩
      | outgrown => exact ⟨_, a₁, w₁, hq, .pass (x := .inLoop c) rfl (fun _ _ => .inl (by simp)) harr⟩
  obtain ⟨e, a', w', hq, harr⟩ := key n a w h
  exact ⟨e, a', w', hq, .of_steps (.one step_loop) harr⟩
/-- What a region's operations from here on come to; a structure, for a def would be unfolded (whnf) by each 'refine'. -/
structure WL (P : Program) (ops : Array Oper) (Q : Exit → Act → World → Prop) (l : List Oper) (a : Act) (w : World) : Prop where
  out : wpList P ops Q l a w
section
variable {P : Program} {ops : Array Oper} {Q : Exit → Act → World → Prop} {a : Act} {w : World} {o : Oper} {os : List Oper}
theorem wp_regionW {id : Nat} {l : List Oper} (h : WL P l.toArray Q l a w) : (Code.region id l.toArray false).wp P Q a w := wp_region_lit h.out
theorem wnil (h : Q .normal a w) : WL P ops Q [] a w := ⟨wpList_nil h⟩
theorem wval (d : Option Tmp) (v : Value) (w' : World) (hd : o.dst = d) (hw : Region.wanted o (yielded ops a.tmps) = true) (hr : (execOp a.eval o).run P w = .ok (.value v) w') (h : WL P ops Q os (a.put d v) w') : WL P ops Q (o :: os) a w := ⟨lvalG d v w' hd hw hr h.out⟩
theorem wvalE (d : Option Tmp) (v0 v : Value) (w' : World) (e : v0 = v) (hd : o.dst = d) (hw : Region.wanted o (yielded ops a.tmps) = true) (hr : (execOp a.eval o).run P w = .ok (.value v0) w') (h : WL P ops Q os (a.put d v) w') : WL P ops Q (o :: os) a w := ⟨lvalE d v0 v w' e hd hw hr h.out⟩
theorem wskip (d : Option Tmp) (hd : o.dst = d) (hw : Region.wanted o (yielded ops a.tmps) = false) (h : WL P ops Q os (a.put d undef) w) : WL P ops Q (o :: os) a w := ⟨lskip d hd hw h.out⟩
theorem wnew (d : Option Tmp) (E : TypeId) (cs : Array Value) (vf : Nat → Value) (hd : o.dst = d) (hg : o.guard = none) (hr : (execOp a.eval o).run P w = .ok (.value (vf w.heap.size)) (w.alloc (.cells cs E)))
    (h : ∀ w' g, w.heap.size = g → Blk w' g E cs → Below w.heap.size w w' → WL P ops Q os (a.put d (vf g)) w') : WL P ops Q (o :: os) a w := ⟨lnew d E cs vf hd hg hr fun w' g h1 h2 h3 => (h w' g h1 h2 h3).out⟩
theorem wload (d : Option Tmp) (v : Value) (ty : TypeId) (x : Operand) (b off : Nat) (desc : TypeDesc) (hd : o.dst = d) (hw : Region.wanted o (yielded ops a.tmps) = true) (ho : o.op = .load ty x) (hx : a.eval x = .pointer (some ⟨b, off, none⟩)) (hu : P.underlying ty = some desc) (hds : (match desc with | .struct _ | .array _ _ => true | _ => false) = false) (hc : w.cell? ⟨b, off, none⟩ = some v) (h : WL P ops Q os (a.put d v) w) : WL P ops Q (o :: os) a w := ⟨lloadG d v ty x b off desc hd hw ho hx hu hds hc h.out⟩
theorem wloadR (d : Option Tmp) (hd : o.dst = d) (hw : Region.wanted o (yielded ops a.tmps) = true) (ty : TypeId) (x : Operand) (ho : o.op = .load ty x) (b off : Nat) (hx : a.eval x = .pointer (some ⟨b, off, none⟩)) (p : Array Value) (desc : TypeDesc)
    (hu : P.underlying ty = some desc) (hds : (match desc with | .struct _ | .array _ _ => true | _ => false) = true) (hi : (P.info? ty).map (·.size) = some p.size) (hc : ∀ j v, p[j]? = some v → w.cell? ⟨b, off + j, none⟩ = some v)
    (h : WL P ops Q os (a.put d (.agg p)) w) : WL P ops Q (o :: os) a w := ⟨wpList_loadG hw ty x ho b off hx p desc hu hds hi hc (by rw [hd]; exact h.out)⟩
theorem widx (d : Option Tmp) (t : TypeId) (x y : Operand) (b off n c : Nat) (K : IntKind) (i : Int) (sz : Nat) (to_ : Nat) (hd : o.dst = d) (hg : o.guard = none)
    (ho : o.op = .indexAddr t x y) (hx : a.eval x = .slice (some ⟨b, off, none⟩) n c) (hy : a.eval y = .int K i) (ht : P.underlying t = some (.slice (P.elem t))) (hz : (sizeOf (P.elem t)).run P w = .ok sz w) (h0 : 0 ≤ i) (h1 : i < n) (hto : off + i.toNat * sz = to_)
    (h : WL P ops Q os (a.put d (.pointer (some ⟨b, to_, none⟩))) w) : WL P ops Q (o :: os) a w := ⟨lidx d t x y b off n c K i sz to_ hd hg ho hx hy ht hz h0 h1 hto h.out⟩
/-- One cell is stored into a block that is known whole. -/
theorem wstore1 (hgd : o.guard = none) (hd : o.dst = none) (ty : TypeId) (x y : Operand) (ho : o.op = .store ty x y) (g off : Nat) (hx : a.eval x = .pointer (some ⟨g, off, none⟩)) (v : Value) (hy : a.eval y = v) (hv : v.cells = #[v]) (h1 : v.oneCell' = true)
    (t : TypeId) (cs : Array Value) (hg : Blk w g t cs) (hi : (P.info? ty).map (·.size) = some 1) (hs : off < cs.size) (cs' : Array Value) (hcs : cs.setIfInBounds off v = cs')
    (h : ∀ w', Blk w' g t cs' → Wr g w w' → WL P ops Q os (a.put none undef) w') : WL P ops Q (o :: os) a w := by
  subst hcs
  have hcs : (cs.toList.take off ++ [v] ++ cs.toList.drop (off + 1)).toArray = cs.setIfInBounds off v := by
    apply Array.toList_inj.1
    have ho : off < cs.toList.length := by simpa using hs
    simp only [Array.toList_setIfInBounds, List.append_assoc, List.cons_append, List.nil_append]
    rw [List.set_eq_take_append_cons_drop, if_pos ho]
  refine ⟨lnone hgd hd (w.setRow g (cs.setIfInBounds off v)) ?_ (h _ ?_ (Wr.row _ _ _)).out⟩
  · unfold execOp
    simp only [ho, hx, hy, Instr.storeAt, Instr.sureAddr, Sem.run_bind, Sem.run_pure, Result.andThen_ok, run_storeVar_cell (P := P) ty g off t cs v hv hg hi hs h1 hcs]
  · exact setRow_heap w g cs _ t (0, 0) hg
theorem wcall (d : Option Tmp) (f : FuncId) (args : Array Value) (hd : o.dst = d) (hg : o.guard = none) (hr : (execOp a.eval o).run P w = .ok (.enter f args) w) (hc : Calls P f args w (fun e w'' => ∃ v, e = .returned v ∧ WL P ops Q os (a.put d v) w'')) : WL P ops Q (o :: os) a w :=
  ⟨lcall d f args hd hg hr (hc.mono fun e w'' ⟨v, he, h⟩ => ⟨v, he, h.out⟩)⟩
theorem wstoreP (hgd : o.guard = none) (hd : o.dst = none) (ty : TypeId) (x y : Operand) (ho : o.op = .store ty x y) (g off : Nat) (hx : a.eval x = .pointer (some ⟨g, off, none⟩)) (p : Array Value) (hy : a.eval y = .agg p)
    (t : TypeId) (cs : Array Value) (hg : Blk w g t cs) (hi : (P.info? ty).map (·.size) = some p.size) (hs : off + p.size ≤ cs.size) (h1 : ∀ v ∈ p.toList, v.oneCell' = true) (cs' : Array Value) (hcs : (cs.toList.take off ++ p.toList ++ cs.toList.drop (off + p.size)).toArray = cs')
    (h : ∀ w', Blk w' g t cs' → Wr g w w' → WL P ops Q os (a.put none undef) w') : WL P ops Q (o :: os) a w :=
  ⟨wpList_storeP hgd ty x y ho g off hx p hy t cs hg hi hs h1 cs' hcs fun w' hB hw => by rw [hd]; exact (h w' hB hw).out⟩
end
end Go.Proofs.YtbcagdjfegobnaaGreat
/- Gates whose connections have just begun: short packets from an address that no note has, and bytes that are no packet. -/
namespace Go.Proofs.YtbcagdjfegobnaaGreat
open Go.ChangeShapes Go.WideShapes Go.ChangeAt Go.RowKit
set_option linter.unusedVariables false

set_option maxRecDepth 100000 in
set_option maxHeartbeats 4000000 in
theorem askShort0 (x : NtB) (kd t f nu si p : Int) (T : Option Addr) (tn d gh gp : Nat) (hid : ¬ x.id = t) (hpe : ¬ x.peer = p) (w : World) (hh : Blk w gh 61 #[.int .i64 kd, .int .i64 t, .int .i64 f, .slice T tn d, .int .i64 nu, .int .i64 si]) (hp : Blk w gp 3 #[.int .i64 p]) :
    Calls Tryz.prog 103 #[.agg (nta x), .pointer (some ⟨gh, 0, none⟩), .pointer (some ⟨gp, 0, none⟩)] w fun e w' => e = .returned (.bool false) ∧ Below w.heap.size w w' := by
  have HH := Lib.hid hh
  have HP := Lib.hid hp
  have HB0 := Lib.hid (Below.refl w.heap.size w)
  clear hh hp
  go_enter Tryz.func103, Tryz.ntmps103
  refine wp_seq_k ?_
  intro KC1 hKC1
  refine wp_regionW ?_
  refine wnew (some 3) 53 (nta x) (fun q => .pointer (some ⟨q, 0, none⟩)) (by kernel_rfl) (by kernel_rfl) (by kernel_rfl) ?_
  intro wz3 g2 hg2 hBg2 hbg2
  have hlg2 : w.heap.size ≤ g2 := by rw [← hg2]; exact HB0.out.size
  have HK4 := Lib.hid (HH.out.carry hbg2)
  have HK5 := Lib.hid (HP.out.carry hbg2)
  have HF6 := Lib.hid (HB0.out.trans (hbg2.mono HB0.out.size))
  have HKg2 := Lib.hid hBg2
  clear hBg2 hbg2
  refine wval (some 4) (.bool false) wz3 (by kernel_rfl) (by kernel_rfl) (by kernel_rfl) ?_
  refine wnil (hKC1 _ _ (?_))
  clear hKC1
  refine wp_seq_k ?_
  intro KC7 hKC7
  refine wp_regionW ?_
  refine wval (some 5) (.pointer (some ⟨g2, 0, none⟩)) wz3 (by kernel_rfl) (by kernel_rfl) (by kernel_rfl) ?_
  refine wload (some 6) (.int .i64 x.id) 3 (.tmp 5) g2 0 _ (by kernel_rfl) (by kernel_rfl) (by kernel_rfl) (by kernel_rfl) Tryz.underlying3 rfl HKg2.out.nt.2.1 ?_
  refine wval (some 7) (.pointer (some ⟨gh, 1, none⟩)) wz3 (by kernel_rfl) (by kernel_rfl) (by kernel_rfl) ?_
  refine wload (some 8) (.int .i64 t) 3 (.tmp 7) gh 1 _ (by kernel_rfl) (by kernel_rfl) (by kernel_rfl) (by kernel_rfl) Tryz.underlying3 rfl (by rw [HK4.out.cell]; kernel_rfl) ?_
  refine wvalE (some 9) (.bool (decide (x.id = t))) (.bool false) wz3 (by simp [hid]) (by kernel_rfl) (by kernel_rfl) (by kernel_rfl) ?_
  refine wval (some 10) (.bool false) wz3 (by kernel_rfl) (by kernel_rfl) (by kernel_rfl) ?_
  refine wskip (some 11) (by kernel_rfl) (by kernel_rfl) ?_
  refine wskip (some 12) (by kernel_rfl) (by kernel_rfl) ?_
  refine wskip (some 13) (by kernel_rfl) (by kernel_rfl) ?_
  refine wskip (some 14) (by kernel_rfl) (by kernel_rfl) ?_
  refine wval (some 15) (.bool false) wz3 (by kernel_rfl) (by kernel_rfl) (by kernel_rfl) ?_
  refine wval (some 4) (.bool false) wz3 (by kernel_rfl) (by kernel_rfl) (by kernel_rfl) ?_
  refine wnil (hKC7 _ _ (?_))
  clear hKC7
  refine wp_ret ?_
  refine bodyPost_ret (v := .bool false) (by kernel_rfl) rfl ⟨rfl, HF6.out⟩
set_option maxRecDepth 100000 in
set_option maxHeartbeats 4000000 in
theorem askShort1 (x : NtB) (kd t f nu si p : Int) (T : Option Addr) (tn d gh gp : Nat) (hid : x.id = t) (hpe : ¬ x.peer = p) (w : World) (hh : Blk w gh 61 #[.int .i64 kd, .int .i64 t, .int .i64 f, .slice T tn d, .int .i64 nu, .int .i64 si]) (hp : Blk w gp 3 #[.int .i64 p]) :
    Calls Tryz.prog 103 #[.agg (nta x), .pointer (some ⟨gh, 0, none⟩), .pointer (some ⟨gp, 0, none⟩)] w fun e w' => e = .returned (.bool false) ∧ Below w.heap.size w w' := by
  have HH := Lib.hid hh
  have HP := Lib.hid hp
  have HB0 := Lib.hid (Below.refl w.heap.size w)
  clear hh hp
  go_enter Tryz.func103, Tryz.ntmps103
  refine wp_seq_k ?_
  intro KC1 hKC1
  refine wp_regionW ?_
  refine wnew (some 3) 53 (nta x) (fun q => .pointer (some ⟨q, 0, none⟩)) (by kernel_rfl) (by kernel_rfl) (by kernel_rfl) ?_
  intro wz3 g2 hg2 hBg2 hbg2
  have hlg2 : w.heap.size ≤ g2 := by rw [← hg2]; exact HB0.out.size
  have HK4 := Lib.hid (HH.out.carry hbg2)
  have HK5 := Lib.hid (HP.out.carry hbg2)
  have HF6 := Lib.hid (HB0.out.trans (hbg2.mono HB0.out.size))
  have HKg2 := Lib.hid hBg2
  clear hBg2 hbg2
  refine wval (some 4) (.bool false) wz3 (by kernel_rfl) (by kernel_rfl) (by kernel_rfl) ?_
  refine wnil (hKC1 _ _ (?_))
  clear hKC1
  refine wp_seq_k ?_
  intro KC7 hKC7
  refine wp_regionW ?_
  refine wval (some 5) (.pointer (some ⟨g2, 0, none⟩)) wz3 (by kernel_rfl) (by kernel_rfl) (by kernel_rfl) ?_
  refine wload (some 6) (.int .i64 x.id) 3 (.tmp 5) g2 0 _ (by kernel_rfl) (by kernel_rfl) (by kernel_rfl) (by kernel_rfl) Tryz.underlying3 rfl HKg2.out.nt.2.1 ?_
  refine wval (some 7) (.pointer (some ⟨gh, 1, none⟩)) wz3 (by kernel_rfl) (by kernel_rfl) (by kernel_rfl) ?_
  refine wload (some 8) (.int .i64 t) 3 (.tmp 7) gh 1 _ (by kernel_rfl) (by kernel_rfl) (by kernel_rfl) (by kernel_rfl) Tryz.underlying3 rfl (by rw [HK4.out.cell]; kernel_rfl) ?_
  refine wvalE (some 9) (.bool (decide (x.id = t))) (.bool true) wz3 (by simp [hid]) (by kernel_rfl) (by kernel_rfl) (by kernel_rfl) ?_
  refine wval (some 10) (.bool true) wz3 (by kernel_rfl) (by kernel_rfl) (by kernel_rfl) ?_
  refine wval (some 11) (.pointer (some ⟨g2, 2, none⟩)) wz3 (by kernel_rfl) (by kernel_rfl) (by kernel_rfl) ?_
  refine wload (some 12) (.int .i64 x.peer) 3 (.tmp 11) g2 2 _ (by kernel_rfl) (by kernel_rfl) (by kernel_rfl) (by kernel_rfl) Tryz.underlying3 rfl HKg2.out.nt.2.2.2.1 ?_
  refine wload (some 13) (.int .i64 p) 3 (.tmp 2) gp 0 _ (by kernel_rfl) (by kernel_rfl) (by kernel_rfl) (by kernel_rfl) Tryz.underlying3 rfl (by rw [HK5.out.cell]; kernel_rfl) ?_
  refine wvalE (some 14) (.bool (decide (x.peer = p))) (.bool false) wz3 (by simp [hpe]) (by kernel_rfl) (by kernel_rfl) (by kernel_rfl) ?_
  refine wval (some 15) (.bool false) wz3 (by kernel_rfl) (by kernel_rfl) (by kernel_rfl) ?_
  refine wval (some 4) (.bool false) wz3 (by kernel_rfl) (by kernel_rfl) (by kernel_rfl) ?_
  refine wnil (hKC7 _ _ (?_))
  clear hKC7
  refine wp_ret ?_
  refine bodyPost_ret (v := .bool false) (by kernel_rfl) rfl ⟨rfl, HF6.out⟩
set_option maxRecDepth 100000 in
set_option maxHeartbeats 4000000 in
theorem short_none (p t f nu si U : Nat) (tok : List UInt8) (T : Option Addr) (d : Nat) (B : Option Addr) (bn bc : Nat) (base gd : Nat) (g : GtD) (A : Option Addr) (n c : Nat) (xs : List NtB) (O : Option Addr) (m co : Nat) (ms : List MlB) (hn3 : n ≤ 3) (hnp : ∀ x ∈ xs, ¬ x.peer = (p : Nat)) (w : World) (hV : DkV w base gd g A n c xs O m co ms) :
    Calls Tryz.prog 61 #[.pointer (some ⟨gd, 0, none⟩), .int .i64 (p : Nat), .agg #[.int .i64 (2 : Nat), .int .i64 (t : Nat), .int .i64 (f : Nat), .slice T tok.length d, .int .i64 (nu : Nat), .int .i64 (si : Nat)], .int .i64 (U : Nat), .slice B bn bc] w fun e w' => e = .returned (.int .i64 5) ∧ DkV w' base gd g A n c xs O m co ms ∧ Below w.heap.size w w' := by
  have HV0 := Lib.hid hV
  have HNP := Lib.hid hnp
  have HB0 := Lib.hid (Below.refl w.heap.size w)
  clear hV hnp
  go_enter Tryz.func61, Tryz.ntmps61
  refine wp_seq_k ?_
  intro KC1 hKC1
  refine wp_regionW ?_
  refine wnew (some 6) 3 #[.int .i64 (p : Nat)] (fun q => .pointer (some ⟨q, 0, none⟩)) (by kernel_rfl) (by kernel_rfl) (by kernel_rfl) ?_
  intro wz3 g2 hg2 hBg2 hbg2
  have hlg2 : w.heap.size ≤ g2 := by rw [← hg2]; exact HB0.out.size
  have HF4 := Lib.hid (HV0.out.carry hbg2)
  have HF5 := Lib.hid (HB0.out.trans (hbg2.mono HB0.out.size))
  have HKg2 := Lib.hid hBg2
  clear hBg2 hbg2
  refine wnew (some 7) 61 #[.int .i64 (2 : Nat), .int .i64 (t : Nat), .int .i64 (f : Nat), .slice T tok.length d, .int .i64 (nu : Nat), .int .i64 (si : Nat)] (fun q => .pointer (some ⟨q, 0, none⟩)) (by kernel_rfl) (by kernel_rfl) (by kernel_rfl) ?_
  intro wz7 g6 hg6 hBg6 hbg6
  have hlg6 : w.heap.size ≤ g6 := by rw [← hg6]; exact HF5.out.size
  have HK8 := Lib.hid (HKg2.out.carry hbg6)
  clear HKg2
  have HF9 := Lib.hid (HF4.out.carry hbg6)
  clear HF4
  have HF10 := Lib.hid (HF5.out.trans (hbg6.mono HF5.out.size))
  clear HF5
  have HKg6 := Lib.hid hBg6
  clear hBg6 hbg6
  refine wval (some 10) (.int .i64 0) wz7 (by kernel_rfl) (by kernel_rfl) (by kernel_rfl) ?_
  refine wnil (hKC1 _ _ (?_))
  clear hKC1
  refine wp_seq_k ?_
  intro KC11 hKC11
  refine wp_regionW ?_
  refine wval (some 19) (.pointer (some ⟨gd, 0, none⟩)) wz7 (by kernel_rfl) (by kernel_rfl) (by kernel_rfl) ?_
  refine wval (some 20) (.func (.func 103) #[] #[.pointer (some ⟨g6, 0, none⟩), .pointer (some ⟨g2, 0, none⟩)]) wz7 (by kernel_rfl) (by kernel_rfl) (by kernel_rfl) ?_
  refine wcall (some 21) 95 #[.pointer (some ⟨gd, 0, none⟩), .func (.func 103) #[] #[.pointer (some ⟨g6, 0, none⟩), .pointer (some ⟨g2, 0, none⟩)]] (by kernel_rfl) (by kernel_rfl) (by kernel_rfl) ?_
  refine (note_short (.pointer (some ⟨g6, 0, none⟩)) (.pointer (some ⟨g2, 0, none⟩)) gd A n c xs HF9.out.hn (by have := HF9.out.nt.cap; rw [HF9.out.hn] at this; exact this.1) HF9.out.nt.cap.2 (by omega) (fun _ => false) _ HF9.out.nt.rd (by rw [HF9.out.d.cell]; rfl) HF9.out.d.lt (fun W hW x hx => by by_cases hi : x.id = (t : Nat); exact askShort1 x _ _ _ _ _ _ _ _ _ _ _ hi (HNP.out x hx) W (HKg6.out.carry hW) (HK8.out.carry hW); exact askShort0 x _ _ _ _ _ _ _ _ _ _ _ hi (HNP.out x hx) W (HKg6.out.carry hW) (HK8.out.carry hW))).mono ?_
  rintro e wz12 ⟨hnote, hbc⟩
  subst hnote
  rw [noteAt_none (by simp)]
  refine ⟨_, rfl, ?_⟩
  have HK13 := Lib.hid (HK8.out.carry hbc)
  clear HK8
  have HK14 := Lib.hid (HKg6.out.carry hbc)
  clear HKg6
  have HF15 := Lib.hid (HF9.out.carry hbc)
  clear HF9
  have HF16 := Lib.hid (HF10.out.trans (hbc.mono HF10.out.size))
  clear HF10
  clear hbc
  refine wval (some 11) (.pointer none) wz12 (by kernel_rfl) (by kernel_rfl) (by kernel_rfl) ?_
  refine wnil (hKC11 _ _ (?_))
  clear hKC11
  refine wp_seq_k ?_
  intro KC17 hKC17
  refine wp_seq_k ?_
  intro KC18 hKC18
  refine wp_regionW ?_
  refine wval (some 22) (.pointer none) wz12 (by kernel_rfl) (by kernel_rfl) (by kernel_rfl) ?_
  refine wval (some 23) (.bool true) wz12 (by kernel_rfl) (by kernel_rfl) (by kernel_rfl) ?_
  refine wnil (hKC18 _ _ (?_))
  clear hKC18
  refine wp_cond_true (by kernel_rfl) ?_
  refine wp_seq_k ?_
  intro KC19 hKC19
  refine wp_regionW ?_
  refine wval (some 10) (.int .i64 5) wz12 (by kernel_rfl) (by kernel_rfl) (by kernel_rfl) ?_
  refine wnil (hKC19 _ _ (?_))
  clear hKC19
  refine wp_ret ?_
  refine then_ret ?_
  refine bodyPost_ret (v := .int .i64 5) (by kernel_rfl) rfl ⟨rfl, HF15.out, HF16.out⟩
set_option maxRecDepth 100000 in
set_option maxHeartbeats 8000000 in
theorem hear_short (p : Nat) (hp : p < 4) (t f : Nat) (tok : List UInt8) (U : Nat) (B : Option Addr) (bn bc : Nat) (bs : List UInt8) (hbn : bs.length = bn) (hbc : bn ≤ bc) (hbm : bc ≤ 9223372036854775807) (h400 : bn ≤ 400) (nu si : Nat) (hdc : hdec bs = (⟨2, t, f, tok, nu, si⟩, U, 0))
    (g : GtD) (A : Option Addr) (n c : Nat) (xs : List NtB) (hkf : (g.t p).1 = false) (h1 : (g.t p).2.1 ≤ 1099511627376) (h3 : (g.t p).2.2 ≤ 1099511627376) (tg : Tly) (htg : tg = (false, (g.t p).2.1 + bn, (g.t p).2.2)) (w : World) (hG : GtV w g A n c xs) (hB : RdB w B bs)
    (hnp : ∀ x ∈ xs, ¬ x.peer = (p : Nat)) :
    Calls Tryz.prog 27 #[.agg (gcs g A n c), .int .i64 p, .slice B bn bc] w fun e w' => ∃ (g2 : GtD) (A2 : Option Addr) (n2 c2 : Nat) (ys zs : List NtB) (O2 : Option Addr) (m2 co2 : Nat) (ms2 : List MlB), e = .returned (.tuple #[.agg (gcs g2 A2 n2 c2), .slice O2 m2 co2, .int .i64 5]) ∧ GtV w' g2 A2 n2 c2 ys ∧ ys.map NtB.pl = zs.map NtB.pl ∧ (zs.map NtB.pl = xs.map NtB.pl ∧ g2 = g.set p tg ∧ n2 = n ∧ m2 = 0) ∧ ms2.length = m2 ∧ m2 ≤ co2 ∧ co2 ≤ 9223372036854775807 ∧ MlOwn w' w.heap.size O2 co2 ms2 ∧ OwnX ntc 29 w' w.heap.size 53 A2 c2 ys ∧ Below w.heap.size w w' := by
  have HG := Lib.hid hG
  have HB := Lib.hid hB
  have HBN := Lib.hid hbn
  have HD := Lib.hid hdc
  have HNP := Lib.hid hnp
  have HKF := Lib.hid hkf
  have HTG := Lib.hid htg
  have hok := hG.ok.tl p hp
  have HOK := Lib.hid hok
  have q0 := hG.ok.n0
  have q1 := hG.ok.n1
  have hw1 : (bn : Int) ≤ 400 := by omega
  clear hG hB hbn hdc hnp hkf htg hok
  go_enter Tryz.func27, Tryz.ntmps27
  unfold gcs
  -- [[p1
  go_upto_region 1 with (fail)
  refine wp_world (fun w' => Blk w' w.heap.size 29 (gcs g A n c) ∧ (∃ z, z.size = 18 ∧ Blk w' (w.heap.size + 1) 29 z) ∧ Below w.heap.size w w') ⟨(Blk.new _ _ _).alloc _, ⟨_, rfl, Blk.new1 _ _ _ _⟩, ((Below.refl _ _).alloc (Nat.le_refl _) _).alloc (by simp) _⟩ ?_
  rintro w1 ⟨hA, ⟨z, hz, hZ⟩, hb1⟩
  obtain ⟨qA, hqA⟩ : ∃ q, w.heap.size = q := ⟨_, rfl⟩
  obtain ⟨gR, hgR⟩ : ∃ q, w.heap.size + 1 = q := ⟨_, rfl⟩
  rw [hgR] at hZ ⊢
  rw [hqA] at hA ⊢
  have HA1 := Lib.hid hA
  have HZ1 := Lib.hid hZ
  have HB1 := Lib.hid hb1
  have hqr : w.heap.size ≤ gR := by omega
  clear hA hZ hb1 hqA hgR
  go_wp2_with (refine wpList_loadR rfl 29 (.tmp 3) rfl qA 0 rfl (gcs g A n c) _ Tryz.underlying29 rfl (by kernel_rfl) HA1.out.whole ?_)
  refine (gateCheck_ok g A n c xs _ (HG.out.below HB1.out)).mono ?_
  rintro e w2 ⟨rfl, hb2⟩
  have HA2 := Lib.hid (HA1.out.carry hb2)
  have HZ2 := Lib.hid (HZ1.out.carry hb2)
  have HB2 := Lib.hid (HB1.out.trans (hb2.mono HB1.out.size))
  clear hb2 HA1 HZ1 HB1
  go_wp2_with (refine wpList_loadR rfl 29 (.tmp 3) rfl qA 0 rfl (gcs g A n c) _ Tryz.underlying29 rfl (by kernel_rfl) HA2.out.whole ?_)
  refine (gateFresh_ok g A n c xs _ (HG.out.below HB2.out)).mono ?_
  rintro e w3 ⟨A1, c1, xs1, rfl, hO, hV, hpl, hb3⟩
  have HZ3 := Lib.hid (HZ2.out.carry hb3)
  have HB3 := Lib.hid (HB2.out.trans (hb3.mono HB2.out.size))
  have HO := Lib.hid (hO.mono (base' := gR + 1) (by have := HZ2.out.lt; omega))
  have HPL := Lib.hid hpl
  have HBG := Lib.hid (show ∀ y ∈ xs1, BgR y.cs y.last from fun y hy => (hV.ok.nts y hy).r)
  have HN1 := Lib.hid hV.hn
  clear hb3 hO hV hpl HA2 HZ2 HB2
  unfold gcs
  go_upto_region 9 with (fail)
  obtain ⟨gd, hgd⟩ : ∃ q, w3.heap.size = q := ⟨_, rfl⟩
  refine wp_world (fun w' => DkV w' (gR + 1) gd g A1 n c1 xs1 none 0 0 [] ∧ Blk w' gR 29 z ∧ Below w.heap.size w w')
    ⟨⟨HN1.out, rfl, by have := HZ3.out.lt; omega, Blk.newF hgd, HO.out.alloc _, OwnX.nil _ _ _, fun x hx => absurd hx List.not_mem_nil⟩, HZ3.out.alloc _, HB3.out.alloc HB3.out.size _⟩ ?_
  rw [hgd]
  clear hgd HZ3 HB3 HO HN1
  rintro w4 ⟨hV, hZ, hb⟩
  have HV4 := Lib.hid hV
  have HZ4 := Lib.hid hZ
  have HB4 := Lib.hid hb
  have hgl := hV.d.lt
  clear hV hZ hb
  have HGT := Lib.hid (fun W => tallyGot_f (g.t p).2.1 (g.t p).2.2 bn HOK.out.1.1 h1 HOK.out.2.1.1 h3 (HOK.out.2.2 HKF.out) (by omega) (by omega) W)
  have h4 : (p : Int) < 4 := by omega
  have h0 : (0 : Int) ≤ (p : Int) := by omega
  -- [[p2
  go_wp2_with (refine wpList_loadR rfl 26 (.tmp 42) rfl gd (4 + p * 3) rfl (tl3 (g.t p)) _ Tryz.underlying26 rfl (by kernel_rfl) (tly_at HV4.out.d p hp) ?_)
  unfold tl3
  rw [HKF.out]
  refine (HGT.out _).mono ?_
  rintro e w5 ⟨rfl, hb5⟩
  have HV5 := Lib.hid (HV4.out.carry hb5)
  have HZ5 := Lib.hid (HZ4.out.carry hb5)
  have HB5 := Lib.hid (HB4.out.trans (hb5.mono HB4.out.size))
  have hgl5 := HV5.out.d.lt
  clear hb5 HV4 HZ4 HB4
  go_upto_region 12 with (fail)
  obtain ⟨gT, hgT⟩ : ∃ q, w5.heap.size = q := ⟨_, rfl⟩
  refine wp_world (fun w' => Blk w' gT 26 (tl3 tg) ∧ DkV w' (gR + 1) gd g A1 n c1 xs1 none 0 0 [] ∧ Blk w' gR 29 z ∧ Below w.heap.size w w') ⟨by rw [HTG.out]; exact Blk.newF hgT, HV5.out.carry ((Below.refl _ _).alloc (Nat.le_refl _) _), HZ5.out.alloc _, HB5.out.alloc HB5.out.size _⟩ ?_
  try rw [hgT]
  clear hgT HV5 HZ5 HB5 hgl5
  rintro w6 ⟨hT, hV, hZ, hb⟩
  have HT6 := Lib.hid hT
  have HV6 := Lib.hid hV
  have HZ6 := Lib.hid hZ
  have HB6 := Lib.hid hb
  clear hT hV hZ hb
  -- [[p3
  refine wp_flow (fun k => decide (k < 7)) (fun k => false) 102 [0, 1, 2, 3, 4, 5, 6] (fun w' => Below w6.heap.size w6 w') (fun k a v w' => True) (by kernel_rfl) ?hflB ?hpuB ?hksB (fun _ _ _ _ _ h => h) rfl ?hst ?hC ?_
  case hflB => kernel_rfl
  case hpuB => kernel_rfl
  case hksB => kernel_rfl
  case hst => exact ⟨fun w0 w1 h1 hb => h1.trans (hb.mono h1.size), fun k a v w0 w1 hW hb => hW, fun k a b v w0 _ h => h⟩
  case hC => exact (Below.refl _ _).drew
  refine fq 54 (.pointer (some ⟨gd, 0, none⟩)) (by kernel_rfl) (by kernel_rfl) (by kernel_rfl) (by kernel_rfl) (fun w => (by kernel_rfl)) ?_
  refine fq 55 (.int .i64 p) (by kernel_rfl) (by kernel_rfl) (by kernel_rfl) (by kernel_rfl) (fun w => (by kernel_rfl)) ?_
  refine fqR 56 (tl3 tg) 26 (.tmp 11) gT 0 _ (by kernel_rfl) (by kernel_rfl) (by kernel_rfl) (by kernel_rfl) (by kernel_rfl) (by kernel_rfl) Tryz.underlying26 rfl (by kernel_rfl) (fun w hw => (HT6.out.carry hw.1).whole) ?_
  refine fq 57 (.pointer (some ⟨gd, 0, none⟩)) (by kernel_rfl) (by kernel_rfl) (by kernel_rfl) (by kernel_rfl) (fun w => (by kernel_rfl)) ?_
  refine fq 58 (.pointer (some ⟨gd, 0, none⟩)) (by kernel_rfl) (by kernel_rfl) (by kernel_rfl) (by kernel_rfl) (fun w => (by kernel_rfl)) ?_
  refine fq 59 (.pointer (some ⟨gd, 4, none⟩)) (by kernel_rfl) (by kernel_rfl) (by kernel_rfl) (by kernel_rfl) (fun w => (by kernel_rfl)) ?_
  refine fidxA 60 27 (.tmp 59) (.tmp 55) gd 4 4 .i64 (p : Nat) 3 (4 + p * 3) (by kernel_rfl) (by kernel_rfl) (by kernel_rfl) (by kernel_rfl) (by kernel_rfl) (by kernel_rfl) (by kernel_rfl) (by kernel_rfl) (fun w => (by kernel_rfl)) (by kernel_rfl) (by omega) (by omega) (by simp) ?_
  refine fend [7] (by kernel_rfl) (by kernel_rfl) ?_
  intro w10 hw10 _
  refine tstoreP (by kernel_rfl) (by kernel_rfl) 26 (.tmp 60) (.tmp 56) (by kernel_rfl) gd (4 + p * 3) (by kernel_rfl) (tl3 tg) (by kernel_rfl) 133 _ (HV6.out.d.carry hw10) (by kernel_rfl) (by simp [dkc, tl3]; omega) (tl3_one _) _ (tly_put g A1 n c1 none 0 0 p hp tg) ?_
  intro w11 hB11 hw11
  refine tend ?_
  go_simp
  refine (show ∀ (a : Act) (w : World), Code.wp _ _ _ a w → _ from by assumption) _ _ ?_
  refine wp_world (fun w' => DkV w' (gR + 1) gd (g.set p tg) A1 n c1 xs1 none 0 0 [] ∧ Blk w' gR 29 z ∧ Below w.heap.size w w') ⟨(HV6.out.carry hw10).wr (g' := g.set p tg) hB11 hw11, (HZ6.out.carry hw10).wr hw11 (Blk.ne (HZ6.out.carry hw10) (HV6.out.d.carry hw10) (by decide)), hw11.trans_below (HB6.out.trans (hw10.mono HB6.out.size)) (by have := HV6.out.hg; omega)⟩ ?_
  clear hw10 hw11 hB11 HT6 HV6 HZ6 HB6
  rintro w7 ⟨hV, hZ, hb⟩
  have HV7 := Lib.hid hV
  have HZ7 := Lib.hid hZ
  have HB7 := Lib.hid hb
  clear hV hZ hb
  have HDEC := hDec_any B bs bn bc w7 HBN.out (HB.out.below HB7.out) hbc hbm
  rw [HD.out] at HDEC
  have HDEC := Lib.hid HDEC
  go_wp2_with fail
  refine HDEC.out.mono ?_
  rintro e w8 ⟨T, d, rfl, hT, hTd, hTm, hb8⟩
  simp only at hT hTd
  simp only [hcells]
  have HV8 := Lib.hid (HV7.out.carry hb8)
  have HZ8 := Lib.hid (HZ7.out.carry hb8)
  have HB8 := Lib.hid (HB7.out.trans (hb8.mono HB7.out.size))
  have HT8 := Lib.hid hT
  clear hb8 HV7 HZ7 HB7 HDEC hT
  go_upto_region 15 with (fail)
  obtain ⟨gH, hgH⟩ : ∃ q, w8.heap.size = q := ⟨_, rfl⟩
  refine wp_world (fun w' => Blk w' gH 61 #[.int .i64 (2 : Nat), .int .i64 (t : Nat), .int .i64 (f : Nat), .slice T tok.length d, .int .i64 (nu : Nat), .int .i64 (si : Nat)] ∧ RdB w' T tok ∧ DkV w' (gR + 1) gd (g.set p tg) A1 n c1 xs1 none 0 0 [] ∧ Blk w' gR 29 z ∧ Below w.heap.size w w') ⟨Blk.newF hgH, HT8.out.below ((Below.refl _ _).alloc (Nat.le_refl _) _), HV8.out.carry ((Below.refl _ _).alloc (Nat.le_refl _) _), HZ8.out.alloc _, HB8.out.alloc HB8.out.size _⟩ ?_
  try rw [hgH]
  clear hgH HV8 HZ8 HB8 HT8
  rintro w8 ⟨hH, hT, hV, hZ, hb⟩
  have HH8 := Lib.hid hH
  have HT8 := Lib.hid hT
  have HV8 := Lib.hid hV
  have HZ8 := Lib.hid hZ
  have HB8 := Lib.hid hb
  have k0 : w8.cell? ⟨gH, 0, none⟩ = some (.int .i64 (2 : Nat)) := by rw [hH.cell]; rfl
  have hHl := hH.lt
  clear hH hT hV hZ hb
  -- [[p4
  go_wp2_with (refine wpList_loadR rfl 61 (.tmp 13) rfl gH 0 rfl #[.int .i64 (2 : Nat), .int .i64 (t : Nat), .int .i64 (f : Nat), .slice T tok.length d, .int .i64 (nu : Nat), .int .i64 (si : Nat)] _ Tryz.underlying61 rfl (by kernel_rfl) HH8.out.whole ?_)
  have HNP1 : ∀ x ∈ xs1, ¬ x.peer = (p : Nat) := fun x hx => by
    have h1 : x.pl ∈ xs.map NtB.pl := by rw [← HPL.out]; exact List.mem_map_of_mem hx
    obtain ⟨y, hy, e⟩ := List.mem_map.1 h1
    have := (pl_eq e).2.2.1
    rw [← this]; exact HNP.out y hy
  have hn3 : n ≤ 3 := by have := HG.out.ok.few; rw [HG.out.hn] at this; exact this
  refine (short_none p t f nu si U tok T d B bn bc (gR + 1) gd (g.set p tg) A1 n c1 xs1 none 0 0 [] hn3 HNP1 w8 HV8.out).mono ?_
  rintro e w9 ⟨rfl, hV9, hb9⟩
  obtain ⟨g2, A2, n2, c2, zs, O2, m2, co2, ms2, hg2, hn2, hz2, hm2, hV9⟩ : ∃ (g2 : GtD) (A2 : Option Addr) (n2 c2 : Nat) (zs : List NtB) (O2 : Option Addr) (m2 co2 : Nat) (ms2 : List MlB), g2 = g.set p tg ∧ n2 = n ∧ zs = xs1 ∧ m2 = 0 ∧ DkV w9 (gR + 1) gd g2 A2 n2 c2 zs O2 m2 co2 ms2 := ⟨_, _, _, _, _, _, _, _, _, rfl, rfl, rfl, rfl, hV9⟩
  have hgo : GOk g2 zs := by rw [hg2, hz2]; exact HG.out.ok.tly p tg (by rw [HTG.out]; exact ⟨⟨by have := HOK.out.1.1; simp only; omega, by simp only; omega⟩, HOK.out.2.1, fun _ => by have := HOK.out.2.2 HKF.out; simp only; omega⟩) HPL.out HBG.out
  have hzn : zs.length = n2 := hV9.hn
  have hp9 : zs.map NtB.pl = xs.map NtB.pl ∧ g2 = g.set p tg ∧ n2 = n ∧ m2 = 0 := ⟨by rw [hz2]; exact HPL.out, hg2, hn2, hm2⟩
  clear hg2 hn2 hz2 hm2
  have HZ9 := Lib.hid (HZ8.out.carry hb9)
  have HB9 := Lib.hid (HB8.out.trans (hb9.mono HB8.out.size))
  have HV9 := Lib.hid hV9
  have HP9 := Lib.hid hp9
  have HGO := Lib.hid hgo
  have hz3 : n2 ≤ 3 := by have := hgo.few; omega
  have m0 := hgo.n0
  have m1 := hgo.n1
  clear hb9 hV9 hp9 hgo HH8 HT8 HV8 HZ8 HB8 k0 hHl
  go_wp2_with fail
  refine (flush_beg (gR + 1) gd g2 A2 n2 c2 zs O2 m2 co2 ms2 w9 HV9.out (by have := HZ9.out.lt; omega) hz3 (fun x hx => (HGO.out.nts x hx).r) m0 m1).mono ?_
  rintro e w10 ⟨rfl, ⟨A2, c2, hV10⟩, hb10⟩
  have HR9 := Lib.hid (HZ9.out.und hb10 (by omega))
  have HB10 := Lib.hid (HB9.out.trans (hb10.mono (by omega)))
  have HV9 := Lib.hid hV10
  have hrl := HR9.out.lt
  clear hb10 hV10 HZ9 HB9
  go_upto_region 21 with (fail)
  obtain ⟨w9, hw9⟩ : ∃ w9, w10 = w9 := ⟨_, rfl⟩
  subst hw9
  have f18 : w10.cell? ⟨gd, 18, none⟩ = some (.slice O2 m2 co2) := by rw [HV9.out.d.cell]; rfl
  -- [[p5
  have HST := Lib.hid (show ∀ w0 w1, Below w0.heap.size w0 w1 → Stays (fun w' => DkV w' (gR + 1) gd g2 A2 n2 c2 zs O2 m2 co2 ms2 ∧ (∃ z, z.size = 18 ∧ Blk w' gR 29 z) ∧ Below w.heap.size w w') (fun k v w' => (k = 4 → ∃ A3 c3 ys, v = .agg (gcs g2 A3 n2 c3) ∧ OwnX ntc 29 w' (gR + 1) 53 A3 c3 ys ∧ ys.length = n2 ∧ GOk g2 ys ∧ ys.map NtB.pl = zs.map NtB.pl) ∧ (k = 10 → ∃ A3 c3 ys, Blk w' gR 29 (gcs g2 A3 n2 c3) ∧ OwnX ntc 29 w' (gR + 1) 53 A3 c3 ys ∧ ys.length = n2 ∧ GOk g2 ys ∧ ys.map NtB.pl = zs.map NtB.pl)) w0 w1 from fun w0 w1 hb => ⟨fun h1 => by obtain ⟨h1, ⟨z, hz, hZ⟩, h3⟩ := h1; exact ⟨h1.carry hb, ⟨z, hz, hZ.carry hb⟩, h3.trans (hb.mono h3.size)⟩, fun k v hW => ⟨fun e => (fun hp => by obtain ⟨A3, c3, ys, e1, e2, e3⟩ := hp; exact ⟨A3, c3, ys, e1, e2.carry hb, e3⟩) (hW.1 e), fun e => (fun hp => by obtain ⟨A3, c3, ys, e1, e2, e3⟩ := hp; exact ⟨A3, c3, ys, e1.carry hb, e2.carry hb, e3⟩) (hW.2 e)⟩⟩)
  refine wp_flowS (fun k => decide (k < 11)) (fun k => k == 4 || k == 10) 102 [0, 1, 2, 3, 4, 5, 6, 7, 8, 9, 10] (fun w' => DkV w' (gR + 1) gd g2 A2 n2 c2 zs O2 m2 co2 ms2 ∧ (∃ z, z.size = 18 ∧ Blk w' gR 29 z) ∧ Below w.heap.size w w') (fun k v w' => (k = 4 → ∃ A3 c3 ys, v = .agg (gcs g2 A3 n2 c3) ∧ OwnX ntc 29 w' (gR + 1) 53 A3 c3 ys ∧ ys.length = n2 ∧ GOk g2 ys ∧ ys.map NtB.pl = zs.map NtB.pl) ∧ (k = 10 → ∃ A3 c3 ys, Blk w' gR 29 (gcs g2 A3 n2 c3) ∧ OwnX ntc 29 w' (gR + 1) 53 A3 c3 ys ∧ ys.length = n2 ∧ GOk g2 ys ∧ ys.map NtB.pl = zs.map NtB.pl)) (by kernel_rfl) ?hflB ?hpuB ?hksB (fun _ _ _ _ _ h => h) rfl ?hC ?_
  case hflB => kernel_rfl
  case hpuB => kernel_rfl
  case hksB => kernel_rfl
  case hC => exact ⟨HV9.out.carry (Below.refl _ _).drew, ⟨z, hz, HR9.out.carry (Below.refl _ _).drew⟩, HB10.out.trans ((Below.refl _ _).drew)⟩
  refine fq 92 (.pointer (some ⟨gd, 0, none⟩)) (by kernel_rfl) (by kernel_rfl) (by kernel_rfl) (by kernel_rfl) (fun w => (by kernel_rfl)) ?_
  refine fq 93 (.pointer (some ⟨gd, 0, none⟩)) (by kernel_rfl) (by kernel_rfl) (by kernel_rfl) (by kernel_rfl) (fun w => (by kernel_rfl)) ?_
  refine fq 94 (.pointer (some ⟨gd, 0, none⟩)) (by kernel_rfl) (by kernel_rfl) (by kernel_rfl) (by kernel_rfl) (fun w => (by kernel_rfl)) ?_
  refine fqR 95 (gcs g2 A2 n2 c2) 29 (.tmp 94) gd 0 _ (by kernel_rfl) (by kernel_rfl) (by kernel_rfl) (by kernel_rfl) (by kernel_rfl) (by kernel_rfl) Tryz.underlying29 rfl (by kernel_rfl) (fun w hw => hw.1.1.d.part 0 _ (gcs_part _ _ _ _ _ _ _)) ?_
  refine fcall 96 58 #[.agg (gcs g2 A2 n2 c2)] (by kernel_rfl) (by kernel_rfl) (by kernel_rfl) (by kernel_rfl) (fun w => (by kernel_rfl)) (fun w hw => (gateFresh_ok g2 A2 n2 c2 zs w ⟨hzn, by have := hw.1.1.nt.cap; rw [hzn] at this; exact this.1, hw.1.1.nt.cap.2, HGO.out, hw.1.1.nt.rd⟩).mono ?hx4_96) ?_
  case hx4_96 =>
    rintro e w' ⟨A3, c3, ys, rfl, hO, hV, hpl, hb⟩
    exact ⟨_, rfl, ⟨fun _ => ⟨A3, c3, ys, rfl, hO.mono (by obtain ⟨z, _, hZ⟩ := hw.1.2.1; have := hZ.lt; omega), hV.hn, hV.ok, hpl⟩, fun e => absurd e (by decide)⟩, (HST.out _ _ (hb)).1 hw.1, HST.out _ _ (hb)⟩
  rintro v ⟨w', hw', hW⟩
  obtain ⟨A3, c3, ys0, rfl, h4, h5⟩ := hW.1 rfl
  clear h4 h5 ys0 hW hw' w'
  refine fq 97 (.pointer (some ⟨gd, 0, none⟩)) (by kernel_rfl) (by kernel_rfl) (by kernel_rfl) (by kernel_rfl) (fun w => (by kernel_rfl)) ?_
  refine fq 98 (.pointer (some ⟨gd, 0, none⟩)) (by kernel_rfl) (by kernel_rfl) (by kernel_rfl) (by kernel_rfl) (fun w => (by kernel_rfl)) ?_
  refine fq 99 (.pointer (some ⟨gd, 18, none⟩)) (by kernel_rfl) (by kernel_rfl) (by kernel_rfl) (by kernel_rfl) (fun w => (by kernel_rfl)) ?_
  refine fq1 100 (.slice O2 m2 co2) 71 (.tmp 99) gd 18 _ (by kernel_rfl) (by kernel_rfl) (by kernel_rfl) (by kernel_rfl) (by kernel_rfl) (by kernel_rfl) Tryz.underlying71 rfl (fun w hw => by rw [hw.1.1.d.cell]; rfl) ?_
  refine fq 101 (.int .i64 5) (by kernel_rfl) (by kernel_rfl) (by kernel_rfl) (by kernel_rfl) (fun w => (by kernel_rfl)) ?_
  refine fstoreP (by kernel_rfl) (by kernel_rfl) (by kernel_rfl) (by kernel_rfl) 29 (.tmp 6) (.tmp 96) (by kernel_rfl) gR 0 (by kernel_rfl) (gcs g2 A3 n2 c3) (by kernel_rfl) 29 (by kernel_rfl) (gcs_one _ _ _ _) (fun W hw => ?hst10) ?_
  case hst10 =>
    obtain ⟨⟨hV, ⟨z, hz, hZ⟩, hb⟩, hfs⟩ := hw
    obtain ⟨A4, c4, ys, e2, hON, hg3⟩ := (hfs _ List.mem_cons_self (by kernel_rfl)).1 rfl
    obtain ⟨rfl, rfl⟩ : A3 = A4 ∧ c3 = c4 := by injection e2 with e2; simpa [gcs] using e2
    refine ⟨z, hZ, by simp [gcs, hz], fun w' hB' hw' => ?_⟩
    have hB' := hB'.as (splice_all _ _ (by simp [gcs, hz]))
    have hC' : DkV w' (gR + 1) gd g2 A2 n2 c2 zs O2 m2 co2 ms2 ∧ (∃ z, z.size = 18 ∧ Blk w' gR 29 z) ∧ Below w.heap.size w w' := ⟨hV.wrG hw' hZ, ⟨_, rfl, hB'⟩, hw'.trans_below hb hqr⟩
    have hO' := hON.wr hw' (own_ne hON hZ (by decide))
    exact ⟨⟨fun e => absurd e (by decide), fun _ => ⟨A3, c3, ys, hB', hO', hg3⟩⟩, hC', ⟨fun _ => hC', fun k v hv => ⟨fun e => by obtain ⟨A5, c5, ys5, e5, hO5, hg5⟩ := hv.1 e; exact ⟨A5, c5, ys5, e5, hO5.wr hw' (own_ne hO5 hZ (by decide)), hg5⟩, fun _ => ⟨A3, c3, ys, hB', hO', hg3⟩⟩⟩⟩
  rintro v -
  refine fend [11, 12] (by kernel_rfl) (by kernel_rfl) ?_
  intro w12 hw12 hF
  obtain ⟨A4, c4, ys, hR, hON, hyn, hyg, hpl⟩ := (hF _ List.mem_cons_self).2 rfl
  clear hF
  refine tval (some 7) (.slice O2 m2 co2) w12 (by kernel_rfl) (by kernel_rfl) (by kernel_rfl) ?_
  refine tval (some 8) (.int .i64 5) w12 (by kernel_rfl) (by kernel_rfl) (by kernel_rfl) ?_
  refine tend ?_
  go_simp
  refine (show ∀ (a : Act) (w : World), Code.wp _ _ _ a w → _ from by assumption) _ _ ?_
  have hcap := hON.cap
  rw [hyn] at hcap
  have hmc := hw12.1.ml.cap
  have hmm := hw12.1.hm
  rw [hmm] at hmc
  have HMC := Lib.hid hmc
  have HMM := Lib.hid hmm
  have HPL := Lib.hid hpl
  refine wp_world (fun w' => Blk w' gR 29 (gcs g2 A4 n2 c4) ∧ GtV w' g2 A4 n2 c4 ys ∧ MlOwn w' w.heap.size O2 co2 ms2 ∧ OwnX ntc 29 w' w.heap.size 53 A4 c4 ys ∧ Below w.heap.size w w') ⟨hR, ⟨hyn, hcap.1, hcap.2, hyg, hON.rd⟩, ⟨hw12.1.ml.mono (by omega), hw12.1.dat⟩, hON.mono (by omega), hw12.2.2⟩ ?_
  clear hR hON hyg hw12 HV9 HR9 HB10 f18 hmc hmm hcap HST hpl
  rintro w14 ⟨hR, hGV, hML, hON, hb⟩
  have HON := Lib.hid hON
  clear hON
  have HGV := Lib.hid hGV
  have HML := Lib.hid hML
  have HB := Lib.hid hb
  clear hGV hML hb
  go_wp2_with fail
  exact bodyPost_ret (results_c3 _ _ gR _ (gcs g2 A4 n2 c4) _ Tryz.results27 rfl hR Tryz.underlying29 rfl (by kernel_rfl) rfl rfl) rfl ⟨g2, A4, n2, c4, ys, zs, O2, m2, co2, ms2, rfl, HGV.out, HPL.out, HP9.out, HMM.out, HMC.out.1, HMC.out.2, HML.out, HON.out, HB.out⟩
  -- ]]p5
  -- ]]p4
  -- ]]p3
  -- ]]p2
  -- ]]p1
set_option maxRecDepth 100000 in
set_option maxHeartbeats 8000000 in
theorem hear_bad (p : Nat) (hp : p < 4) (hd : HeadD) (U : Nat) (E : Int) (hE : ¬ E = 0) (B : Option Addr) (bn bc : Nat) (bs : List UInt8) (hbn : bs.length = bn) (hbc : bn ≤ bc) (hbm : bc ≤ 9223372036854775807) (h400 : bn ≤ 400) (hdc : hdec bs = (hd, U, E))
    (g : GtD) (A : Option Addr) (n c : Nat) (xs : List NtB) (hkf : (g.t p).1 = false) (h1 : (g.t p).2.1 ≤ 1099511627376) (h3 : (g.t p).2.2 ≤ 1099511627376) (tg : Tly) (htg : tg = (false, (g.t p).2.1 + bn, (g.t p).2.2)) (w : World) (hG : GtV w g A n c xs) (hB : RdB w B bs)
    :
    Calls Tryz.prog 27 #[.agg (gcs g A n c), .int .i64 p, .slice B bn bc] w fun e w' => ∃ (g2 : GtD) (A2 : Option Addr) (n2 c2 : Nat) (ys zs : List NtB) (O2 : Option Addr) (m2 co2 : Nat) (ms2 : List MlB), e = .returned (.tuple #[.agg (gcs g2 A2 n2 c2), .slice O2 m2 co2, .int .i64 E]) ∧ GtV w' g2 A2 n2 c2 ys ∧ ys.map NtB.pl = zs.map NtB.pl ∧ (zs.map NtB.pl = xs.map NtB.pl ∧ g2 = g.set p tg ∧ n2 = n ∧ m2 = 0) ∧ ms2.length = m2 ∧ m2 ≤ co2 ∧ co2 ≤ 9223372036854775807 ∧ MlOwn w' w.heap.size O2 co2 ms2 ∧ OwnX ntc 29 w' w.heap.size 53 A2 c2 ys ∧ Below w.heap.size w w' := by
  have HG := Lib.hid hG
  have HB := Lib.hid hB
  have HBN := Lib.hid hbn
  have HD := Lib.hid hdc
  have HKF := Lib.hid hkf
  have HTG := Lib.hid htg
  have hok := hG.ok.tl p hp
  have HOK := Lib.hid hok
  have q0 := hG.ok.n0
  have q1 := hG.ok.n1
  have hw1 : (bn : Int) ≤ 400 := by omega
  clear hG hB hbn hdc hkf htg hok
  go_enter Tryz.func27, Tryz.ntmps27
  unfold gcs
  -- [[p1
  go_upto_region 1 with (fail)
  refine wp_world (fun w' => Blk w' w.heap.size 29 (gcs g A n c) ∧ (∃ z, z.size = 18 ∧ Blk w' (w.heap.size + 1) 29 z) ∧ Below w.heap.size w w') ⟨(Blk.new _ _ _).alloc _, ⟨_, rfl, Blk.new1 _ _ _ _⟩, ((Below.refl _ _).alloc (Nat.le_refl _) _).alloc (by simp) _⟩ ?_
  rintro w1 ⟨hA, ⟨z, hz, hZ⟩, hb1⟩
  obtain ⟨qA, hqA⟩ : ∃ q, w.heap.size = q := ⟨_, rfl⟩
  obtain ⟨gR, hgR⟩ : ∃ q, w.heap.size + 1 = q := ⟨_, rfl⟩
  rw [hgR] at hZ ⊢
  rw [hqA] at hA ⊢
  have HA1 := Lib.hid hA
  have HZ1 := Lib.hid hZ
  have HB1 := Lib.hid hb1
  have hqr : w.heap.size ≤ gR := by omega
  clear hA hZ hb1 hqA hgR
  go_wp2_with (refine wpList_loadR rfl 29 (.tmp 3) rfl qA 0 rfl (gcs g A n c) _ Tryz.underlying29 rfl (by kernel_rfl) HA1.out.whole ?_)
  refine (gateCheck_ok g A n c xs _ (HG.out.below HB1.out)).mono ?_
  rintro e w2 ⟨rfl, hb2⟩
  have HA2 := Lib.hid (HA1.out.carry hb2)
  have HZ2 := Lib.hid (HZ1.out.carry hb2)
  have HB2 := Lib.hid (HB1.out.trans (hb2.mono HB1.out.size))
  clear hb2 HA1 HZ1 HB1
  go_wp2_with (refine wpList_loadR rfl 29 (.tmp 3) rfl qA 0 rfl (gcs g A n c) _ Tryz.underlying29 rfl (by kernel_rfl) HA2.out.whole ?_)
  refine (gateFresh_ok g A n c xs _ (HG.out.below HB2.out)).mono ?_
  rintro e w3 ⟨A1, c1, xs1, rfl, hO, hV, hpl, hb3⟩
  have HZ3 := Lib.hid (HZ2.out.carry hb3)
  have HB3 := Lib.hid (HB2.out.trans (hb3.mono HB2.out.size))
  have HO := Lib.hid (hO.mono (base' := gR + 1) (by have := HZ2.out.lt; omega))
  have HPL := Lib.hid hpl
  have HBG := Lib.hid (show ∀ y ∈ xs1, BgR y.cs y.last from fun y hy => (hV.ok.nts y hy).r)
  have HN1 := Lib.hid hV.hn
  clear hb3 hO hV hpl HA2 HZ2 HB2
  unfold gcs
  go_upto_region 9 with (fail)
  obtain ⟨gd, hgd⟩ : ∃ q, w3.heap.size = q := ⟨_, rfl⟩
  refine wp_world (fun w' => DkV w' (gR + 1) gd g A1 n c1 xs1 none 0 0 [] ∧ Blk w' gR 29 z ∧ Below w.heap.size w w')
    ⟨⟨HN1.out, rfl, by have := HZ3.out.lt; omega, Blk.newF hgd, HO.out.alloc _, OwnX.nil _ _ _, fun x hx => absurd hx List.not_mem_nil⟩, HZ3.out.alloc _, HB3.out.alloc HB3.out.size _⟩ ?_
  rw [hgd]
  clear hgd HZ3 HB3 HO HN1
  rintro w4 ⟨hV, hZ, hb⟩
  have HV4 := Lib.hid hV
  have HZ4 := Lib.hid hZ
  have HB4 := Lib.hid hb
  have hgl := hV.d.lt
  clear hV hZ hb
  have HGT := Lib.hid (fun W => tallyGot_f (g.t p).2.1 (g.t p).2.2 bn HOK.out.1.1 h1 HOK.out.2.1.1 h3 (HOK.out.2.2 HKF.out) (by omega) (by omega) W)
  have h4 : (p : Int) < 4 := by omega
  have h0 : (0 : Int) ≤ (p : Int) := by omega
  -- [[p2
  go_wp2_with (refine wpList_loadR rfl 26 (.tmp 42) rfl gd (4 + p * 3) rfl (tl3 (g.t p)) _ Tryz.underlying26 rfl (by kernel_rfl) (tly_at HV4.out.d p hp) ?_)
  unfold tl3
  rw [HKF.out]
  refine (HGT.out _).mono ?_
  rintro e w5 ⟨rfl, hb5⟩
  have HV5 := Lib.hid (HV4.out.carry hb5)
  have HZ5 := Lib.hid (HZ4.out.carry hb5)
  have HB5 := Lib.hid (HB4.out.trans (hb5.mono HB4.out.size))
  have hgl5 := HV5.out.d.lt
  clear hb5 HV4 HZ4 HB4
  go_upto_region 12 with (fail)
  obtain ⟨gT, hgT⟩ : ∃ q, w5.heap.size = q := ⟨_, rfl⟩
  refine wp_world (fun w' => Blk w' gT 26 (tl3 tg) ∧ DkV w' (gR + 1) gd g A1 n c1 xs1 none 0 0 [] ∧ Blk w' gR 29 z ∧ Below w.heap.size w w') ⟨by rw [HTG.out]; exact Blk.newF hgT, HV5.out.carry ((Below.refl _ _).alloc (Nat.le_refl _) _), HZ5.out.alloc _, HB5.out.alloc HB5.out.size _⟩ ?_
  try rw [hgT]
  clear hgT HV5 HZ5 HB5 hgl5
  rintro w6 ⟨hT, hV, hZ, hb⟩
  have HT6 := Lib.hid hT
  have HV6 := Lib.hid hV
  have HZ6 := Lib.hid hZ
  have HB6 := Lib.hid hb
  clear hT hV hZ hb
  -- [[p3
  refine wp_flow (fun k => decide (k < 7)) (fun k => false) 102 [0, 1, 2, 3, 4, 5, 6] (fun w' => Below w6.heap.size w6 w') (fun k a v w' => True) (by kernel_rfl) ?hflB ?hpuB ?hksB (fun _ _ _ _ _ h => h) rfl ?hst ?hC ?_
  case hflB => kernel_rfl
  case hpuB => kernel_rfl
  case hksB => kernel_rfl
  case hst => exact ⟨fun w0 w1 h1 hb => h1.trans (hb.mono h1.size), fun k a v w0 w1 hW hb => hW, fun k a b v w0 _ h => h⟩
  case hC => exact (Below.refl _ _).drew
  refine fq 54 (.pointer (some ⟨gd, 0, none⟩)) (by kernel_rfl) (by kernel_rfl) (by kernel_rfl) (by kernel_rfl) (fun w => (by kernel_rfl)) ?_
  refine fq 55 (.int .i64 p) (by kernel_rfl) (by kernel_rfl) (by kernel_rfl) (by kernel_rfl) (fun w => (by kernel_rfl)) ?_
  refine fqR 56 (tl3 tg) 26 (.tmp 11) gT 0 _ (by kernel_rfl) (by kernel_rfl) (by kernel_rfl) (by kernel_rfl) (by kernel_rfl) (by kernel_rfl) Tryz.underlying26 rfl (by kernel_rfl) (fun w hw => (HT6.out.carry hw.1).whole) ?_
  refine fq 57 (.pointer (some ⟨gd, 0, none⟩)) (by kernel_rfl) (by kernel_rfl) (by kernel_rfl) (by kernel_rfl) (fun w => (by kernel_rfl)) ?_
  refine fq 58 (.pointer (some ⟨gd, 0, none⟩)) (by kernel_rfl) (by kernel_rfl) (by kernel_rfl) (by kernel_rfl) (fun w => (by kernel_rfl)) ?_
  refine fq 59 (.pointer (some ⟨gd, 4, none⟩)) (by kernel_rfl) (by kernel_rfl) (by kernel_rfl) (by kernel_rfl) (fun w => (by kernel_rfl)) ?_
  refine fidxA 60 27 (.tmp 59) (.tmp 55) gd 4 4 .i64 (p : Nat) 3 (4 + p * 3) (by kernel_rfl) (by kernel_rfl) (by kernel_rfl) (by kernel_rfl) (by kernel_rfl) (by kernel_rfl) (by kernel_rfl) (by kernel_rfl) (fun w => (by kernel_rfl)) (by kernel_rfl) (by omega) (by omega) (by simp) ?_
  refine fend [7] (by kernel_rfl) (by kernel_rfl) ?_
  intro w10 hw10 _
  refine tstoreP (by kernel_rfl) (by kernel_rfl) 26 (.tmp 60) (.tmp 56) (by kernel_rfl) gd (4 + p * 3) (by kernel_rfl) (tl3 tg) (by kernel_rfl) 133 _ (HV6.out.d.carry hw10) (by kernel_rfl) (by simp [dkc, tl3]; omega) (tl3_one _) _ (tly_put g A1 n c1 none 0 0 p hp tg) ?_
  intro w11 hB11 hw11
  refine tend ?_
  go_simp
  refine (show ∀ (a : Act) (w : World), Code.wp _ _ _ a w → _ from by assumption) _ _ ?_
  refine wp_world (fun w' => DkV w' (gR + 1) gd (g.set p tg) A1 n c1 xs1 none 0 0 [] ∧ Blk w' gR 29 z ∧ Below w.heap.size w w') ⟨(HV6.out.carry hw10).wr (g' := g.set p tg) hB11 hw11, (HZ6.out.carry hw10).wr hw11 (Blk.ne (HZ6.out.carry hw10) (HV6.out.d.carry hw10) (by decide)), hw11.trans_below (HB6.out.trans (hw10.mono HB6.out.size)) (by have := HV6.out.hg; omega)⟩ ?_
  clear hw10 hw11 hB11 HT6 HV6 HZ6 HB6
  rintro w7 ⟨hV, hZ, hb⟩
  have HV7 := Lib.hid hV
  have HZ7 := Lib.hid hZ
  have HB7 := Lib.hid hb
  clear hV hZ hb
  have HDEC := hDec_any B bs bn bc w7 HBN.out (HB.out.below HB7.out) hbc hbm
  rw [HD.out] at HDEC
  have HDEC := Lib.hid HDEC
  go_wp2_with fail
  refine HDEC.out.mono ?_
  rintro e w8 ⟨T, d, rfl, hT, hTd, hTm, hb8⟩
  simp only at hT hTd
  simp only [hcells]
  have HV8 := Lib.hid (HV7.out.carry hb8)
  have HZ8 := Lib.hid (HZ7.out.carry hb8)
  have HB8 := Lib.hid (HB7.out.trans (hb8.mono HB7.out.size))
  have HT8 := Lib.hid hT
  clear hb8 HV7 HZ7 HB7 HDEC hT
  go_upto_region 15 with (fail)
  obtain ⟨gH, hgH⟩ : ∃ q, w8.heap.size = q := ⟨_, rfl⟩
  refine wp_world (fun w' => Blk w' gH 61 #[.int .i64 hd.kind, .int .i64 hd.to, .int .i64 hd.from_, .slice T hd.tok.length d, .int .i64 hd.number, .int .i64 hd.size] ∧ RdB w' T hd.tok ∧ DkV w' (gR + 1) gd (g.set p tg) A1 n c1 xs1 none 0 0 [] ∧ Blk w' gR 29 z ∧ Below w.heap.size w w') ⟨Blk.newF hgH, HT8.out.below ((Below.refl _ _).alloc (Nat.le_refl _) _), HV8.out.carry ((Below.refl _ _).alloc (Nat.le_refl _) _), HZ8.out.alloc _, HB8.out.alloc HB8.out.size _⟩ ?_
  try rw [hgH]
  clear hgH HV8 HZ8 HB8 HT8
  rintro w8 ⟨hH, hT, hV, hZ, hb⟩
  have HH8 := Lib.hid hH
  have HT8 := Lib.hid hT
  have HV8 := Lib.hid hV
  have HZ8 := Lib.hid hZ
  have HB8 := Lib.hid hb
  clear hH hT hV hZ hb
  have hE0 : (E = 0) = False := by simp [hE]
  obtain ⟨w9, hw9⟩ : ∃ y, y = w8 := ⟨_, rfl⟩
  have hb9 : Below w8.heap.size w8 w9 := by rw [hw9]; exact Below.refl _ _
  have hV9 : DkV w9 (gR + 1) gd (g.set p tg) A1 n c1 xs1 none 0 0 [] := by rw [hw9]; exact HV8.out
  rw [← hw9]
  clear hw9
  obtain ⟨g2, A2, n2, c2, zs, O2, m2, co2, ms2, hg2, hn2, hz2, hm2, hV9⟩ : ∃ (g2 : GtD) (A2 : Option Addr) (n2 c2 : Nat) (zs : List NtB) (O2 : Option Addr) (m2 co2 : Nat) (ms2 : List MlB), g2 = g.set p tg ∧ n2 = n ∧ zs = xs1 ∧ m2 = 0 ∧ DkV w9 (gR + 1) gd g2 A2 n2 c2 zs O2 m2 co2 ms2 := ⟨_, _, _, _, _, _, _, _, _, rfl, rfl, rfl, rfl, hV9⟩
  have hgo : GOk g2 zs := by rw [hg2, hz2]; exact HG.out.ok.tly p tg (by rw [HTG.out]; exact ⟨⟨by have := HOK.out.1.1; simp only; omega, by simp only; omega⟩, HOK.out.2.1, fun _ => by have := HOK.out.2.2 HKF.out; simp only; omega⟩) HPL.out HBG.out
  have hzn : zs.length = n2 := hV9.hn
  have hp9 : zs.map NtB.pl = xs.map NtB.pl ∧ g2 = g.set p tg ∧ n2 = n ∧ m2 = 0 := ⟨by rw [hz2]; exact HPL.out, hg2, hn2, hm2⟩
  clear hg2 hn2 hz2 hm2
  have HZ9 := Lib.hid (HZ8.out.carry hb9)
  have HB9 := Lib.hid (HB8.out.trans (hb9.mono HB8.out.size))
  have HV9 := Lib.hid hV9
  have HP9 := Lib.hid hp9
  have HGO := Lib.hid hgo
  have hz3 : n2 ≤ 3 := by have := hgo.few; omega
  have m0 := hgo.n0
  have m1 := hgo.n1
  clear hb9 hV9 hp9 hgo HH8 HT8 HV8 HZ8 HB8
  go_wp2_with fail
  refine (flush_beg (gR + 1) gd g2 A2 n2 c2 zs O2 m2 co2 ms2 w9 HV9.out (by have := HZ9.out.lt; omega) hz3 (fun x hx => (HGO.out.nts x hx).r) m0 m1).mono ?_
  rintro e w10 ⟨rfl, ⟨A2, c2, hV10⟩, hb10⟩
  have HR9 := Lib.hid (HZ9.out.und hb10 (by omega))
  have HB10 := Lib.hid (HB9.out.trans (hb10.mono (by omega)))
  have HV9 := Lib.hid hV10
  have hrl := HR9.out.lt
  clear hb10 hV10 HZ9 HB9
  go_upto_region 21 with (fail)
  obtain ⟨w9, hw9⟩ : ∃ w9, w10 = w9 := ⟨_, rfl⟩
  subst hw9
  have f18 : w10.cell? ⟨gd, 18, none⟩ = some (.slice O2 m2 co2) := by rw [HV9.out.d.cell]; rfl
  -- [[p5
  have HST := Lib.hid (show ∀ w0 w1, Below w0.heap.size w0 w1 → Stays (fun w' => DkV w' (gR + 1) gd g2 A2 n2 c2 zs O2 m2 co2 ms2 ∧ (∃ z, z.size = 18 ∧ Blk w' gR 29 z) ∧ Below w.heap.size w w') (fun k v w' => (k = 4 → ∃ A3 c3 ys, v = .agg (gcs g2 A3 n2 c3) ∧ OwnX ntc 29 w' (gR + 1) 53 A3 c3 ys ∧ ys.length = n2 ∧ GOk g2 ys ∧ ys.map NtB.pl = zs.map NtB.pl) ∧ (k = 10 → ∃ A3 c3 ys, Blk w' gR 29 (gcs g2 A3 n2 c3) ∧ OwnX ntc 29 w' (gR + 1) 53 A3 c3 ys ∧ ys.length = n2 ∧ GOk g2 ys ∧ ys.map NtB.pl = zs.map NtB.pl)) w0 w1 from fun w0 w1 hb => ⟨fun h1 => by obtain ⟨h1, ⟨z, hz, hZ⟩, h3⟩ := h1; exact ⟨h1.carry hb, ⟨z, hz, hZ.carry hb⟩, h3.trans (hb.mono h3.size)⟩, fun k v hW => ⟨fun e => (fun hp => by obtain ⟨A3, c3, ys, e1, e2, e3⟩ := hp; exact ⟨A3, c3, ys, e1, e2.carry hb, e3⟩) (hW.1 e), fun e => (fun hp => by obtain ⟨A3, c3, ys, e1, e2, e3⟩ := hp; exact ⟨A3, c3, ys, e1.carry hb, e2.carry hb, e3⟩) (hW.2 e)⟩⟩)
  refine wp_flowS (fun k => decide (k < 11)) (fun k => k == 4 || k == 10) 102 [0, 1, 2, 3, 4, 5, 6, 7, 8, 9, 10] (fun w' => DkV w' (gR + 1) gd g2 A2 n2 c2 zs O2 m2 co2 ms2 ∧ (∃ z, z.size = 18 ∧ Blk w' gR 29 z) ∧ Below w.heap.size w w') (fun k v w' => (k = 4 → ∃ A3 c3 ys, v = .agg (gcs g2 A3 n2 c3) ∧ OwnX ntc 29 w' (gR + 1) 53 A3 c3 ys ∧ ys.length = n2 ∧ GOk g2 ys ∧ ys.map NtB.pl = zs.map NtB.pl) ∧ (k = 10 → ∃ A3 c3 ys, Blk w' gR 29 (gcs g2 A3 n2 c3) ∧ OwnX ntc 29 w' (gR + 1) 53 A3 c3 ys ∧ ys.length = n2 ∧ GOk g2 ys ∧ ys.map NtB.pl = zs.map NtB.pl)) (by kernel_rfl) ?hflB ?hpuB ?hksB (fun _ _ _ _ _ h => h) rfl ?hC ?_
  case hflB => kernel_rfl
  case hpuB => kernel_rfl
  case hksB => kernel_rfl
  case hC => exact ⟨HV9.out.carry (Below.refl _ _).drew, ⟨z, hz, HR9.out.carry (Below.refl _ _).drew⟩, HB10.out.trans ((Below.refl _ _).drew)⟩
  refine fq 92 (.pointer (some ⟨gd, 0, none⟩)) (by kernel_rfl) (by kernel_rfl) (by kernel_rfl) (by kernel_rfl) (fun w => (by kernel_rfl)) ?_
  refine fq 93 (.pointer (some ⟨gd, 0, none⟩)) (by kernel_rfl) (by kernel_rfl) (by kernel_rfl) (by kernel_rfl) (fun w => (by kernel_rfl)) ?_
  refine fq 94 (.pointer (some ⟨gd, 0, none⟩)) (by kernel_rfl) (by kernel_rfl) (by kernel_rfl) (by kernel_rfl) (fun w => (by kernel_rfl)) ?_
  refine fqR 95 (gcs g2 A2 n2 c2) 29 (.tmp 94) gd 0 _ (by kernel_rfl) (by kernel_rfl) (by kernel_rfl) (by kernel_rfl) (by kernel_rfl) (by kernel_rfl) Tryz.underlying29 rfl (by kernel_rfl) (fun w hw => hw.1.1.d.part 0 _ (gcs_part _ _ _ _ _ _ _)) ?_
  refine fcall 96 58 #[.agg (gcs g2 A2 n2 c2)] (by kernel_rfl) (by kernel_rfl) (by kernel_rfl) (by kernel_rfl) (fun w => (by kernel_rfl)) (fun w hw => (gateFresh_ok g2 A2 n2 c2 zs w ⟨hzn, by have := hw.1.1.nt.cap; rw [hzn] at this; exact this.1, hw.1.1.nt.cap.2, HGO.out, hw.1.1.nt.rd⟩).mono ?hx4_96) ?_
  case hx4_96 =>
    rintro e w' ⟨A3, c3, ys, rfl, hO, hV, hpl, hb⟩
    exact ⟨_, rfl, ⟨fun _ => ⟨A3, c3, ys, rfl, hO.mono (by obtain ⟨z, _, hZ⟩ := hw.1.2.1; have := hZ.lt; omega), hV.hn, hV.ok, hpl⟩, fun e => absurd e (by decide)⟩, (HST.out _ _ (hb)).1 hw.1, HST.out _ _ (hb)⟩
  rintro v ⟨w', hw', hW⟩
  obtain ⟨A3, c3, ys0, rfl, h4, h5⟩ := hW.1 rfl
  clear h4 h5 ys0 hW hw' w'
  refine fq 97 (.pointer (some ⟨gd, 0, none⟩)) (by kernel_rfl) (by kernel_rfl) (by kernel_rfl) (by kernel_rfl) (fun w => (by kernel_rfl)) ?_
  refine fq 98 (.pointer (some ⟨gd, 0, none⟩)) (by kernel_rfl) (by kernel_rfl) (by kernel_rfl) (by kernel_rfl) (fun w => (by kernel_rfl)) ?_
  refine fq 99 (.pointer (some ⟨gd, 18, none⟩)) (by kernel_rfl) (by kernel_rfl) (by kernel_rfl) (by kernel_rfl) (fun w => (by kernel_rfl)) ?_
  refine fq1 100 (.slice O2 m2 co2) 71 (.tmp 99) gd 18 _ (by kernel_rfl) (by kernel_rfl) (by kernel_rfl) (by kernel_rfl) (by kernel_rfl) (by kernel_rfl) Tryz.underlying71 rfl (fun w hw => by rw [hw.1.1.d.cell]; rfl) ?_
  refine fq 101 (.int .i64 E) (by kernel_rfl) (by kernel_rfl) (by kernel_rfl) (by kernel_rfl) (fun w => (by kernel_rfl)) ?_
  refine fstoreP (by kernel_rfl) (by kernel_rfl) (by kernel_rfl) (by kernel_rfl) 29 (.tmp 6) (.tmp 96) (by kernel_rfl) gR 0 (by kernel_rfl) (gcs g2 A3 n2 c3) (by kernel_rfl) 29 (by kernel_rfl) (gcs_one _ _ _ _) (fun W hw => ?hst10) ?_
  case hst10 =>
    obtain ⟨⟨hV, ⟨z, hz, hZ⟩, hb⟩, hfs⟩ := hw
    obtain ⟨A4, c4, ys, e2, hON, hg3⟩ := (hfs _ List.mem_cons_self (by kernel_rfl)).1 rfl
    obtain ⟨rfl, rfl⟩ : A3 = A4 ∧ c3 = c4 := by injection e2 with e2; simpa [gcs] using e2
    refine ⟨z, hZ, by simp [gcs, hz], fun w' hB' hw' => ?_⟩
    have hB' := hB'.as (splice_all _ _ (by simp [gcs, hz]))
    have hC' : DkV w' (gR + 1) gd g2 A2 n2 c2 zs O2 m2 co2 ms2 ∧ (∃ z, z.size = 18 ∧ Blk w' gR 29 z) ∧ Below w.heap.size w w' := ⟨hV.wrG hw' hZ, ⟨_, rfl, hB'⟩, hw'.trans_below hb hqr⟩
    have hO' := hON.wr hw' (own_ne hON hZ (by decide))
    exact ⟨⟨fun e => absurd e (by decide), fun _ => ⟨A3, c3, ys, hB', hO', hg3⟩⟩, hC', ⟨fun _ => hC', fun k v hv => ⟨fun e => by obtain ⟨A5, c5, ys5, e5, hO5, hg5⟩ := hv.1 e; exact ⟨A5, c5, ys5, e5, hO5.wr hw' (own_ne hO5 hZ (by decide)), hg5⟩, fun _ => ⟨A3, c3, ys, hB', hO', hg3⟩⟩⟩⟩
  rintro v -
  refine fend [11, 12] (by kernel_rfl) (by kernel_rfl) ?_
  intro w12 hw12 hF
  obtain ⟨A4, c4, ys, hR, hON, hyn, hyg, hpl⟩ := (hF _ List.mem_cons_self).2 rfl
  clear hF
  refine tval (some 7) (.slice O2 m2 co2) w12 (by kernel_rfl) (by kernel_rfl) (by kernel_rfl) ?_
  refine tval (some 8) (.int .i64 E) w12 (by kernel_rfl) (by kernel_rfl) (by kernel_rfl) ?_
  refine tend ?_
  go_simp
  refine (show ∀ (a : Act) (w : World), Code.wp _ _ _ a w → _ from by assumption) _ _ ?_
  have hcap := hON.cap
  rw [hyn] at hcap
  have hmc := hw12.1.ml.cap
  have hmm := hw12.1.hm
  rw [hmm] at hmc
  have HMC := Lib.hid hmc
  have HMM := Lib.hid hmm
  have HPL := Lib.hid hpl
  refine wp_world (fun w' => Blk w' gR 29 (gcs g2 A4 n2 c4) ∧ GtV w' g2 A4 n2 c4 ys ∧ MlOwn w' w.heap.size O2 co2 ms2 ∧ OwnX ntc 29 w' w.heap.size 53 A4 c4 ys ∧ Below w.heap.size w w') ⟨hR, ⟨hyn, hcap.1, hcap.2, hyg, hON.rd⟩, ⟨hw12.1.ml.mono (by omega), hw12.1.dat⟩, hON.mono (by omega), hw12.2.2⟩ ?_
  clear hR hON hyg hw12 HV9 HR9 HB10 f18 hmc hmm hcap HST hpl
  rintro w14 ⟨hR, hGV, hML, hON, hb⟩
  have HON := Lib.hid hON
  clear hON
  have HGV := Lib.hid hGV
  have HML := Lib.hid hML
  have HB := Lib.hid hb
  clear hGV hML hb
  go_wp2_with fail
  exact bodyPost_ret (results_c3 _ _ gR _ (gcs g2 A4 n2 c4) _ Tryz.results27 rfl hR Tryz.underlying29 rfl (by kernel_rfl) rfl rfl) rfl ⟨g2, A4, n2, c4, ys, zs, O2, m2, co2, ms2, rfl, HGV.out, HPL.out, HP9.out, HMM.out, HMC.out.1, HMC.out.2, HML.out, HON.out, HB.out⟩
  -- ]]p5
  -- ]]p4
  -- ]]p3
  -- ]]p2
  -- ]]p1
end Go.Proofs.YtbcagdjfegobnaaGreat
/- Clients whose connection has just begun: the contracts of client.Begin, Check, fresh, Hello. -/
namespace Go.Proofs.YtbcagdjfegobnaaGreat
open Go.ChangeShapes Go.WideShapes Go.ChangeAt Go.RowKit
set_option linter.unusedVariables false

/-- A client as_v it lies in memory. -/
structure ClM where
  p : Nat
  id : Nat
  to_ : Nat
  word : Int
  key : Int
  last : Int
  tok : List UInt8
  T : Option Addr
  tn : Nat
  tc : Nat
  A : Option Addr
  c : Nat
  B : Option Addr
  d : Nat
def clc (x : ClM) : Array Value :=
  #[.int .i64 x.p, .int .i64 x.id, .int .u64 x.word, .slice x.T x.tn x.tc, .int .i64 x.to_, .int .u64 x.key,
    .bool true, .int .i64 0, .slice none 0 0, .int .i64 (-1), .slice x.A 0 x.c, .slice x.B 0 x.d, .int .i64 400, .int .i64 0, .int .i64 0, .int .i64 (-1), .int .i64 700, .int .i64 0, .int .i64 700, .int .i64 0,
    .int .i64 4, .int .i64 0, .int .i64 0, .slice none 0 0, .bool false, .slice none 0 0, .int .i64 x.last, .int .i64 0, .bool false, .int .i64 0]
theorem clc_one (x : ClM) : ∀ u ∈ (clc x).toList, u.oneCell' = true := by
  intro u hu
  simp only [clc, List.mem_cons, List.not_mem_nil, or_false] at hu
  rcases hu with rfl | rfl | rfl | rfl | rfl | rfl | rfl | rfl | rfl | rfl | rfl | rfl | rfl | rfl | rfl | rfl | rfl | rfl | rfl | rfl | rfl | rfl | rfl | rfl | rfl | rfl | rfl | rfl | rfl | rfl <;> rfl
theorem clc_part (x : ClM) : ∀ j v, (bg0 true x.A x.c x.B x.d x.last 4 0)[j]? = some v → (clc x)[6 + j]? = some v := by
  intro j v hv
  have e : clc x = #[.int .i64 x.p, .int .i64 x.id, .int .u64 x.word, .slice x.T x.tn x.tc, .int .i64 x.to_, .int .u64 x.key] ++ bg0 true x.A x.c x.B x.d x.last 4 0 := by kernel_rfl
  rw [e, Array.getElem?_append_right (by simp)]
  simpa using hv
/-- A client that may be. -/
structure ClOk (w : World) (x : ClM) : Prop where
  p1 : x.p < 4
  id1 : x.id ≤ 255
  to1 : x.to_ ≤ 255
  w0 : 0 ≤ x.word
  w1 : x.word < 18446744073709551616
  k0 : 0 ≤ x.key
  k1 : x.key < 18446744073709551616
  htn : x.tok.length = x.tn
  htk : x.tn ≤ 120
  htc : x.tn ≤ x.tc
  htm : x.tc ≤ 9223372036854775807
  rd : RdB w x.T x.tok
  c1 : x.c ≤ 9223372036854775807
  d1 : x.d ≤ 9223372036854775807
  l0 : 0 ≤ x.last
  l1 : x.last ≤ 1099511627776
theorem ClOk.below {w w' : World} {x : ClM} (h : ClOk w x) (hb : Below w.heap.size w w') : ClOk w' x := { h with rd := h.rd.below hb }
abbrev ClP := Nat × Nat × Nat × Int × Int × Int × List UInt8
def ClM.pl (x : ClM) : ClP := (x.p, x.id, x.to_, x.word, x.key, x.last, x.tok)
/-- .. with rows of its own. -/
def ClM.fr (x : ClM) (D : Option Addr) (dc : Nat) (A B : Option Addr) : ClM := ⟨x.p, x.id, x.to_, x.word, x.key, x.last, x.tok, D, x.tn, dc, A, 0, B, 0⟩
theorem clFacts {w : World} {q : Nat} {x : ClM} (h : Blk w q 45 (clc x)) : q < w.heap.size ∧ w.cell? ⟨q, 0, none⟩ = some (.int .i64 x.p) ∧ w.cell? ⟨q, 1, none⟩ = some (.int .i64 x.id) ∧ w.cell? ⟨q, 2, none⟩ = some (.int .u64 x.word) ∧ w.cell? ⟨q, 3, none⟩ = some (.slice x.T x.tn x.tc) ∧ w.cell? ⟨q, 4, none⟩ = some (.int .i64 x.to_) ∧ w.cell? ⟨q, 5, none⟩ = some (.int .u64 x.key) ∧ w.cell? ⟨q, 6, none⟩ = some (.bool true) :=
  ⟨h.lt, by rw [h.cell]; rfl, by rw [h.cell]; rfl, by rw [h.cell]; rfl, by rw [h.cell]; rfl, by rw [h.cell]; rfl, by rw [h.cell]; rfl, by rw [h.cell]; rfl⟩

set_option maxRecDepth 100000 in
set_option maxHeartbeats 4000000 in
theorem clBegin_ok (p id : Nat) (hp : p < 4) (hid : id ≤ 255) (word now : Int) (n0 : 0 ≤ now) (n1 : now ≤ 1099511627776) (w : World) :
    Calls Tryz.prog 34 #[.int .i64 p, .int .i64 id, .int .u64 word, .int .i64 now] w fun e w' => e = .returned (.tuple #[.agg (clc ⟨p, id, 0, word, 0, now, [], none, 0, 0, none, 0, none, 0⟩), .int .i64 0]) ∧ Below w.heap.size w w' := by
  have hp1 : (p : Int) < 4 := by omega
  have hi1 : (id : Int) ≤ 255 := by omega
  go_enter Tryz.func34, Tryz.ntmps34
  go_upto_region 1 with (fail)
  refine wp_world (fun w' => (∃ z, z.size = 30 ∧ Blk w' w.heap.size 45 z) ∧ Below w.heap.size w w') ⟨⟨_, rfl, Blk.new _ _ _⟩, (Below.refl _ _).alloc (Nat.le_refl _) _⟩ ?_
  rintro w1 ⟨⟨z, hz, hZ⟩, hb1⟩
  go_wp2_with fail
  refine (connBegin_ok true now n0 n1 _).mono ?_
  rintro e w2 ⟨rfl, hb2⟩
  have hZ := hZ.carry hb2
  have hb := hb1.trans (hb2.mono hb1.size)
  clear hb1 hb2
  unfold bgc
  simp only [if_true]
  go_upto_region 6 with (first
    | (refine wpList_storeP rfl 43 (.tmp 10) (.tmp 30) rfl w2.heap.size 0 rfl (bg0 true none 0 none 0 now 4 0) rfl 43 _ (Blk.new _ _ _) (by kernel_rfl) (by simp [bg0]) (bg0_one _ _ _ _ _ _ _ _) _ (splice_all _ _ (by simp [bg0])) ?_
       intro w3 hB3 hw3))
  have hb3 : Below w2.heap.size w2 w3 := hw3.trans_below ((Below.refl _ _).alloc (Nat.le_refl _) _) (Nat.le_refl _)
  have hZ := hZ.carry hb3
  have hb := hb.trans (hb3.mono hb.size)
  obtain ⟨gC, hgC⟩ : ∃ q, w2.heap.size = q := ⟨_, rfl⟩
  rw [hgC] at hB3 ⊢
  clear hw3 hb3 hgC
  have HC := Lib.hid hB3
  have HZ := Lib.hid hZ
  have HB := Lib.hid hb
  clear hB3 hZ hb
  unfold bg0 at HC
  go_wp2_with (first
    | refine wpList_loadR rfl 43 (.tmp 10) rfl gC 0 rfl #[.bool true, .int .i64 0, .slice none 0 0, .int .i64 (-1), .slice none 0 0, .slice none 0 0, .int .i64 400, .int .i64 0, .int .i64 0, .int .i64 (-1), .int .i64 700, .int .i64 0, .int .i64 700, .int .i64 0, .int .i64 4, .int .i64 0, .int .i64 0, .slice none 0 0, .bool false, .slice none 0 0, .int .i64 now, .int .i64 0, .bool false, .int .i64 0] _ Tryz.underlying43 rfl (by kernel_rfl) HC.out.whole ?_
    | (refine wpList_storeP rfl 45 (.tmp 8) (.tmp 40) rfl w.heap.size 0 rfl (clc ⟨p, id, 0, word, 0, now, [], none, 0, 0, none, 0, none, 0⟩) rfl 45 _ HZ.out (by kernel_rfl) (by simp [clc, hz]) (clc_one _) _ (splice_all _ _ (by simp [clc, hz])) ?_
       intro w4 hB4 hw4))
  exact bodyPost_ret (results_c2 _ _ w.heap.size _ (clc ⟨p, id, 0, word, 0, now, [], none, 0, 0, none, 0, none, 0⟩) _ Tryz.results34 rfl hB4 Tryz.underlying45 rfl (by kernel_rfl) rfl) rfl ⟨rfl, hw4.trans_below HB.out (Nat.le_refl _)⟩

set_option maxRecDepth 100000 in
set_option maxHeartbeats 4000000 in
theorem clCheck_ok (x : ClM) (w : World) (h : ClOk w x) :
    Calls Tryz.prog 19 #[.agg (clc x)] w fun e w' => e = .returned (.int .i64 0) ∧ Below w.heap.size w w' := by
  have HOK := Lib.hid h
  have hp1 : (x.p : Int) < 4 := by have := h.p1; omega
  have hi1 : (x.id : Int) ≤ 255 := by have := h.id1; omega
  have ht1 : (x.to_ : Int) ≤ 255 := by have := h.to1; omega
  have hk1 : (x.tn : Int) ≤ 120 := by have := h.htk; omega
  clear h
  go_enter Tryz.func19, Tryz.ntmps19
  unfold clc
  go_upto_region 1 with (fail)
  obtain ⟨q, hq⟩ : ∃ q, w.heap.size = q := ⟨_, rfl⟩
  refine wp_world (fun w' => Blk w' q 45 (clc x) ∧ Below w.heap.size w w') ⟨Blk.newF hq, (Below.refl _ _).alloc (Nat.le_refl _) _⟩ ?_
  rw [hq]
  rintro w1 ⟨hX, hb1⟩
  rw [← hq] at hb1
  clear hq
  have F := clFacts hX
  have HX := Lib.hid hX
  have HB := Lib.hid hb1
  clear hX hb1
  go_wp2_with (refine wpList_loadG (by first | rfl | (simp [Region.wanted, yielded, hp1, hi1, ht1, hk1]; done)) 43 (.tmp 38) rfl q 6 rfl (bg0 true x.A x.c x.B x.d x.last 4 0) _ Tryz.underlying43 rfl (by kernel_rfl) (HX.out.part 6 _ (clc_part x)) ?_)
  refine (connCheck_bg0 true x.A x.c x.B x.d x.last 4 0 (.inl ⟨rfl, rfl⟩) HOK.out.c1 HOK.out.d1 HOK.out.l0 HOK.out.l1 _).mono ?_
  rintro e w2 ⟨rfl, hb2⟩
  have F := clFacts (HX.out.carry hb2)
  have HB2 := Lib.hid (HB.out.trans (hb2.mono HB.out.size))
  clear hb2
  go_wp2_with fail
  all_goals first
    | (go_ret; exact ⟨rfl, HB2.out⟩)
    | exact ⟨⟨⟨by have := HOK.out.p1; omega, by have := HOK.out.id1; omega⟩, by have := HOK.out.to1; omega⟩, by have := HOK.out.htk; omega⟩

set_option maxRecDepth 100000 in
set_option maxHeartbeats 4000000 in
theorem clFresh_ok (x : ClM) (w : World) (h : ClOk w x) :
    Calls Tryz.prog 70 #[.agg (clc x)] w fun e w' => ∃ y, e = .returned (.agg (clc y)) ∧ ClOk w' y ∧ y.pl = x.pl ∧ OwnX u8c 1 w' w.heap.size 5 y.T y.tc y.tok ∧ Below w.heap.size w w' := by
  have HOK0 := Lib.hid h
  clear h
  go_enter Tryz.func70, Tryz.ntmps70
  unfold clc
  -- [[f1
  go_upto_region 1 with (fail)
  refine wp_world (fun w' => Blk w' w.heap.size 45 (clc x) ∧ (∃ z, z.size = 30 ∧ Blk w' (w.heap.size + 1) 45 z) ∧ Below w.heap.size w w') ⟨(Blk.new _ _ _).alloc _, ⟨_, rfl, Blk.new1 _ _ _ _⟩, ((Below.refl _ _).alloc (Nat.le_refl _) _).alloc (by simp) _⟩ ?_
  rintro w1 ⟨hX, ⟨z, hz, hZ⟩, hb1⟩
  obtain ⟨q, hq⟩ : ∃ q, w.heap.size = q := ⟨_, rfl⟩
  obtain ⟨gR, hgR⟩ : ∃ q, w.heap.size + 1 = q := ⟨_, rfl⟩
  have hqw : w.heap.size ≤ q := by omega
  have hqr : w.heap.size ≤ gR := by omega
  have hne : gR ≠ q := by omega
  rw [hgR] at hZ ⊢
  rw [hq] at hX ⊢
  have HX := Lib.hid hX
  have HZ := Lib.hid hZ
  have HB1 := Lib.hid hb1
  have HOK := Lib.hid (HOK0.out.below hb1)
  have f3 := (clFacts hX).2.2.2.2.1
  clear hX hZ hb1 hq hgR
  refine wp_flow (fun k => decide (k < 8)) (fun k => k == 0 || k == 3 || k == 6) 13 [0, 1, 2, 3, 4, 5, 6, 7] (fun w' => Below w1.heap.size w1 w') (fun k a v w' => (k = 0 → ∃ b0, v = .slice (some ⟨b0, 0, none⟩) 0 0 ∧ OwnX u8c 1 w' w1.heap.size 5 (some ⟨b0, 0, none⟩) 0 []) ∧ (k = 3 → ∃ D dc, v = .slice D x.tn dc ∧ OwnX u8c 1 w' w1.heap.size 5 D dc x.tok ∧ x.tn ≤ dc ∧ dc ≤ 9223372036854775807) ∧ (k = 6 → ∃ A' B', v = .agg (bg0 true A' 0 B' 0 x.last 4 0))) (by kernel_rfl) ?hflB ?hpuB ?hksB (fun _ _ _ _ _ h => h) rfl ?hst ?hC ?_
  case hflB => kernel_rfl
  case hpuB => kernel_rfl
  case hksB => kernel_rfl
  case hst => exact ⟨fun w0 w1 h1 hb => h1.trans (hb.mono h1.size), fun k a v w0 w1 hW hb => ⟨fun e => (fun hp => by obtain ⟨b0, e1, e2⟩ := hp; exact ⟨b0, e1, e2.carry hb⟩) (hW.1 e), fun e => (fun hp => by obtain ⟨D, dc, e1, e2, e3⟩ := hp; exact ⟨D, dc, e1, e2.carry hb, e3⟩) (hW.2.1 e), fun e => (fun hp => hp) (hW.2.2 e)⟩, fun k a b v w0 _ h => h⟩
  case hC => exact (Below.refl _ _).drew
  refine fnew 3 (fun w => .slice (some ⟨w.heap.size, 0, none⟩) 0 0) (fun w => w.alloc (.cells #[] 5)) (by kernel_rfl) (by kernel_rfl) (by kernel_rfl) (by kernel_rfl) (fun w => (by kernel_rfl)) (fun w hw => ⟨⟨fun _ => ⟨w.heap.size, rfl, OwnX.made _ _ _ _ _ hw.1.size⟩, fun e => absurd e (by decide), fun e => absurd e (by decide)⟩, hw.1.alloc hw.1.size _, (Below.refl _ _).alloc (Nat.le_refl _) _⟩) ?_
  rintro v ⟨w', hw', hW⟩
  obtain ⟨b0, rfl, h4⟩ := hW.1 rfl
  clear h4 hW hw' w'
  refine fq 4 (.pointer (some ⟨q, 3, none⟩)) (by kernel_rfl) (by kernel_rfl) (by kernel_rfl) (by kernel_rfl) (fun w => (by kernel_rfl)) ?_
  refine fq1 5 (.slice x.T x.tn x.tc) 30 (.tmp 4) q 3 _ (by kernel_rfl) (by kernel_rfl) (by kernel_rfl) (by kernel_rfl) (by kernel_rfl) (by kernel_rfl) Tryz.underlying30 rfl (fun w hw => cell_on hw.1 HX.out.lt f3) ?_
  refine fapp0 6 u8c 1 u8c_one (.tmp 3) (.tmp 5) _ (by kernel_rfl) (by kernel_rfl) (by kernel_rfl) (by kernel_rfl) (by kernel_rfl) w1.heap.size 5 _ 1 Tryz.underlying30 u8_infoQ rfl (by decide) (by decide) b0 (by kernel_rfl) x.T x.tn x.tc x.tok (by kernel_rfl) HOK.out.htn (by have := HOK.out.htk; omega) (fun W hw => ?happ) ?_
  case happ =>
    obtain ⟨b1, e1, hO⟩ := (hw.2 _ List.mem_cons_self (by kernel_rfl)).1 rfl
    obtain rfl : b0 = b1 := by injection e1 with e1; simpa using e1
    refine ⟨hO, (HOK.out.rd.below hw.1).x, hw.1.size, fun A' c' w' h1 h2 h3 h4 => ⟨⟨fun e => absurd e (by decide), fun _ => ⟨A', c', rfl, h1, h2, h3⟩, fun e => absurd e (by decide)⟩, hw.1.trans (h4.mono hw.1.size), h4⟩⟩
  rintro v ⟨w', hw', hW⟩
  obtain ⟨D, dc, rfl, h4, hdc1, hdc2⟩ := hW.2.1 rfl
  clear h4 hW hw' w'
  refine fq 7 (.pointer (some ⟨q, 6, none⟩)) (by kernel_rfl) (by kernel_rfl) (by kernel_rfl) (by kernel_rfl) (fun w => (by kernel_rfl)) ?_
  refine fqR 8 (bg0 true x.A x.c x.B x.d x.last 4 0) 43 (.tmp 7) q 6 _ (by kernel_rfl) (by kernel_rfl) (by kernel_rfl) (by kernel_rfl) (by kernel_rfl) (by kernel_rfl) Tryz.underlying43 rfl (by kernel_rfl) (fun w hw => (HX.out.carry hw.1).part 6 _ (clc_part x)) ?_
  refine fcall 9 92 #[.agg (bg0 true x.A x.c x.B x.d x.last 4 0)] (by kernel_rfl) (by kernel_rfl) (by kernel_rfl) (by kernel_rfl) (fun w => (by kernel_rfl)) (fun w hw => (connFresh_bg0 true x.A x.c x.B x.d x.last 4 0 w).mono ?hx6_9) ?_
  case hx6_9 =>
    rintro e w' ⟨A', B', rfl, hb⟩
    exact ⟨_, rfl, ⟨fun e => absurd e (by decide), fun e => absurd e (by decide), fun _ => ⟨A', B', rfl⟩⟩, hw.1.trans (hb.mono hw.1.size), hb⟩
  rintro v ⟨w', hw', hW⟩
  obtain ⟨A', B', rfl⟩ := hW.2.2 rfl
  clear  hW hw' w'
  refine fq 10 (.pointer (some ⟨q, 3, none⟩)) (by kernel_rfl) (by kernel_rfl) (by kernel_rfl) (by kernel_rfl) (fun w => (by kernel_rfl)) ?_
  refine fend [8, 9, 10] (by kernel_rfl) (by kernel_rfl) ?_
  intro w6 hw6 hF
  obtain ⟨D2, dc2, e2, hO, _⟩ := (hF _ (List.mem_cons_of_mem _ List.mem_cons_self)).2.1 rfl
  obtain ⟨rfl, rfl⟩ : D = D2 ∧ dc = dc2 := by injection e2 with e2 _ e3; exact ⟨e2, e3⟩
  clear hF e2
  have hX6 := HX.out.carry hw6
  refine tstore1 (by kernel_rfl) (by kernel_rfl) 30 (.tmp 10) (.tmp 6) (by kernel_rfl) q 3 (by kernel_rfl) (.slice D x.tn dc) (by kernel_rfl) rfl rfl 45 _ hX6 (by kernel_rfl) (by simp [clc]) ?_
  intro w7 hB7 hw7
  refine tval (some 11) (.pointer (some ⟨q, 6, none⟩)) w7 (by kernel_rfl) (by kernel_rfl) (by kernel_rfl) ?_
  refine tstoreP (by kernel_rfl) (by kernel_rfl) 43 (.tmp 11) (.tmp 9) (by kernel_rfl) q 6 (by kernel_rfl) (bg0 true A' 0 B' 0 x.last 4 0) (by kernel_rfl) 45 _ hB7 (by kernel_rfl) (by simp [clc, bg0]) (bg0_one _ _ _ _ _ _ _ _) (clc (x.fr D dc A' B')) (by kernel_rfl) ?_
  intro w8 hB8 hw8
  have hw78 := hw7.trans hw8
  have hO8 := hO.wr hw78 (own_ne hO hX6 (by decide))
  have hb8 := hw78.trans_below (HB1.out.trans (hw6.mono HB1.out.size)) hqw
  refine tend ?_
  go_simp
  refine (show ∀ (a : Act) (w : World), Code.wp _ _ _ a w → _ from by assumption) _ _ ?_
  have hZ8 := (HZ.out.carry hw6).wr hw78 hne
  have hcap : x.tn ≤ dc ∧ dc ≤ 9223372036854775807 := ⟨hdc1, hdc2⟩
  refine wp_world (fun w' => Blk w' q 45 (clc (x.fr D dc A' B')) ∧ Blk w' gR 45 z ∧ RdB w' D x.tok ∧ OwnX u8c 1 w' w1.heap.size 5 D dc x.tok ∧ Below w.heap.size w w') ⟨hB8, hZ8, hO8.rd.b, hO8, hb8⟩ ?_
  clear hB8 hZ8 hO8 hb8 hw78 hw8 hB7 hw7 hX6 hO hw6 HX HZ f3
  rintro w9 ⟨hX, hZ, hR, hO, hb⟩
  have HX := Lib.hid hX
  have HZ := Lib.hid hZ
  have HR := Lib.hid hR
  have HO := Lib.hid hO
  have HB := Lib.hid hb
  clear hX hZ hR hO hb
  -- [[f2
  go_wp2_with (first
    | refine wpList_loadR rfl 45 (.tmp 1) rfl q 0 rfl (clc (x.fr D dc A' B')) _ Tryz.underlying45 rfl (by kernel_rfl) HX.out.whole ?_
    | (refine wpList_storeP rfl 45 (.tmp 2) (.tmp 12) rfl gR 0 rfl (clc (x.fr D dc A' B')) rfl 45 _ HZ.out (by kernel_rfl) (by simp [clc, hz]) (clc_one _) _ (splice_all _ _ (by simp [clc, hz])) ?_
       intro w10 hB10 hw10))
  exact bodyPost_ret (results_c1 _ _ gR _ (clc (x.fr D dc A' B')) _ Tryz.results70 rfl hB10 Tryz.underlying45 rfl (by kernel_rfl)) rfl ⟨x.fr D dc A' B', rfl, { HOK0.out with htc := hcap.1, htm := hcap.2, rd := (HO.out.wr hw10 (own_ne HO.out HZ.out (by decide))).rd.b, c1 := by simp [ClM.fr], d1 := by simp [ClM.fr] }, rfl, (HO.out.wr hw10 (own_ne HO.out HZ.out (by decide))).mono HB1.out.size, hw10.trans_below HB.out hqr⟩
  -- ]]f2
  -- ]]f1

set_option maxRecDepth 100000 in
set_option maxHeartbeats 4000000 in
theorem clHello_ok (x : ClM) (w : World) (h : ClOk w x) (htk : x.tn ≤ 63) :
    Calls Tryz.prog 36 #[.agg (clc x)] w fun e w' => ∃ D dc, e = .returned (.tuple #[.slice D (24 + x.tn) dc, .int .i64 0]) ∧ OwnX u8c 1 w' w.heap.size 5 D dc (greetB (keyI 1 x.id) 0 x.id x.tok x.word.toNat) ∧ Below w.heap.size w w' := by
  have HOK := Lib.hid h
  clear h
  go_enter Tryz.func36, Tryz.ntmps36
  unfold clc
  -- [[h1
  go_upto_region 1 with (fail)
  obtain ⟨q, hq⟩ : ∃ q, w.heap.size = q := ⟨_, rfl⟩
  refine wp_world (fun w' => Blk w' q 45 (clc x) ∧ Below w.heap.size w w') ⟨Blk.newF hq, (Below.refl _ _).alloc (Nat.le_refl _) _⟩ ?_
  rw [hq]
  rintro w1 ⟨hX, hb1⟩
  rw [← hq] at hb1
  clear hq
  have HX1 := Lib.hid hX
  have HB1 := Lib.hid hb1
  clear hX hb1
  go_wp2_with (refine wpList_loadR rfl 45 (.tmp 1) rfl q 0 rfl (clc x) _ Tryz.underlying45 rfl (by kernel_rfl) HX1.out.whole ?_)
  refine (clCheck_ok x _ (HOK.out.below HB1.out)).mono ?_
  rintro e w2 ⟨rfl, hb2⟩
  have HX2 := Lib.hid (HX1.out.carry hb2)
  have HB2 := Lib.hid (HB1.out.trans (hb2.mono HB1.out.size))
  have F := clFacts HX2.out
  clear hb2 HX1 HB1
  go_upto_region 5 with (fail)
  obtain ⟨gH, hgH⟩ : ∃ q, w2.heap.size = q := ⟨_, rfl⟩
  refine wp_world (fun w' => Blk w' gH 61 #[.int .i64 (0 : Nat), .int .i64 (0 : Nat), .int .i64 x.id, .slice x.T x.tn x.tc, .int .i64 0, .int .i64 0] ∧ Blk w' q 45 (clc x) ∧ Below w.heap.size w w') ⟨?gva, ?gvb, ?gvc⟩ ?_
  case gva => exact (Blk.newF hgH).as (by simp)
  case gvb => exact HX2.out.alloc _
  case gvc => exact HB2.out.alloc HB2.out.size _
  rw [hgH]
  clear hgH HX2 HB2 F
  rintro w5 ⟨hH, hX, hb⟩
  have HH5 := Lib.hid hH
  have HX5 := Lib.hid hX
  have HB5 := Lib.hid hb
  have f1 := (clFacts hX).2.2.1
  have f2 := (clFacts hX).2.2.2.1
  clear hH hX hb
  refine wp_flow (fun k => decide (k < 12)) (fun k => k == 2 || k == 6 || k == 8 || k == 9) 28 [0, 1, 2, 3, 4, 5, 6, 7, 8, 9, 10, 11] (fun w' => Below w5.heap.size w5 w') (fun k a v w' => (k = 2 → v = .int .u64 (keyI 1 x.id)) ∧ (k = 6 → ∃ gE, v = .slice (some ⟨gE, 0, none⟩) 8 8 ∧ RdB w' (some ⟨gE, 0, none⟩) (beB 8 x.word.toNat)) ∧ (k = 8 → ∃ gF gE, v = .slice (some ⟨gF, 0, none⟩) 1 1 ∧ RdX fmc 7 w' (some ⟨gF, 0, none⟩) [hfm x.word.toNat (some ⟨gE, 0, none⟩) 8] ∧ RdB w' (some ⟨gE, 0, none⟩) (beB 8 x.word.toNat)) ∧ (k = 9 → ∃ D dc, v = .tuple #[.slice D (24 + x.tn) dc, .int .i64 0] ∧ OwnX u8c 1 w' w5.heap.size 5 D dc (greetB (keyI 1 x.id) 0 x.id x.tok x.word.toNat))) (by kernel_rfl) ?hflB ?hpuB ?hksB (fun _ _ _ _ _ h => h) rfl ?hst ?hC ?_
  case hflB => kernel_rfl
  case hpuB => kernel_rfl
  case hksB => kernel_rfl
  case hst => exact ⟨fun w0 w1 h1 hb => h1.trans (hb.mono h1.size), fun k a v w0 w1 hW hb => ⟨fun e => (fun hp => hp) (hW.1 e), fun e => (fun hp => by obtain ⟨gE, e1, e2⟩ := hp; exact ⟨gE, e1, e2.below hb⟩) (hW.2.1 e), fun e => (fun hp => by obtain ⟨gF, gE, e1, e2, e3⟩ := hp; exact ⟨gF, gE, e1, RdX.below e2 hb, e3.below hb⟩) (hW.2.2.1 e), fun e => (fun hp => by obtain ⟨D, dc, e1, e2⟩ := hp; exact ⟨D, dc, e1, e2.carry hb⟩) (hW.2.2.2 e)⟩, fun k a b v w0 _ h => h⟩
  case hC => exact (Below.refl _ _).drew
  refine fq 16 (.pointer (some ⟨q, 1, none⟩)) (by kernel_rfl) (by kernel_rfl) (by kernel_rfl) (by kernel_rfl) (fun w => (by kernel_rfl)) ?_
  refine fq1 17 (.int .i64 x.id) 3 (.tmp 16) q 1 _ (by kernel_rfl) (by kernel_rfl) (by kernel_rfl) (by kernel_rfl) (by kernel_rfl) (by kernel_rfl) Tryz.underlying3 rfl (fun w hw => cell_on hw.1 HX5.out.lt f1) ?_
  refine fcall 18 24 #[.int .i64 x.id] (by kernel_rfl) (by kernel_rfl) (by kernel_rfl) (by kernel_rfl) (fun w => (by kernel_rfl)) (fun w hw => (first_any x.id w).mono ?hx2_18) ?_
  case hx2_18 =>
    rintro e w' ⟨rfl, rfl⟩
    exact ⟨_, rfl, ⟨fun _ => rfl, fun e => absurd e (by decide), fun e => absurd e (by decide), fun e => absurd e (by decide)⟩, hw.1, Below.refl _ _⟩
  rintro v ⟨w', hw', hW⟩
  obtain rfl := hW.1 rfl
  clear  hW hw' w'
  refine fqR 19 #[.int .i64 (0 : Nat), .int .i64 (0 : Nat), .int .i64 x.id, .slice x.T x.tn x.tc, .int .i64 0, .int .i64 0] 61 (.tmp 5) gH 0 _ (by kernel_rfl) (by kernel_rfl) (by kernel_rfl) (by kernel_rfl) (by kernel_rfl) (by kernel_rfl) Tryz.underlying61 rfl (by kernel_rfl) (fun w hw => (HH5.out.carry hw.1).whole) ?_
  refine fq 20 (.pointer (some ⟨q, 2, none⟩)) (by kernel_rfl) (by kernel_rfl) (by kernel_rfl) (by kernel_rfl) (fun w => (by kernel_rfl)) ?_
  refine fq1 21 (.int .u64 x.word) 23 (.tmp 20) q 2 _ (by kernel_rfl) (by kernel_rfl) (by kernel_rfl) (by kernel_rfl) (by kernel_rfl) (by kernel_rfl) Tryz.underlying23 rfl (fun w hw => cell_on hw.1 HX5.out.lt f2) ?_
  refine fcall 22 74 #[.int .u64 x.word] (by kernel_rfl) (by kernel_rfl) (by kernel_rfl) (by kernel_rfl) (fun w => (by kernel_rfl)) (fun w hw => (cEight_any x.word HOK.out.w0 HOK.out.w1 w).mono ?hx6_22) ?_
  case hx6_22 =>
    rintro e w' ⟨rfl, hE, hb⟩
    exact ⟨_, rfl, ⟨fun e => absurd e (by decide), fun _ => ⟨w.heap.size, rfl, RdB.blk hE⟩, fun e => absurd e (by decide), fun e => absurd e (by decide)⟩, hw.1.trans (hb.mono hw.1.size), hb⟩
  rintro v ⟨w', hw', hW⟩
  obtain ⟨gE, rfl, h4⟩ := hW.2.1 rfl
  clear h4 hW hw' w'
  refine fq 23 (.agg (hfc (some ⟨gE, 0, none⟩) 8)) (by kernel_rfl) (by kernel_rfl) (by kernel_rfl) (by kernel_rfl) (fun w => (by kernel_rfl)) ?_
  refine fnew 24 (fun w => .slice (some ⟨w.heap.size, 0, none⟩) 1 1) (fun w => w.alloc (.cells (hfc (some ⟨gE, 0, none⟩) 8) 68)) (by kernel_rfl) (by kernel_rfl) (by kernel_rfl) (by kernel_rfl) (fun w => (by kernel_rfl)) (fun w hw => ⟨⟨fun e => absurd e (by decide), fun e => absurd e (by decide), fun _ => ⟨w.heap.size, gE, rfl, RdX.oneF _ _ _ _ _, (by obtain ⟨gE2, e1, e2⟩ := (hw.2 _ List.mem_cons_self (by kernel_rfl)).2.1 rfl; obtain rfl : gE = gE2 := (by injection e1 with e1; simpa using e1); exact e2.below ((Below.refl _ _).alloc (Nat.le_refl _) _))⟩, fun e => absurd e (by decide)⟩, hw.1.alloc hw.1.size _, (Below.refl _ _).alloc (Nat.le_refl _) _⟩) ?_
  rintro v ⟨w', hw', hW⟩
  obtain ⟨gF, gE2, rfl, h4, h5⟩ := hW.2.2.1 rfl
  clear h4 h5 hW hw' w'
  refine fcall 25 23 #[.int .u64 (keyI 1 x.id), .agg #[.int .i64 (0 : Nat), .int .i64 (0 : Nat), .int .i64 x.id, .slice x.T x.tn x.tc, .int .i64 0, .int .i64 0], .int .i64 (0 : Nat), .int .i64 (-1), .slice (some ⟨gF, 0, none⟩) 1 1] (by kernel_rfl) (by kernel_rfl) (by kernel_rfl) (by kernel_rfl) (fun w => (by kernel_rfl)) (fun w hw => ?hx9_25) ?_
  case hx9_25 =>
    obtain ⟨gF2, gE2, e1, e2, e3⟩ := (hw.2 _ List.mem_cons_self (by kernel_rfl)).2.2.1 rfl
    obtain rfl : gF = gF2 := by injection e1 with e1; simpa using e1
    refine (greet_any (keyI 1 x.id) (keyI_range _ _).1 (keyI_range _ _).2 0 x.id (by decide) HOK.out.id1 x.T x.tn x.tc x.tok HOK.out.htn htk x.word.toNat (some ⟨gE2, 0, none⟩) 8 (by decide) (by decide) (some ⟨gF, 0, none⟩) w (HOK.out.rd.below (HB5.out.trans (hw.1.mono HB5.out.size))) e2 e3).mono ?_
    rintro e w' ⟨D, dc, rfl, hD, hb⟩
    exact ⟨_, rfl, ⟨fun e => absurd e (by decide), fun e => absurd e (by decide), fun e => absurd e (by decide), fun _ => ⟨D, dc, rfl, hD.mono hw.1.size⟩⟩, hw.1.trans (hb.mono hw.1.size), hb⟩
  rintro v ⟨w', hw', hW⟩
  obtain ⟨D, dc, rfl, h4⟩ := hW.2.2.2 rfl
  clear h4 hW hw' w'
  refine fq 26 (.slice D (24 + x.tn) dc) (by kernel_rfl) (by kernel_rfl) (by kernel_rfl) (by kernel_rfl) (fun w => (by kernel_rfl)) ?_
  refine fq 27 (.int .i64 0) (by kernel_rfl) (by kernel_rfl) (by kernel_rfl) (by kernel_rfl) (fun w => (by kernel_rfl)) ?_
  refine fend [12, 13] (by kernel_rfl) (by kernel_rfl) ?_
  intro w6 hw6 hF
  obtain ⟨D2, dc2, e2, hOD⟩ := (hF _ List.mem_cons_self).2.2.2 rfl
  obtain ⟨rfl, rfl⟩ : D = D2 ∧ dc = dc2 := by injection e2 with e2; simpa using e2
  clear hF e2
  refine tval (some 2) (.slice D (24 + x.tn) dc) w6 (by kernel_rfl) (by kernel_rfl) (by kernel_rfl) ?_
  refine tval (some 3) (.int .i64 0) w6 (by kernel_rfl) (by kernel_rfl) (by kernel_rfl) ?_
  refine tend ?_
  go_simp
  refine (show ∀ (a : Act) (w : World), Code.wp _ _ _ a w → _ from by assumption) _ _ ?_
  refine wp_world (fun w' => OwnX u8c 1 w' w5.heap.size 5 D dc (greetB (keyI 1 x.id) 0 x.id x.tok x.word.toNat) ∧ Below w5.heap.size w5 w') ⟨hOD, hw6⟩ ?_
  clear hOD hw6
  rintro w7 ⟨hOD, hw7⟩
  go_wp2_with fail
  exact bodyPost_ret (v := .tuple #[.slice D (24 + x.tn) dc, .int .i64 0]) (by simp [results, Tryz.results36, go_sem]) rfl ⟨D, dc, rfl, hOD.mono HB5.out.size, HB5.out.trans (hw7.mono HB5.out.size)⟩
  -- ]]h1
end Go.Proofs.YtbcagdjfegobnaaGreat
/- Clients whose connection has just begun: the contracts of client.first (who is answered) and flush (nothing to tell). -/
namespace Go.Proofs.YtbcagdjfegobnaaGreat
open Go.ChangeShapes Go.WideShapes Go.ChangeAt Go.RowKit
set_option linter.unusedVariables false

/-- .. that was answered. -/
def ClM.met (x : ClM) (nx y : Nat) : ClM := { x with to_ := nx, key := sessI x.word y }
theorem fr_cell {w : World} {L : Option Addr} {ys : List FrM} {y : Nat} (h : FrRd w L ys) (hys : ys.map (·.f) = [helloFr y]) : ∃ b off D dd, L = some ⟨b, off, none⟩ ∧ (∃ zA zc, ∀ j v, (#[.int .i64 6, .int .i64 0, .int .i64 0, .bool false, .int .i64 0, .slice zA 0 zc, .slice D 8 dd] : Array Value)[j]? = some v → w.cell? ⟨b, off + j, none⟩ = some v) ∧ RdB w D (beB 8 y) ∧ 8 ≤ dd ∧ dd ≤ 9223372036854775807 := by
  have hl : ys.length = 1 := by have := congrArg List.length hys; simpa using this
  obtain ⟨b, off, rfl, hc⟩ := h.at_ (by omega)
  obtain ⟨z, rfl⟩ : ∃ z, ys = [z] := by
    match ys, hl with
    | [z], _ => exact ⟨z, rfl⟩
  have hz : z.f = helloFr y := by simpa using hys
  have hx := h.2 z List.mem_cons_self
  obtain ⟨zf, zA, zc, zB, zd⟩ := z
  simp only at hz
  subst hz
  obtain ⟨r1, r2, r3, r4, r5, r6⟩ := hx
  refine ⟨b, off, zB, zd, rfl, ⟨zA, zc, fun j v hv => ?_⟩, r2, by simpa [helloFr, beB_length] using r5, r6⟩
  have hj : j < 7 := (Array.getElem?_eq_some_iff.1 hv).1
  have := hc 0 (by simp) j v hj (by
    have e : fmc (List.getD [(⟨helloFr y, zA, zc, zB, zd⟩ : FrM)] 0 fmn) = (#[.int .i64 6, .int .i64 0, .int .i64 0, .bool false, .int .i64 0, .slice zA 0 zc, .slice zB 8 zd] : Array Value).toList := by simp [fmc, helloFr, beB_length]
    rw [e]; simpa using hv)
  simpa using this

set_option maxRecDepth 100000 in
set_option maxHeartbeats 8000000 in
theorem clFirst_ok (x : ClM) (nx y : Nat) (h0 : 1 ≤ nx) (h1 : nx ≤ 255) (hy : y < 18446744073709551616) (hto : x.to_ = 0) (T : Option Addr) (d : Nat) (U : Nat) (hU : (pktHd ⟨0, x.id, nx, [], 0, 0⟩ 1 0).length = U) (B : Option Addr) (bc : Nat) (hbc : 24 ≤ bc) (hbm : bc ≤ 9223372036854775807)
    (w : World) (h : ClOk w x) (hB : RdB w B (greetB (keyI 1 x.id) x.id nx [] y)) :
    Calls Tryz.prog 71 #[.agg (clc x), .agg #[.int .i64 (0 : Nat), .int .i64 x.id, .int .i64 nx, .slice T (0 : Nat) d, .int .i64 (0 : Nat), .int .i64 (1 : Nat)], .int .i64 (U : Nat), .slice B 24 bc] w fun e w' => e = .returned (.tuple #[.agg (clc (x.met nx y)), .int .i64 0]) ∧ Below w.heap.size w w' := by
  have hBL := greetB_len (keyI 1 x.id) x.id nx [] y (by decide)
  have hb0 : B = none → bc = 0 := fun e => by
    obtain ⟨b, off, e2⟩ := Blk.noneF hB hBL (by simp)
    rw [e2] at e; cases e
  have hUl : U ≤ 100000 := by
    have : (greetB (keyI 1 x.id) x.id nx [] y).length = (pktHd ⟨0, x.id, nx, [], 0, 0⟩ 1 0).length + (sealB (keyI 1 x.id) (0 : Nat) (pktHd ⟨0, x.id, nx, [], 0, 0⟩ 1 0) ([helloFr y].flatMap fenc)).length := by unfold greetB pktB; rw [List.length_append]
    rw [hBL] at this
    simp at this
    omega
  have HUN := Lib.hid (fun W hW => unpack_any (keyI 1 x.id) (keyI_range _ _).1 (keyI_range _ _).2 0 x.id nx T 0 d 0 1 U (by decide) (by decide) (-1) (by decide) (by decide) hUl B 24 bc _ hBL hbc hbm (by decide) hb0 W hW)
  rw [← hU, greetB_unpack, hU] at HUN
  have HB := Lib.hid hB
  have HOK := Lib.hid h
  have HTO := Lib.hid (show ((x.to_ : Nat) : Int) = 0 by rw [hto]; rfl)
  clear h hB hb0 hBL hto
  go_enter Tryz.func71, Tryz.ntmps71
  unfold clc
  -- [[p1
  go_upto_region 1 with (fail)
  refine wp_world (fun w' => Blk w' w.heap.size 45 (clc x) ∧ Blk w' (w.heap.size + 1) 61 #[.int .i64 (0 : Nat), .int .i64 x.id, .int .i64 nx, .slice T (0 : Nat) d, .int .i64 (0 : Nat), .int .i64 (1 : Nat)] ∧ (∃ z, z.size = 30 ∧ Blk w' (w.heap.size + 1 + 1) 45 z) ∧ Below w.heap.size w w') ⟨((Blk.new _ _ _).alloc _).alloc _, (Blk.new1 _ _ _ _).alloc _, ⟨_, rfl, Blk.newF (by simp)⟩, (((Below.refl _ _).alloc (Nat.le_refl _) _).alloc (by simp) _).alloc (by simp; omega) _⟩ ?_
  rintro w1 ⟨hX, hH, ⟨z, hz, hZ⟩, hb1⟩
  obtain ⟨q, hq⟩ : ∃ q, w.heap.size = q := ⟨_, rfl⟩
  obtain ⟨q1, hq1⟩ : ∃ q, w.heap.size + 1 = q := ⟨_, rfl⟩
  obtain ⟨gR, hgR⟩ : ∃ q, w.heap.size + 1 + 1 = q := ⟨_, rfl⟩
  have hqw : w.heap.size ≤ q := by omega
  have hqr : w.heap.size ≤ gR := by omega
  have hne : gR ≠ q := by omega
  have hne1 : q1 ≠ q := by omega
  rw [hgR] at hZ ⊢
  rw [hq1] at hH ⊢
  rw [hq] at hX ⊢
  have HX := Lib.hid hX
  have HH := Lib.hid hH
  have HZ := Lib.hid hZ
  have HB1 := Lib.hid hb1
  have HB := Lib.hid (HB.out.below hb1)
  have f1 := (clFacts hX).2.2.1
  clear hX hH hZ hb1 hq hq1 hgR
  refine wp_flow (fun k => decide (k < 11)) (fun k => k == 2 || k == 6) 72 [0, 1, 2, 3, 4, 5, 6, 7, 8, 9, 10] (fun w' => Below w1.heap.size w1 w') (fun k a v w' => (k = 2 → v = .int .u64 (keyI 1 x.id)) ∧ (k = 6 → ∃ L lc ys, v = .tuple #[.int .i64 0, .slice L 1 lc, .int .i64 0] ∧ ys.map (·.f) = [helloFr y] ∧ FrRd w' L ys ∧ 1 ≤ lc ∧ lc ≤ 9223372036854775807)) (by kernel_rfl) ?hflB ?hpuB ?hksB (fun _ _ _ _ _ h => h) rfl ?hst ?hC ?_
  case hflB => kernel_rfl
  case hpuB => kernel_rfl
  case hksB => kernel_rfl
  case hst => exact ⟨fun w0 w1 h1 hb => h1.trans (hb.mono h1.size), fun k a v w0 w1 hW hb => ⟨fun e => (fun hp => hp) (hW.1 e), fun e => (fun hp => by obtain ⟨L, lc, ys, e1, e2, e3, e4⟩ := hp; exact ⟨L, lc, ys, e1, e2, e3.below hb, e4⟩) (hW.2 e)⟩, fun k a b v w0 _ h => h⟩
  case hC => exact (Below.refl _ _).drew
  refine fq 16 (.pointer (some ⟨q, 1, none⟩)) (by kernel_rfl) (by kernel_rfl) (by kernel_rfl) (by kernel_rfl) (fun w => (by kernel_rfl)) ?_
  refine fq1 17 (.int .i64 x.id) 3 (.tmp 16) q 1 _ (by kernel_rfl) (by kernel_rfl) (by kernel_rfl) (by kernel_rfl) (by kernel_rfl) (by kernel_rfl) Tryz.underlying3 rfl (fun w hw => cell_on hw.1 HX.out.lt f1) ?_
  refine fcall 18 24 #[.int .i64 x.id] (by kernel_rfl) (by kernel_rfl) (by kernel_rfl) (by kernel_rfl) (fun w => (by kernel_rfl)) (fun w hw => (first_any x.id w).mono ?hx2_18) ?_
  case hx2_18 =>
    rintro e w' ⟨rfl, rfl⟩
    exact ⟨_, rfl, ⟨fun _ => rfl, fun e => absurd e (by decide)⟩, hw.1, Below.refl _ _⟩
  rintro v ⟨w', hw', hW⟩
  obtain rfl := hW.1 rfl
  clear  hW hw' w'
  refine fqR 19 #[.int .i64 (0 : Nat), .int .i64 x.id, .int .i64 nx, .slice T (0 : Nat) d, .int .i64 (0 : Nat), .int .i64 (1 : Nat)] 61 (.tmp 5) q1 0 _ (by kernel_rfl) (by kernel_rfl) (by kernel_rfl) (by kernel_rfl) (by kernel_rfl) (by kernel_rfl) Tryz.underlying61 rfl (by kernel_rfl) (fun w hw => (HH.out.carry hw.1).whole) ?_
  refine fq 20 (.int .i64 (U : Nat)) (by kernel_rfl) (by kernel_rfl) (by kernel_rfl) (by kernel_rfl) (fun w => (by kernel_rfl)) ?_
  refine fq 21 (.slice B 24 bc) (by kernel_rfl) (by kernel_rfl) (by kernel_rfl) (by kernel_rfl) (fun w => (by kernel_rfl)) ?_
  refine fcall 22 32 #[.int .u64 (keyI 1 x.id), .agg #[.int .i64 (0 : Nat), .int .i64 x.id, .int .i64 nx, .slice T (0 : Nat) d, .int .i64 (0 : Nat), .int .i64 (1 : Nat)], .int .i64 (U : Nat), .int .i64 (-1), .slice B 24 bc] (by kernel_rfl) (by kernel_rfl) (by kernel_rfl) (by kernel_rfl) (fun w => (by kernel_rfl)) (fun w hw => (HUN.out w (HB.out.below hw.1)).mono ?hx6_22) ?_
  case hx6_22 =>
    rintro e w' ⟨L, k, lc, ys, rfl, hys, hk, hrow, hb⟩
    obtain rfl : k = 1 := by rw [← hk]; have := congrArg List.length hys; simpa using this
    exact ⟨_, rfl, ⟨fun e => absurd e (by decide), fun _ => ⟨L, lc, ys, rfl, hys, hrow.rd, by have := hrow.1.cap; omega, hrow.1.cap.2⟩⟩, hw.1.trans (hb.mono hw.1.size), hb⟩
  rintro v ⟨w', hw', hW⟩
  obtain ⟨L, lc, ys, rfl, hys, h4, hlc1, hlc2⟩ := hW.2 rfl
  clear h4 hW hw' w'
  refine fq 15 (.tuple #[.int .i64 0, .slice L 1 lc, .int .i64 0]) (by kernel_rfl) (by kernel_rfl) (by kernel_rfl) (by kernel_rfl) (fun w => (by kernel_rfl)) ?_
  refine fq 23 (.int .i64 0) (by kernel_rfl) (by kernel_rfl) (by kernel_rfl) (by kernel_rfl) (fun w => (by kernel_rfl)) ?_
  refine fq 24 (.slice L 1 lc) (by kernel_rfl) (by kernel_rfl) (by kernel_rfl) (by kernel_rfl) (fun w => (by kernel_rfl)) ?_
  refine fq 25 (.int .i64 0) (by kernel_rfl) (by kernel_rfl) (by kernel_rfl) (by kernel_rfl) (fun w => (by kernel_rfl)) ?_
  refine fend [11, 12, 13] (by kernel_rfl) (by kernel_rfl) ?_
  intro w2 hw2 hF
  obtain ⟨L2, lc2, ys2, e2, hys2, hL, _, _⟩ := (hF _ List.mem_cons_self).2 rfl
  obtain ⟨rfl, rfl⟩ : L = L2 ∧ lc = lc2 := by injection e2 with e2; simpa using e2
  clear hF e2 hys ys
  refine tval (some 10) (.int .i64 0) w2 (by kernel_rfl) (by kernel_rfl) (by kernel_rfl) ?_
  refine tval (some 11) (.slice L 1 lc) w2 (by kernel_rfl) (by kernel_rfl) (by kernel_rfl) ?_
  refine tval (some 12) (.int .i64 0) w2 (by kernel_rfl) (by kernel_rfl) (by kernel_rfl) ?_
  refine tend ?_
  go_simp
  refine (show ∀ (a : Act) (w : World), Code.wp _ _ _ a w → _ from by assumption) _ _ ?_
  refine wp_world (fun w' => FrRd w' L ys2 ∧ Below w1.heap.size w1 w') ⟨hL, hw2⟩ ?_
  clear hL hw2 HUN HB f1
  rintro w3 ⟨hL, hw3⟩
  have HX3 := Lib.hid (HX.out.carry hw3)
  have HH3 := Lib.hid (HH.out.carry hw3)
  have HZ3 := Lib.hid (HZ.out.carry hw3)
  have HB3 := Lib.hid (HB1.out.trans (hw3.mono HB1.out.size))
  have HL := Lib.hid hL
  have F := clFacts HX3.out
  rw [HTO.out] at F
  have FH : w3.cell? ⟨q1, 2, none⟩ = some (.int .i64 nx) := HH3.out.two2
  have hq1l : q1 < w3.heap.size := HH3.out.lt
  have hnx0 : ((nx : Int) == 0) = false := by simp; omega
  obtain ⟨b, off, D, dd, rfl, ⟨zA, zc, hcell⟩, hD, hd1, hd2⟩ := fr_cell hL hys2
  have HC := Lib.hid hcell
  have HD := Lib.hid hD
  clear hL hw3 HX HH HZ HB1 hcell hD
  -- [[p2
  go_wp2_with fail
  refine wp_loop_rounds 1 ?_
  rw [rounds_succ]
  go_upto_region 9 with (refine wpList_loadR rfl 68 (.tmp 43) rfl b off rfl #[.int .i64 6, .int .i64 0, .int .i64 0, .bool false, .int .i64 0, .slice zA 0 zc, .slice D 8 dd] _ Tryz.underlying68 rfl (by kernel_rfl) HC.out ?_)
  obtain ⟨gf, hgf⟩ : ∃ q, w3.heap.size = q := ⟨_, rfl⟩
  refine wp_world (fun w' => Blk w' gf 68 #[.int .i64 6, .int .i64 0, .int .i64 0, .bool false, .int .i64 0, .slice zA 0 zc, .slice D 8 dd] ∧ Blk w' q 45 (clc x) ∧ Blk w' q1 61 #[.int .i64 (0 : Nat), .int .i64 x.id, .int .i64 nx, .slice T (0 : Nat) d, .int .i64 (0 : Nat), .int .i64 (1 : Nat)] ∧ Blk w' gR 45 z ∧ RdB w' D (beB 8 y) ∧ Below w.heap.size w w') ⟨Blk.newF hgf, HX3.out.alloc _, HH3.out.alloc _, HZ3.out.alloc _, HD.out.below ((Below.refl _ _).alloc (Nat.le_refl _) _), HB3.out.alloc HB3.out.size _⟩ ?_
  rw [hgf]
  clear hgf HX3 HH3 HZ3 HB3 F FH hq1l HC HD HL
  rintro w5 ⟨hF, hX, hH, hZ, hD, hb⟩
  have HF5 := Lib.hid hF
  have HX5 := Lib.hid hX
  have HH5 := Lib.hid hH
  have HZ5 := Lib.hid hZ
  have HD5 := Lib.hid hD
  have HB5 := Lib.hid hb
  have FF := Blk.c7 hF
  have f6 := FF.2.2.2.2.2.2.2
  have f2 := (clFacts hX).2.2.2.1
  have hv : valB (beB 8 y) 0 = y := by have := valB_beB 8 y 0 (by omega); simpa using this
  have HWD := Lib.hid (fun W hW => word_8 D (beB 8 y) dd W (beB8_len y) hW hd1 hd2)
  rw [hv] at HWD
  clear hF hX hH hZ hD hb hv
  go_upto_region 10 with (fail)
  clear FF
  -- [[p3
  refine wp_flow (fun k => decide (k < 9)) (fun k => k == 6 || k == 7) 72 [0, 1, 2, 3, 4, 5, 6, 7, 8] (fun w' => Below w5.heap.size w5 w') (fun k a v w' => (k = 6 → v = .int .u64 (y : Nat)) ∧ (k = 7 → v = .int .u64 (sessI x.word y))) (by kernel_rfl) ?hflB ?hpuB ?hksB (fun _ _ _ _ _ h => h) rfl ?hst ?hC ?_
  case hflB => kernel_rfl
  case hpuB => kernel_rfl
  case hksB => kernel_rfl
  case hst => exact ⟨fun w0 w1 h1 hb => h1.trans (hb.mono h1.size), fun k a v w0 w1 hW hb => ⟨fun e => (fun hp => hp) (hW.1 e), fun e => (fun hp => hp) (hW.2 e)⟩, fun k a b v w0 _ h => h⟩
  case hC => exact (Below.refl _ _).drew
  refine fq 59 (.pointer (some ⟨q1, 2, none⟩)) (by kernel_rfl) (by kernel_rfl) (by kernel_rfl) (by kernel_rfl) (fun w => (by kernel_rfl)) ?_
  refine fq1 60 (.int .i64 nx) 3 (.tmp 59) q1 2 _ (by kernel_rfl) (by kernel_rfl) (by kernel_rfl) (by kernel_rfl) (by kernel_rfl) (by kernel_rfl) Tryz.underlying3 rfl (fun w hw => cell_on hw.1 HH5.out.lt HH5.out.two2) ?_
  refine fq 61 (.pointer (some ⟨q, 2, none⟩)) (by kernel_rfl) (by kernel_rfl) (by kernel_rfl) (by kernel_rfl) (fun w => (by kernel_rfl)) ?_
  refine fq1 62 (.int .u64 x.word) 23 (.tmp 61) q 2 _ (by kernel_rfl) (by kernel_rfl) (by kernel_rfl) (by kernel_rfl) (by kernel_rfl) (by kernel_rfl) Tryz.underlying23 rfl (fun w hw => cell_on hw.1 HX5.out.lt f2) ?_
  refine fq 63 (.pointer (some ⟨gf, 6, none⟩)) (by kernel_rfl) (by kernel_rfl) (by kernel_rfl) (by kernel_rfl) (fun w => (by kernel_rfl)) ?_
  refine fq1 64 (.slice D 8 dd) 30 (.tmp 63) gf 6 _ (by kernel_rfl) (by kernel_rfl) (by kernel_rfl) (by kernel_rfl) (by kernel_rfl) (by kernel_rfl) Tryz.underlying30 rfl (fun w hw => cell_on hw.1 HF5.out.lt f6) ?_
  refine fcall 65 109 #[.slice D 8 dd] (by kernel_rfl) (by kernel_rfl) (by kernel_rfl) (by kernel_rfl) (fun w => (by kernel_rfl)) (fun w hw => (HWD.out w (HD5.out.below hw.1)).mono ?hx6_65) ?_
  case hx6_65 =>
    rintro e w' ⟨rfl, rfl⟩
    exact ⟨_, rfl, ⟨fun _ => rfl, fun e => absurd e (by decide)⟩, hw.1, Below.refl _ _⟩
  rintro v ⟨w', hw', hW⟩
  obtain rfl := hW.1 rfl
  clear  hW hw' w'
  refine fcall 66 100 #[.int .u64 x.word, .int .u64 (y : Nat)] (by kernel_rfl) (by kernel_rfl) (by kernel_rfl) (by kernel_rfl) (fun w => (by kernel_rfl)) (fun w hw => (session_any x.word y HOK.out.w0 HOK.out.w1 (by omega) (by omega) w).mono ?hx7_66) ?_
  case hx7_66 =>
    rintro e w' ⟨rfl, rfl⟩
    exact ⟨_, rfl, ⟨fun e => absurd e (by decide), fun _ => rfl⟩, hw.1, Below.refl _ _⟩
  rintro v ⟨w', hw', hW⟩
  obtain rfl := hW.2 rfl
  clear  hW hw' w'
  refine fq 67 (.pointer (some ⟨q, 4, none⟩)) (by kernel_rfl) (by kernel_rfl) (by kernel_rfl) (by kernel_rfl) (fun w => (by kernel_rfl)) ?_
  refine fend [9, 10, 11] (by kernel_rfl) (by kernel_rfl) ?_
  intro w6 hw6 _
  have hX6 := HX5.out.carry hw6
  refine tstore1 (by kernel_rfl) (by kernel_rfl) 3 (.tmp 67) (.tmp 60) (by kernel_rfl) q 4 (by kernel_rfl) (.int .i64 nx) (by kernel_rfl) rfl rfl 45 _ hX6 (by kernel_rfl) (by simp [clc]) ?_
  intro w7 hB7 hw7
  refine tval (some 68) (.pointer (some ⟨q, 5, none⟩)) w7 (by kernel_rfl) (by kernel_rfl) (by kernel_rfl) ?_
  refine tstore1 (by kernel_rfl) (by kernel_rfl) 23 (.tmp 68) (.tmp 66) (by kernel_rfl) q 5 (by kernel_rfl) (.int .u64 (sessI x.word y)) (by kernel_rfl) rfl rfl 45 _ hB7 (by kernel_rfl) (by simp [clc]) ?_
  intro w8 hB8 hw8
  have hw78 := hw7.trans hw8
  have hX8 : Blk w8 q 45 (clc (x.met nx y)) := hB8.as (by kernel_rfl)
  refine tend ?_
  go_simp
  refine (show ∀ (a : Act) (w : World), Code.wp _ _ _ a w → _ from by assumption) _ _ ?_
  have hZ8 := (HZ5.out.carry hw6).wr hw78 hne
  have hb8 := hw78.trans_below (HB5.out.trans (hw6.mono HB5.out.size)) hqw
  refine wp_world (fun w' => Blk w' q 45 (clc (x.met nx y)) ∧ Blk w' gR 45 z ∧ Below w.heap.size w w') ⟨hX8, hZ8, hb8⟩ ?_
  clear hX8 hZ8 hb8 hw78 hw8 hw7 hB8 hB7 hX6 hw6 HF5 HX5 HH5 HZ5 HD5 HB5 HWD f2 f6
  rintro w9 ⟨hX, hZ, hb⟩
  have HX := Lib.hid hX
  have HZ := Lib.hid hZ
  have HB := Lib.hid hb
  clear hX hZ hb
  go_wp2_with (first
    | refine wpList_loadR rfl 45 (.tmp 4) rfl q 0 rfl (clc (x.met nx y)) _ Tryz.underlying45 rfl (by kernel_rfl) HX.out.whole ?_
    | (refine wpList_storeP rfl 45 (.tmp 8) (.tmp 69) rfl gR 0 rfl (clc (x.met nx y)) rfl 45 _ HZ.out (by kernel_rfl) (by simp [clc, hz]) (clc_one _) _ (splice_all _ _ (by simp [clc, hz])) ?_
       intro w10 hB10 hw10))
  exact bodyPost_ret (results_c2 _ _ gR _ (clc (x.met nx y)) _ Tryz.results71 rfl hB10 Tryz.underlying45 rfl (by kernel_rfl) rfl) rfl ⟨rfl, hw10.trans_below HB.out hqr⟩
  -- ]]p3
  -- ]]p2
  -- ]]p1

set_option maxRecDepth 100000 in
set_option maxHeartbeats 8000000 in
theorem clFlush_ok (x : ClM) (now : Int) (n0 : 0 ≤ now) (n1 : now ≤ 1099511627776) (w : World) (h : ClOk w x) :
    Calls Tryz.prog 72 #[.agg (clc x), .int .i64 now] w fun e w' => ∃ y, e = .returned (.tuple #[.agg (clc y), .slice none 0 0]) ∧ ClOk w' y ∧ y.pl = x.pl ∧ OwnX u8c 1 w' w.heap.size 5 y.T y.tc y.tok ∧ Below w.heap.size w w' := by
  have HOK := Lib.hid h
  clear h
  go_enter Tryz.func72, Tryz.ntmps72
  unfold clc
  -- [[u1
  go_upto_region 1 with (fail)
  refine wp_world (fun w' => Blk w' w.heap.size 45 (clc x) ∧ (∃ z, z.size = 30 ∧ Blk w' (w.heap.size + 1) 45 z) ∧ Below w.heap.size w w') ⟨(Blk.new _ _ _).alloc _, ⟨_, rfl, Blk.new1 _ _ _ _⟩, ((Below.refl _ _).alloc (Nat.le_refl _) _).alloc (by simp) _⟩ ?_
  rintro w1 ⟨hX, ⟨z, hz, hZ⟩, hb1⟩
  obtain ⟨q, hq⟩ : ∃ q, w.heap.size = q := ⟨_, rfl⟩
  obtain ⟨gR, hgR⟩ : ∃ q, w.heap.size + 1 = q := ⟨_, rfl⟩
  have hqr : w.heap.size ≤ gR := by omega
  rw [hgR] at hZ ⊢
  rw [hq] at hX ⊢
  have HX := Lib.hid hX
  have HZ := Lib.hid hZ
  have HB1 := Lib.hid hb1
  clear hX hZ hb1 hq hgR
  go_wp2_with fail
  refine wp_loop_rounds 1 ?_
  rw [rounds_succ]
  go_wp2_with (refine wpList_loadR rfl 43 (.tmp 15) rfl q 6 rfl (bg0 true x.A x.c x.B x.d x.last 4 0) _ Tryz.underlying43 rfl (by kernel_rfl) (HX.out.part 6 _ (clc_part x)) ?_)
  refine (connFlush_bg0 true x.A x.c x.B x.d x.last 4 0 (.inl ⟨rfl, rfl⟩) HOK.out.c1 HOK.out.d1 HOK.out.l0 HOK.out.l1 now n0 n1 _).mono ?_
  rintro e w2 ⟨A', B', rfl, hb2⟩
  have HX2 := Lib.hid (HX.out.carry hb2)
  have HZ2 := Lib.hid (HZ.out.carry hb2)
  have HB2 := Lib.hid (HB1.out.trans (hb2.mono HB1.out.size))
  clear hb2 HX HZ HB1
  -- [[u2
  go_upto_region 5 with (first
    | (refine wpList_storeP rfl 43 (.tmp 7) (.tmp 19) rfl w2.heap.size 0 rfl (bg0 true A' 0 B' 0 x.last 4 0) rfl 43 _ (Blk.new _ _ _) (by kernel_rfl) (by simp [bg0]) (bg0_one _ _ _ _ _ _ _ _) _ (splice_all _ _ (by simp [bg0])) ?_
       intro w3 hB3 hw3
       have hb3 : Below w2.heap.size w2 w3 := hw3.trans_below ((Below.refl _ _).alloc (Nat.le_refl _) _) (Nat.le_refl _)))
  refine wp_world (fun w' => Blk w' q 45 (clc x) ∧ Blk w' gR 45 z ∧ Below w.heap.size w w') ⟨HX2.out.carry hb3, HZ2.out.carry hb3, HB2.out.trans (hb3.mono HB2.out.size)⟩ ?_
  clear hb3 hw3 hB3 HX2 HZ2 HB2
  rintro w4 ⟨hX, hZ, hb⟩
  have HX := Lib.hid hX
  have HZ := Lib.hid hZ
  have HB := Lib.hid hb
  clear hX hZ hb
  go_wp2_with (refine wpList_loadR rfl 45 (.tmp 2) rfl q 0 rfl (clc x) _ Tryz.underlying45 rfl (by kernel_rfl) HX.out.whole ?_)
  refine (clFresh_ok x _ (HOK.out.below HB.out)).mono ?_
  rintro e w5 ⟨y, rfl, hy, hpl, hown, hb5⟩
  have HOW := Lib.hid hown
  clear hown
  have HZ5 := Lib.hid (HZ.out.carry hb5)
  have HB5 := Lib.hid (HB.out.trans (hb5.mono HB.out.size))
  have HY := Lib.hid hy
  have HPL := Lib.hid hpl
  clear hb5 hy hpl HZ HX
  go_wp2_with (first
    | (refine wpList_storeP rfl 45 (.tmp 4) (.tmp 61) rfl gR 0 rfl (clc y) rfl 45 _ HZ5.out (by kernel_rfl) (by simp [clc, hz]) (clc_one _) _ (splice_all _ _ (by simp [clc, hz])) ?_
       intro w10 hB10 hw10))
  exact bodyPost_ret (results_c2 _ _ gR _ (clc y) _ Tryz.results72 rfl hB10 Tryz.underlying45 rfl (by kernel_rfl) rfl) rfl ⟨y, rfl, { HY.out with rd := (HOW.out.wr hw10 (own_ne HOW.out HZ5.out (by decide))).rd.b }, HPL.out, (HOW.out.wr hw10 (own_ne HOW.out HZ5.out (by decide))).mono HB.out.size, hw10.trans_below HB5.out hqr⟩
  -- ]]u2
  -- ]]u1
end Go.Proofs.YtbcagdjfegobnaaGreat
/- Clients whose connection has just begun: the contracts of client.Hear. -/
namespace Go.Proofs.YtbcagdjfegobnaaGreat
open Go.ChangeShapes Go.WideShapes Go.ChangeAt Go.RowKit
set_option linter.unusedVariables false

theorem ClM.pl_eq {x y : ClM} (h : y.pl = x.pl) : y.p = x.p ∧ y.id = x.id ∧ y.to_ = x.to_ ∧ y.word = x.word ∧ y.key = x.key ∧ y.last = x.last ∧ y.tok = x.tok := by
  simpa [ClM.pl] using h
def ClM.told (x : ClM) (tok : List UInt8) (T : Option Addr) (d : Nat) : ClM := { x with tok := tok, T := T, tn := tok.length, tc := d }




set_option maxRecDepth 100000 in
set_option maxHeartbeats 8000000 in
theorem clHear_first (x : ClM) (now : Int) (n0 : 0 ≤ now) (n1 : now ≤ 1099511627776) (nx y : Nat) (hx0 : 1 ≤ nx) (hx1 : nx ≤ 255) (hy : y < 18446744073709551616) (hto0 : x.to_ = 0) (U : Nat) (B : Option Addr) (bn bc : Nat) (bs : List UInt8) (hbn : bs.length = bn) (hbc : bn ≤ bc) (hbm : bc ≤ 9223372036854775807) (h400 : bn ≤ 400) (hdc : hdec bs = (⟨0, x.id, nx, [], 0, 1⟩, U, 0)) (hU : (pktHd ⟨0, x.id, nx, [], 0, 0⟩ 1 0).length = U) (hbs : bs = greetB (keyI 1 x.id) x.id nx [] y)
    (w : World) (h : ClOk w x) (hB : RdB w B bs) :
    Calls Tryz.prog 35 #[.agg (clc x), .int .i64 now, .slice B bn bc] w fun e w' => (∃ y2, e = .returned (.tuple #[.agg (clc y2), .slice none 0 0, .int .i64 0]) ∧ ClOk w' y2 ∧ y2.pl = (x.met nx y).pl ∧ OwnX u8c 1 w' w.heap.size 5 y2.T y2.tc y2.tok) ∧ Below w.heap.size w w' := by
  have HTO := Lib.hid hto0
  clear hto0
  have HOK0 := Lib.hid h
  have HBB := Lib.hid hB
  obtain rfl : bn = 24 := by rw [← hbn, hbs]; exact greetB_len _ _ _ [] _ (by decide)
  have HBN := Lib.hid hbn
  have HBS := Lib.hid hbs
  have HU := Lib.hid hU
  clear hbs hU
  have HD := Lib.hid hdc
  have hw4 : ((24 : Nat) : Int) ≤ 400 := by decide
  clear h hB hbn hdc
  go_enter Tryz.func35, Tryz.ntmps35
  unfold clc
  -- [[g1
  go_upto_region 1 with (fail)
  refine wp_world (fun w' => Blk w' w.heap.size 45 (clc x) ∧ (∃ z, z.size = 30 ∧ Blk w' (w.heap.size + 1) 45 z) ∧ Below w.heap.size w w') ⟨(Blk.new _ _ _).alloc _, ⟨_, rfl, Blk.new1 _ _ _ _⟩, ((Below.refl _ _).alloc (Nat.le_refl _) _).alloc (by simp) _⟩ ?_
  rintro w1 ⟨hX, ⟨z, hz, hZ⟩, hb1⟩
  obtain ⟨q, hq⟩ : ∃ q, w.heap.size = q := ⟨_, rfl⟩
  obtain ⟨gR, hgR⟩ : ∃ q, w.heap.size + 1 = q := ⟨_, rfl⟩
  have hqw : w.heap.size ≤ q := by omega
  have hqr : w.heap.size ≤ gR := by omega
  have hne : gR ≠ q := by omega
  rw [hgR] at hZ ⊢
  rw [hq] at hX ⊢
  have HX1 := Lib.hid hX
  have HZ1 := Lib.hid hZ
  have HB1 := Lib.hid hb1
  clear hX hZ hb1 hq hgR
  go_wp2_with (refine wpList_loadR rfl 45 (.tmp 3) rfl q 0 rfl (clc x) _ Tryz.underlying45 rfl (by kernel_rfl) HX1.out.whole ?_)
  refine (clCheck_ok x _ (HOK0.out.below HB1.out)).mono ?_
  rintro e w2 ⟨rfl, hb2⟩
  have HX2 := Lib.hid (HX1.out.carry hb2)
  have HZ2 := Lib.hid (HZ1.out.carry hb2)
  have HB2 := Lib.hid (HB1.out.trans (hb2.mono HB1.out.size))
  clear hb2 HX1 HZ1 HB1
  go_wp2_with (refine wpList_loadR rfl 45 (.tmp 3) rfl q 0 rfl (clc x) _ Tryz.underlying45 rfl (by kernel_rfl) HX2.out.whole ?_)
  refine (clFresh_ok x _ (HOK0.out.below HB2.out)).mono ?_
  rintro e w3 ⟨x1, rfl, hok, hpl, hown, hb3⟩
  have HX3 := Lib.hid (HX2.out.carry hb3)
  have HZ3 := Lib.hid (HZ2.out.carry hb3)
  have HB3 := Lib.hid (HB2.out.trans (hb3.mono HB2.out.size))
  have HOK3 := Lib.hid hok
  have HOW3 := Lib.hid (hown.mono HB2.out.size)
  have HPL := Lib.hid hpl
  clear hb3 HX2 HZ2 HB2 hok hown hpl
  unfold clc
  go_upto_region 9 with (first
    | (refine wpList_storeP rfl 45 (.tmp 3) (.tmp 39) rfl q 0 rfl (clc x1) rfl 45 _ HX3.out (by kernel_rfl) (by simp [clc]) (clc_one _) _ (splice_all _ _ (by simp [clc])) ?_
       intro w4 hB4 hw4))
  refine wp_world (fun w' => Blk w' q 45 (clc x1) ∧ Blk w' gR 45 z ∧ OwnX u8c 1 w' w.heap.size 5 x1.T x1.tc x1.tok ∧ Below w.heap.size w w') ⟨hB4, HZ3.out.wr hw4 hne, HOW3.out.wr hw4 (own_ne HOW3.out HX3.out (by decide)), hw4.trans_below HB3.out hqw⟩ ?_
  clear hB4 hw4 HX3 HZ3 HB3 HOW3
  rintro w5 ⟨hX, hZ, hO, hb⟩
  have HX5 := Lib.hid hX
  have HZ5 := Lib.hid hZ
  have HO5 := Lib.hid hO
  have HB5 := Lib.hid hb
  clear hX hZ hO hb
  have HDEC := hDec_any B bs 24 bc w5 HBN.out (HBB.out.below HB5.out) hbc hbm
  rw [HD.out] at HDEC
  have HDEC := Lib.hid HDEC
  -- [[g2
  go_wp2_with fail
  refine HDEC.out.mono ?_
  rintro e w6 ⟨T, d, rfl, hT, hTd, hTm, hb6⟩
  simp only at hT hTd
  simp only [hcells]
  have HX6 := Lib.hid (HX5.out.carry hb6)
  have HZ6 := Lib.hid (HZ5.out.carry hb6)
  have HO6 := Lib.hid (HO5.out.carry hb6)
  have HB6 := Lib.hid (HB5.out.trans (hb6.mono HB5.out.size))
  have HT6 := Lib.hid hT
  clear hb6 HX5 HZ5 HO5 HB5 HDEC hT
  go_upto_region 12 with (fail)
  obtain ⟨gH, hgH⟩ : ∃ q, w6.heap.size = q := ⟨_, rfl⟩
  refine wp_world (fun w' => Blk w' gH 61 #[.int .i64 (0 : Nat), .int .i64 x.id, .int .i64 (nx : Nat), .slice T (0 : Nat) d, .int .i64 (0 : Nat), .int .i64 (1 : Nat)] ∧ RdB w' T ([] : List UInt8) ∧ Blk w' q 45 (clc x1) ∧ Blk w' gR 45 z ∧ OwnX u8c 1 w' w.heap.size 5 x1.T x1.tc x1.tok ∧ Below w.heap.size w w') ⟨?gva, HT6.out.below ((Below.refl _ _).alloc (Nat.le_refl _) _), HX6.out.alloc _, HZ6.out.alloc _, HO6.out.alloc _, HB6.out.alloc HB6.out.size _⟩ ?_
  case gva => exact (Blk.newF hgH).as (by simp)
  rw [hgH]
  clear hgH HX6 HZ6 HO6 HB6 HT6
  rintro w7 ⟨hH, hT, hX, hZ, hO, hb⟩
  have HH := Lib.hid hH
  have HT := Lib.hid hT
  have HX := Lib.hid hX
  have HZ := Lib.hid hZ
  have HO := Lib.hid hO
  have HB := Lib.hid hb
  have HOK := Lib.hid (show ClOk w7 x1 from { HOK3.out with rd := hO.rd.b })
  have F := clFacts hX
  have G := Blk.facts6 hH
  obtain ⟨ep, eid, eto, eword, ekey, elast, etok⟩ := ClM.pl_eq HPL.out
  clear hH hT hX hZ hO hb HOK3
  rw [eto, HTO.out, eid] at F
  have hto1 : x1.to_ = 0 := by rw [eto]; exact HTO.out
  have HTO1 := Lib.hid hto1
  have HB24 := Lib.hid (HBB.out.below HB.out)
  rw [HBS.out, ← eid] at HB24
  have HU1 := HU.out
  rw [← eid] at HU1
  have HH1 : Blk w7 gH 61 #[.int .i64 (0 : Nat), .int .i64 x1.id, .int .i64 nx, .slice T (0 : Nat) d, .int .i64 (0 : Nat), .int .i64 (1 : Nat)] := by rw [eid]; exact HH.out
  have HH1 := Lib.hid HH1
  have HU1 := Lib.hid HU1
  clear ep eid eto eword ekey elast etok hto1 HBS HU HBB
  -- [[g3
  go_wp2_with (first
    | refine wpList_loadR rfl 45 (.tmp 3) rfl q 0 rfl (clc x1) _ Tryz.underlying45 rfl (by kernel_rfl) HX.out.whole ?_
    | refine wpList_loadR rfl 61 (.tmp 10) rfl gH 0 rfl #[.int .i64 (0 : Nat), .int .i64 x1.id, .int .i64 nx, .slice T (0 : Nat) d, .int .i64 (0 : Nat), .int .i64 (1 : Nat)] _ Tryz.underlying61 rfl (by kernel_rfl) HH1.out.whole ?_)
  refine (clFirst_ok x1 nx y hx0 hx1 hy HTO1.out T d U HU1.out B bc hbc hbm _ HOK.out HB24.out).mono ?_
  rintro e w8 ⟨rfl, hb8⟩
  have HZ8 := Lib.hid (HZ.out.carry hb8)
  have HB8 := Lib.hid (HB.out.trans (hb8.mono HB.out.size))
  have HOK8 := Lib.hid (show ClOk w8 (x1.met nx y) from { HOK.out.below hb8 with to1 := hx1, k0 := (sessI_range _ _).1, k1 := (sessI_range _ _).2 })
  clear hb8 HZ HB HX HH HT HO HOK HH1 HB24 HU1 F G
  -- [[g4
  go_upto_region 23 with (first
    | (refine wpList_storeP rfl 45 (.tmp 15) (.tmp 107) rfl w8.heap.size 0 rfl (clc (x1.met nx y)) rfl 45 _ (Blk.new _ _ _) (by kernel_rfl) (by simp [clc]) (clc_one _) _ (splice_all _ _ (by simp [clc])) ?_
       intro w9 hB9 hw9
       have hb9 : Below w8.heap.size w8 w9 := hw9.trans_below ((Below.refl _ _).alloc (Nat.le_refl _) _) (Nat.le_refl _)))
  obtain ⟨g15, hg15⟩ : ∃ q, w8.heap.size = q := ⟨_, rfl⟩
  refine wp_world (fun w' => Blk w' g15 45 (clc (x1.met nx y)) ∧ ClOk w' (x1.met nx y) ∧ Blk w' gR 45 z ∧ gR < g15 ∧ Below w.heap.size w w') ⟨by rw [← hg15]; exact hB9, HOK8.out.below hb9, HZ8.out.carry hb9, by have := HZ8.out.lt; omega, HB8.out.trans (hb9.mono HB8.out.size)⟩ ?_
  rw [hg15]
  clear hg15 hb9 hw9 hB9 HZ8 HB8 HOK8
  rintro w10 ⟨hX, hok, hZ, hlt, hb⟩
  have HX := Lib.hid hX
  have HOK := Lib.hid hok
  have HZ := Lib.hid hZ
  have HB := Lib.hid hb
  clear hX hok hZ hb
  go_wp2_with (refine wpList_loadR rfl 45 (.tmp 15) rfl g15 0 rfl (clc (x1.met nx y)) _ Tryz.underlying45 rfl (by kernel_rfl) HX.out.whole ?_)
  refine (clFlush_ok (x1.met nx y) now n0 n1 _ HOK.out).mono ?_
  rintro e w11 ⟨y2, rfl, hy2, hpl2, hown, hb11⟩
  have HX11 := Lib.hid (HX.out.carry hb11)
  have HZ11 := Lib.hid (HZ.out.carry hb11)
  have HB11 := Lib.hid (HB.out.trans (hb11.mono HB.out.size))
  have HY := Lib.hid hy2
  have HPL2 := Lib.hid hpl2
  have HOW := Lib.hid hown
  have hg15w : w.heap.size ≤ g15 := by omega
  have HB10S := Lib.hid HB.out.size
  clear hb11 hy2 hpl2 hown HX HZ HB HOK
  -- [[g5
  go_upto_region 26 with (first
    | (refine wpList_storeP rfl 45 (.tmp 15) (.tmp 117) rfl g15 0 rfl (clc y2) rfl 45 _ HX11.out (by kernel_rfl) (by simp [clc]) (clc_one _) _ (splice_all _ _ (by simp [clc])) ?_
       intro w12 hB12 hw12))
  refine wp_world (fun w' => Blk w' g15 45 (clc y2) ∧ OwnX u8c 1 w' w10.heap.size 5 y2.T y2.tc y2.tok ∧ Blk w' gR 45 z ∧ Below w.heap.size w w') ⟨hB12, HOW.out.wr hw12 (own_ne HOW.out HX11.out (by decide)), HZ11.out.wr hw12 (by omega), hw12.trans_below HB11.out hg15w⟩ ?_
  clear hB12 hw12 HX11 HZ11 HB11 HOW
  rintro w13 ⟨hX, hO, hZ, hb⟩
  have HX := Lib.hid hX
  have HO := Lib.hid hO
  have HZ := Lib.hid hZ
  have HB := Lib.hid hb
  clear hX hO hZ hb
  go_wp2_with (first
    | refine wpList_loadR rfl 45 (.tmp 15) rfl g15 0 rfl (clc y2) _ Tryz.underlying45 rfl (by kernel_rfl) HX.out.whole ?_
    | (refine wpList_storeP rfl 45 (.tmp 6) (.tmp 119) rfl gR 0 rfl (clc y2) rfl 45 _ HZ.out (by kernel_rfl) (by simp [clc, hz]) (clc_one _) _ (splice_all _ _ (by simp [clc, hz])) ?_
       intro w20 hB20 hw20))
  obtain ⟨ep, eid, eto, eword, ekey, elast, etok⟩ := ClM.pl_eq HPL.out
  exact bodyPost_ret (results_c3 _ _ gR _ (clc y2) _ Tryz.results35 rfl hB20 Tryz.underlying45 rfl (by kernel_rfl) rfl rfl) rfl ⟨⟨y2, rfl, { HY.out with rd := (HO.out.wr hw20 (own_ne HO.out HZ.out (by decide))).rd.b }, by rw [HPL2.out]; simp [ClM.pl, ClM.met, ep, eid, eword, elast, etok], (HO.out.wr hw20 (own_ne HO.out HZ.out (by decide))).mono HB10S.out⟩, hw20.trans_below HB.out hqr⟩
  -- ]]g5
  -- ]]g4
  -- ]]g3
  -- ]]g2
  -- ]]g1
end Go.Proofs.YtbcagdjfegobnaaGreat
