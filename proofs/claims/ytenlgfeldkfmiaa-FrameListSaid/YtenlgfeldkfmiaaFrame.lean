/- Plain: frames of packets in bytes. -/
import Derived.Test.YtenlgfeldkfmiaaVar
import Derived.Test.YtenlgfeldkfmiaaRanges
namespace Go.Proofs.Ytenlgfeldkfmiaa
open Go.RowKit
set_option linter.unusedVariables false

structure FrD where
  kind : Nat
  id : Nat
  off : Nat
  fin : Bool
  code : Nat
  rngs : List Rng
  data : List UInt8
def fnil : FrD := ⟨0, 0, 0, false, 0, [], []⟩

/-! parts that a kind of frame has -/
def pId (k : Nat) : Bool := k == 4 || k == 5 || k == 8 || k == 17
def pOff (k : Nat) : Bool := k == 4 || k == 6 || k == 8 || k == 16 || k == 17 || k == 18
def pCode (k : Nat) : Bool := k == 4 || k == 5 || k == 26 || k == 27 || k == 28
def pData (k : Nat) : Bool := k == 6 || k == 7 || k == 8
def pFin (k : Nat) : Bool := k == 8
def pWord (k : Nat) : Bool := k == 26 || k == 27
def kOk (k : Nat) : Bool := k == 0 || k == 1 || k == 2 || k == 30 || pId k || pOff k || pCode k || pData k

/-- Ranges, the highest first, the first one below p. -/
def goodDown : Int → List Rng → Prop
  | _, [] => True
  | p, x :: l => x.2 + 2 ≤ p ∧ x.1 ≤ x.2 ∧ 0 ≤ x.1 ∧ goodDown x.1 l
theorem goodFrom_snoc {b : Int} {l : List Rng} (h : goodFrom b l) (x : Rng) (hb : b ≤ x.1) (h1 : x.1 ≤ x.2) (h2 : x.2 ≤ 4611686018427387903) (hl : ∀ y ∈ l, y.2 + 2 ≤ x.1) : goodFrom b (l ++ [x]) := by
  induction l generalizing b with
  | nil => exact ⟨hb, h1, h2, trivial⟩
  | cons y l ih =>
    obtain ⟨a1, a2, a3, a4⟩ := h
    exact ⟨a1, a2, a3, ih a4 (by have := hl y List.mem_cons_self; omega) (fun z hz => hl z (List.mem_cons_of_mem _ hz))⟩
theorem goodDown_from {p : Int} {l : List Rng} (h : goodDown p l) (hp : p ≤ 4611686018427387905) : goodFrom 0 l.reverse ∧ ∀ y ∈ l, y.2 + 2 ≤ p := by
  induction l generalizing p with
  | nil => exact ⟨trivial, fun y hy => by cases hy⟩
  | cons x l ih =>
    obtain ⟨a1, a2, a3, a4⟩ := h
    obtain ⟨b1, b2⟩ := ih a4 (by omega)
    rw [List.reverse_cons]
    refine ⟨goodFrom_snoc b1 x a3 a2 (by omega) (fun y hy => b2 y (List.mem_reverse.1 hy)), fun y hy => ?_⟩
    rcases List.mem_cons.1 hy with rfl | hy
    · exact a1
    · have := b2 y hy; omega

/-- A frame that may be. -/
structure FrOk (f : FrD) : Prop where
  kind : kOk f.kind = true
  len : f.data.length ≤ 120
  many : f.rngs.length ≤ 6
  id : f.id ≤ 4611686018427387903
  noId : pId f.kind = false → f.id = 0
  off : f.off ≤ 4611686018427387903
  noOff : pOff f.kind = false → f.off = 0
  code : f.code ≤ 4611686018427387903
  noCode : pCode f.kind = false → f.code = 0
  far : pData f.kind = true → f.off + f.data.length ≤ 4611686018427387903
  noData : pData f.kind = false → f.data = []
  noFin : pFin f.kind = false → f.fin = false
  ack : f.kind = 2 ↔ f.rngs ≠ []
  rngs : goodDown 4611686018427387905 f.rngs

/-! ### in bytes -/
def encRs : Int → List Rng → List UInt8
  | _, [] => []
  | p, x :: l => encB (p - x.2 - 2).toNat ++ (encB (x.2 - x.1).toNat ++ encRs x.1 l)
def encRng : List Rng → List UInt8
  | [] => []
  | x :: l => encB x.2.toNat ++ (encB l.length ++ (encB (x.2 - x.1).toNat ++ encRs x.1 l))
/-- A frame's first number. -/
def fkind (f : FrD) : Nat := if f.kind = 8 then (if f.fin then 15 else 14) else f.kind
def encIf (b : Bool) (n : Nat) : List UInt8 := if b then encB n else []
def encC (w c : Bool) (n : Nat) : List UInt8 := if w then beB 8 n else encIf c n
def encD (b : Bool) (d : List UInt8) : List UInt8 := if b then encB d.length ++ d else []
def fenc (f : FrD) : List UInt8 := encB (fkind f) ++ encRng f.rngs ++ encIf (pId f.kind) f.id ++ encIf (pOff f.kind) f.off ++ encC (pWord f.kind) (pCode f.kind) f.code ++ encD (pData f.kind) f.data

/-! ### read, till something is wrong -/
structure EyeD where
  b : List UInt8
  u : Nat
  e : Int
def yFail (e : Int) (y : EyeD) : EyeD := if y.e = 0 then ⟨y.b, y.u, e⟩ else y
def yNum (y : EyeD) : Nat × EyeD :=
  if y.e ≠ 0 then (0, y) else
  if (decR y.b).2.2 ≠ 0 then (0, ⟨y.b, y.u, (decR y.b).2.2⟩) else
  ((decR y.b).1.toNat, ⟨y.b.drop (decR y.b).2.1.toNat, y.u + (decR y.b).2.1.toNat, 0⟩)
def yTake (n : Nat) (y : EyeD) : List UInt8 × EyeD :=
  if y.e ≠ 0 then ([], y) else
  if y.b.length < n then ([], ⟨y.b, y.u, 4⟩) else
  (y.b.take n, ⟨y.b.drop n, y.u + n, 0⟩)
def yStep (hi : Int) (y : EyeD) : Rng × EyeD := ((hi - (yNum y).1, hi), if hi - (yNum y).1 < 0 then yFail 6 (yNum y).2 else (yNum y).2)
def yMore : Nat → Int → EyeD → List Rng × EyeD
  | 0, _, y => ([], y)
  | k + 1, lo, y =>
    if y.e ≠ 0 then ([], y) else
    ((yStep (lo - (yNum y).1 - 2) (yNum y).2).1 :: (yMore k (yStep (lo - (yNum y).1 - 2) (yNum y).2).1.1 (yStep (lo - (yNum y).1 - 2) (yNum y).2).2).1,
     (yMore k (yStep (lo - (yNum y).1 - 2) (yNum y).2).1.1 (yStep (lo - (yNum y).1 - 2) (yNum y).2).2).2)
def yMany (y : EyeD) : Nat × EyeD := ((yNum y).1, if 6 ≤ (yNum y).1 then yFail 1 (yNum y).2 else (yNum y).2)
/-- The ranges behind their highest number and how many there are. -/
def yList (hi : Int) (n : Nat) (y : EyeD) : List Rng × EyeD :=
  if y.e ≠ 0 then ([], y) else
  ((yStep hi y).1 :: (yMore n (yStep hi y).1.1 (yStep hi y).2).1, (yMore n (yStep hi y).1.1 (yStep hi y).2).2)
def yRngs (y : EyeD) : List Rng × EyeD := yList (yNum y).1 (yMany (yNum y).2).1 (yMany (yNum y).2).2
def ifR (b : Bool) (y : EyeD) : List Rng × EyeD := if b then yRngs y else ([], y)
def ifN (b : Bool) (y : EyeD) : Nat × EyeD := if b then yNum y else (0, y)
def ifC (w c : Bool) (y : EyeD) : Nat × EyeD := if w then (valB (yTake 8 y).1 0, (yTake 8 y).2) else ifN c y
def yData (y : EyeD) : List UInt8 × EyeD := yTake (yNum y).1 (if 120 < (yNum y).1 then yFail 1 (yNum y).2 else (yNum y).2)
def ifD (b : Bool) (y : EyeD) : List UInt8 × EyeD := if b then yData y else ([], y)
def fbody (k : Nat) (fin : Bool) (y : EyeD) : FrD × EyeD :=
  let r := ifR (k == 2) y
  let i := ifN (pId k) r.2
  let o := ifN (pOff k) i.2
  let c := ifC (pWord k) (pCode k) o.2
  let d := ifD (pData k) c.2
  (⟨k, i.1, o.1, fin, c.1, r.1, d.1⟩, d.2)
/-- What may still be wrong with a frame that was read. -/
def frB (f : FrD) : Bool := decide (f.code ≤ 4611686018427387903) && (!pData f.kind || decide (f.off + f.data.length ≤ 4611686018427387903))
def kindOf (n : Nat) : Nat := if n = 14 ∨ n = 15 then 8 else n
/-- What is read of bytes: the frame, how many bytes it has, what is wrong. -/
def fdec (bs : List UInt8) : FrD × Nat × Int :=
  let n := yNum ⟨bs, 0, 0⟩
  if n.2.e ≠ 0 then (fnil, 0, n.2.e) else
  if n.1 = 8 then (fnil, 0, 2) else
  if kOk (kindOf n.1) = false then (fnil, 0, 2) else
  let f := fbody (kindOf n.1) (n.1 == 15) n.2
  if f.2.e ≠ 0 then (fnil, 0, f.2.e) else
  if frB f.1 = false then (fnil, 0, 6) else (f.1, f.2.u, 0)

/-! ### read as it was written -/
theorem yNum_back (n : Nat) (h : n ≤ 4611686018427387903) (r : List UInt8) (u : Nat) : yNum ⟨encB n ++ r, u, 0⟩ = (n, ⟨r, u + (encB n).length, 0⟩) := by
  have hd := dec_back n (by omega) r
  simp only [yNum, hd, Int.toNat_natCast, List.drop_left, ne_eq, not_true_eq_false, if_false]
theorem yTake_back (d r : List UInt8) (u n : Nat) (h : d.length = n) : yTake n ⟨d ++ r, u, 0⟩ = (d, ⟨r, u + n, 0⟩) := by
  subst h
  simp [yTake]
theorem yStep_back (x : Rng) (h1 : x.1 ≤ x.2) (h0 : 0 ≤ x.1) (h2 : x.2 ≤ 4611686018427387903) (r : List UInt8) (u : Nat) :
    yStep x.2 ⟨encB (x.2 - x.1).toNat ++ r, u, 0⟩ = (x, ⟨r, u + (encB (x.2 - x.1).toNat).length, 0⟩) := by
  have hn := yNum_back (x.2 - x.1).toNat (by omega) r u
  simp only [yStep, hn]
  have e : x.2 - ((x.2 - x.1).toNat : Int) = x.1 := by omega
  rw [e, if_neg (by omega)]
theorem yMore_back {p : Int} {l : List Rng} (h : goodDown p l) (hp : p ≤ 4611686018427387905) (r : List UInt8) (u : Nat) :
    yMore l.length p ⟨encRs p l ++ r, u, 0⟩ = (l, ⟨r, u + (encRs p l).length, 0⟩) := by
  induction l generalizing p u with
  | nil => rfl
  | cons x l ih =>
    obtain ⟨a1, a2, a3, a4⟩ := h
    have hx : 0 ≤ x.2 := by omega
    have e1 := yNum_back (p - x.2 - 2).toNat (by omega) (encB (x.2 - x.1).toNat ++ (encRs x.1 l ++ r)) u
    have e2 : p - (((p - x.2 - 2).toNat : Nat) : Int) - 2 = x.2 := by omega
    have e3 := yStep_back x a2 a3 (by omega) (encRs x.1 l ++ r) (u + (encB (p - x.2 - 2).toNat).length)
    have e4 := ih a4 (by omega) (u + (encB (p - x.2 - 2).toNat).length + (encB (x.2 - x.1).toNat).length)
    show yMore (l.length + 1) p _ = _
    rw [encRs, List.append_assoc, List.append_assoc]
    simp only [yMore, e1, e2, e3, e4, ne_eq, not_true_eq_false, if_false, List.length_append]
    simp only [Nat.add_assoc]
theorem yRngs_back {l : List Rng} (h : goodDown 4611686018427387905 l) (hl : l.length ≤ 6) (hn : l ≠ []) (r : List UInt8) (u : Nat) :
    yRngs ⟨encRng l ++ r, u, 0⟩ = (l, ⟨r, u + (encRng l).length, 0⟩) := by
  cases l with
  | nil => exact absurd rfl hn
  | cons x l =>
    obtain ⟨a1, a2, a3, a4⟩ := h
    simp only [List.length_cons] at hl
    have e1 := yNum_back x.2.toNat (by omega) (encB l.length ++ (encB (x.2 - x.1).toNat ++ (encRs x.1 l ++ r))) u
    have e2 := yNum_back l.length (by omega) (encB (x.2 - x.1).toNat ++ (encRs x.1 l ++ r)) (u + (encB x.2.toNat).length)
    have e3 := yStep_back x a2 a3 (by omega) (encRs x.1 l ++ r) (u + (encB x.2.toNat).length + (encB l.length).length)
    have e4 := yMore_back a4 (by omega) r (u + (encB x.2.toNat).length + (encB l.length).length + (encB (x.2 - x.1).toNat).length)
    have e5 : ((x.2.toNat : Nat) : Int) = x.2 := by omega
    rw [encRng, List.append_assoc, List.append_assoc, List.append_assoc]
    have e6 : ¬ 6 ≤ l.length := by omega
    simp only [yRngs, yMany, yList, e1, e2, e5, if_neg e6, e3, e4, ne_eq, not_true_eq_false, if_false, List.length_append]
    simp only [Nat.add_assoc]
theorem ifN_back (b : Bool) (n : Nat) (h : n ≤ 4611686018427387903) (h0 : b = false → n = 0) (r : List UInt8) (u : Nat) : ifN b ⟨encIf b n ++ r, u, 0⟩ = (n, ⟨r, u + (encIf b n).length, 0⟩) := by
  cases b with
  | true => exact yNum_back n h r u
  | false => rw [h0 rfl]; rfl
theorem ifC_back (w c : Bool) (n : Nat) (h : n ≤ 4611686018427387903) (h0 : c = false → n = 0) (r : List UInt8) (u : Nat) : ifC w c ⟨encC w c n ++ r, u, 0⟩ = (n, ⟨r, u + (encC w c n).length, 0⟩) := by
  cases w with
  | false => exact ifN_back c n h h0 r u
  | true =>
    have e := yTake_back (beB 8 n) r u 8 (beB_length 8 n)
    show (valB (yTake 8 ⟨beB 8 n ++ r, u, 0⟩).1 0, (yTake 8 ⟨beB 8 n ++ r, u, 0⟩).2) = _
    rw [e, valB_beB 8 n 0 (by omega)]
    simp [encC, beB_length]
theorem ifD_back (b : Bool) (d : List UInt8) (h : d.length ≤ 120) (h0 : b = false → d = []) (r : List UInt8) (u : Nat) : ifD b ⟨encD b d ++ r, u, 0⟩ = (d, ⟨r, u + (encD b d).length, 0⟩) := by
  cases b with
  | false => rw [h0 rfl]; rfl
  | true =>
    show yData ⟨(encB d.length ++ d) ++ r, u, 0⟩ = _
    have e := yNum_back d.length (by omega) (d ++ r) u
    rw [List.append_assoc]
    simp only [yData, e, if_neg (show ¬ 120 < d.length by omega), yTake_back d r _ _ rfl]
    simp [encD, Nat.add_assoc]
theorem ifR_back (k : Nat) {l : List Rng} (h : goodDown 4611686018427387905 l) (hl : l.length ≤ 6) (hk : k = 2 ↔ l ≠ []) (r : List UInt8) (u : Nat) :
    ifR (k == 2) ⟨encRng l ++ r, u, 0⟩ = (l, ⟨r, u + (encRng l).length, 0⟩) := by
  by_cases h2 : k = 2
  · rw [show (k == 2) = true from by simp [h2]]
    exact yRngs_back h hl (hk.1 h2) r u
  · rw [show (k == 2) = false from by simp [h2]]
    have : l = [] := Classical.not_not.1 fun hn => h2 (hk.2 hn)
    subst this; rfl
theorem frB_ok {f : FrD} (ok : FrOk f) : frB f = true := by
  have h1 := ok.code
  unfold frB
  rw [decide_eq_true h1]
  cases hp : pData f.kind with
  | false => rfl
  | true => simp [ok.far hp]
theorem fkind_cases (f : FrD) (ok : FrOk f) : fkind f ≤ 30 ∧ fkind f ≠ 8 ∧ kindOf (fkind f) = f.kind ∧ (fkind f == 15) = f.fin := by
  have hk := ok.kind
  have hf := ok.noFin
  have hle : f.kind = 0 ∨ f.kind = 1 ∨ f.kind = 2 ∨ f.kind = 30 ∨ f.kind = 4 ∨ f.kind = 5 ∨ f.kind = 8 ∨ f.kind = 17 ∨ f.kind = 6 ∨ f.kind = 16 ∨ f.kind = 18 ∨ f.kind = 26 ∨ f.kind = 27 ∨ f.kind = 28 ∨ f.kind = 7 := by
    simp only [kOk, pId, pOff, pCode, pData, Bool.or_eq_true, beq_iff_eq] at hk
    omega
  by_cases h8 : f.kind = 8
  · unfold fkind kindOf
    rw [if_pos h8]
    cases f.fin with
    | true => simp [h8]
    | false => simp [h8]
  · have hfin : f.fin = false := hf (by simp [pFin, h8])
    unfold fkind kindOf
    rw [if_neg h8, hfin, if_neg (by omega)]
    exact ⟨by omega, h8, rfl, by rcases hle with h | h | h | h | h | h | h | h | h | h | h | h | h | h | h <;> rw [h] <;> rfl⟩
theorem fbody_back (f : FrD) (ok : FrOk f) (r : List UInt8) (u : Nat) :
    fbody f.kind f.fin ⟨encRng f.rngs ++ (encIf (pId f.kind) f.id ++ (encIf (pOff f.kind) f.off ++ (encC (pWord f.kind) (pCode f.kind) f.code ++ (encD (pData f.kind) f.data ++ r)))), u, 0⟩ =
      (f, ⟨r, u + (encRng f.rngs).length + (encIf (pId f.kind) f.id).length + (encIf (pOff f.kind) f.off).length + (encC (pWord f.kind) (pCode f.kind) f.code).length + (encD (pData f.kind) f.data).length, 0⟩) := by
  simp only [fbody, ifR_back f.kind ok.rngs ok.many ok.ack, ifN_back _ _ ok.id ok.noId, ifN_back _ _ ok.off ok.noOff, ifC_back _ _ _ ok.code ok.noCode, ifD_back _ _ ok.len ok.noData]
/-- A frame is read as it was written, whatever stands behind it. -/
theorem fdec_back (f : FrD) (ok : FrOk f) (more : List UInt8) : fdec (fenc f ++ more) = (f, (fenc f).length, 0) := by
  obtain ⟨h1, h2, h3, h4⟩ := fkind_cases f ok
  have e1 := yNum_back (fkind f) (by omega) (encRng f.rngs ++ (encIf (pId f.kind) f.id ++ (encIf (pOff f.kind) f.off ++ (encC (pWord f.kind) (pCode f.kind) f.code ++ (encD (pData f.kind) f.data ++ more))))) 0
  have e2 := fbody_back f ok more (0 + (encB (fkind f)).length)
  have hb : fenc f ++ more = encB (fkind f) ++ (encRng f.rngs ++ (encIf (pId f.kind) f.id ++ (encIf (pOff f.kind) f.off ++ (encC (pWord f.kind) (pCode f.kind) f.code ++ (encD (pData f.kind) f.data ++ more))))) := by
    simp only [fenc, List.append_assoc]
  rw [hb]
  unfold fdec
  simp only [e1, h3, h4, e2, ok.kind, frB_ok ok, if_neg h2, ne_eq, not_true_eq_false, if_false, Bool.true_eq_false]
  simp only [fenc, List.length_append, Nat.zero_add]
/-- Neither of two frames begins with the other one's bytes. -/
theorem fenc_apart (a b : FrD) (oa : FrOk a) (ob : FrOk b) (r : List UInt8) (h : fenc b = fenc a ++ r) : a = b := by
  have e1 := fdec_back a oa r
  have e2 := fdec_back b ob []
  rw [List.append_nil, h] at e2
  rw [e1] at e2
  exact (Prod.mk.inj e2).1
def sameR (l m : List Rng) : Bool := decide (l = m)
/-- Are two frames the same? -/
def sameF (a b : FrD) : Bool := a.kind == b.kind && (a.id == b.id && (a.off == b.off && (a.fin == b.fin && (a.code == b.code && (decide (a.rngs = b.rngs) && a.data == b.data)))))
theorem sameF_iff (a b : FrD) : sameF a b = true ↔ a = b := by
  obtain ⟨a1, a2, a3, a4, a5, a6, a7⟩ := a
  obtain ⟨b1, b2, b3, b4, b5, b6, b7⟩ := b
  simp [sameF]
theorem begins_iff (a b : FrD) (oa : FrOk a) (ob : FrOk b) : (decide ((fenc a).length ≤ (fenc b).length) && decide ((fenc b).take (fenc a).length = fenc a)) = sameF a b := by
  rw [Bool.eq_iff_iff, sameF_iff]
  simp only [Bool.and_eq_true, decide_eq_true_eq]
  constructor
  · rintro ⟨_, h⟩
    exact fenc_apart a b oa ob _ (by conv => lhs; rw [← List.take_append_drop (fenc a).length (fenc b), h])
  · rintro rfl
    exact ⟨Nat.le_refl _, List.take_length⟩
theorem encB_le8 (n : Nat) (h : n ≤ 4611686018427387903) : (encB n).length ≤ 8 ∧ 1 ≤ (encB n).length := by
  have := encB_pos n (by omega); omega
end Go.Proofs.Ytenlgfeldkfmiaa
