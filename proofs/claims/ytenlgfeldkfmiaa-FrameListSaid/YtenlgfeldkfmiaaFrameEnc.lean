/- Plain: a frame's ranges as they are written, range by range; what is known of a frame that is being written. -/
import Derived.Test.YtenlgfeldkfmiaaFramePen
namespace Go.Proofs.Ytenlgfeldkfmiaa
open Go.RowKit
set_option linter.unusedVariables false

/-- The bytes of the first ranges. -/
def preR (l : List Rng) : Nat → List UInt8
  | 0 => []
  | 1 => encB (l.getD 0 (0, 0)).2.toNat ++ (encB (l.length - 1) ++ encB ((l.getD 0 (0, 0)).2 - (l.getD 0 (0, 0)).1).toNat)
  | i + 2 => preR l (i + 1) ++ (encB ((l.getD i (0, 0)).1 - (l.getD (i + 1) (0, 0)).2 - 2).toNat ++ encB ((l.getD (i + 1) (0, 0)).2 - (l.getD (i + 1) (0, 0)).1).toNat)
def preS (p : Int) (l : List Rng) : Nat → List UInt8
  | 0 => []
  | i + 1 => preS p l i ++ (encB ((match i with | 0 => p | j + 1 => (l.getD j (0, 0)).1) - (l.getD i (0, 0)).2 - 2).toNat ++ encB ((l.getD i (0, 0)).2 - (l.getD i (0, 0)).1).toNat)
theorem preS_cons (p : Int) (x : Rng) (l : List Rng) (i : Nat) : preS p (x :: l) (i + 1) = encB (p - x.2 - 2).toNat ++ (encB (x.2 - x.1).toNat ++ preS x.1 l i) := by
  induction i with
  | zero => simp [preS]
  | succ i ih =>
    rw [preS, ih]
    cases i with
    | zero => simp [preS]
    | succ j => simp [preS]
theorem preS_full (p : Int) (l : List Rng) : preS p l l.length = encRs p l := by
  induction l generalizing p with
  | nil => rfl
  | cons x l ih => rw [List.length_cons, preS_cons, ih]; rfl
theorem preR_cons (x : Rng) (l : List Rng) (i : Nat) : preR (x :: l) (i + 1) = encB x.2.toNat ++ (encB l.length ++ (encB (x.2 - x.1).toNat ++ preS x.1 l i)) := by
  induction i with
  | zero => simp [preR, preS]
  | succ i ih =>
    rw [preR, ih]
    cases i with
    | zero => simp [preS]
    | succ j => simp [preS]
theorem preR_full (l : List Rng) : preR l l.length = encRng l := by
  cases l with
  | nil => rfl
  | cons x l => rw [List.length_cons, preR_cons, preS_full]; rfl
theorem goodDown_at {p : Int} {l : List Rng} (h : goodDown p l) (hp : p ≤ 4611686018427387905) (k : Nat) (hk : k < l.length) : 0 ≤ (l.getD k (0, 0)).1 ∧ (l.getD k (0, 0)).1 ≤ (l.getD k (0, 0)).2 ∧ (l.getD k (0, 0)).2 ≤ 4611686018427387903 := by
  induction l generalizing p k with
  | nil => simp at hk
  | cons x l ih =>
    obtain ⟨h1, h2, h3, h4⟩ := h
    cases k with
    | zero => exact ⟨h3, h2, by show x.2 ≤ _; omega⟩
    | succ k => exact ih h4 (by omega) k (by simpa using hk)
theorem goodDown_next {p : Int} {l : List Rng} (h : goodDown p l) (k : Nat) (hk : k + 1 < l.length) : (l.getD (k + 1) (0, 0)).2 + 2 ≤ (l.getD k (0, 0)).1 := by
  induction l generalizing p k with
  | nil => simp at hk
  | cons x l ih =>
    obtain ⟨h1, h2, h3, h4⟩ := h
    cases k with
    | zero =>
      cases l with
      | nil => simp at hk
      | cons y l => exact h4.1
    | succ k => exact ih h4 k (by simpa using hk)

theorem u8w (x : Int) : IntKind.u8.wrap x = x % 256 := by
  first | rfl | rw [IntKind.wrap_u8] | simp [IntKind.wrap]
theorem shr_byte (code r : Nat) (p : Int) (hp : p = 8 * (r : Int)) : IntKind.u8.wrap ((code : Int) / 2 ^ p.toNat) = ((UInt8.ofNat (code / 256 ^ r)).toNat : Int) := by
  have h : p.toNat = 8 * r := by omega
  have h2 : (2 : Int) ^ (8 * r) = ((256 ^ r : Nat) : Int) := by
    have : (2 ^ (8 * r) : Nat) = 256 ^ r := by rw [Nat.pow_mul]
    rw [← this]; simp
  rw [h, u8w, h2]
  simp
/-- A frame that is being written. -/
structure EncSt (w0 w : World) (g hp : Nat) (cs pc : Array Value) (us : List UInt8) (L : Nat) : Prop where
  gt : w0.heap.size < g
  ne : hp ≠ g
  pen : Pen w w0.heap.size g us
  fr : Blk w w0.heap.size 40 cs
  pt : Blk w hp 69 pc
  bel : Below w0.heap.size w0 w
  len : us.length ≤ L
theorem EncSt.alloc {w0 w : World} {g hp : Nat} {cs pc : Array Value} {us : List UInt8} {L : Nat} (h : EncSt w0 w g hp cs pc us L) (o : Obj) : EncSt w0 (w.alloc o) g hp cs pc us L :=
  ⟨h.gt, h.ne, h.pen.carry ((Below.refl _ _).alloc (Nat.le_refl _) o), h.fr.alloc o, h.pt.alloc o, h.bel.alloc h.bel.size o, h.len⟩
theorem EncSt.drew {w0 w : World} {g hp : Nat} {cs pc : Array Value} {us : List UInt8} {L : Nat} (h : EncSt w0 w g hp cs pc us L) : EncSt w0 w.drew g hp cs pc us L :=
  ⟨h.gt, h.ne, h.pen, h.fr, h.pt, h.bel.drew, h.len⟩
theorem EncSt.put {w0 w w' : World} {g hp : Nat} {cs pc : Array Value} {us : List UInt8} {L : Nat} (h : EncSt w0 w g hp cs pc us L) {zs : List UInt8} (hP : Pen w' w0.heap.size g zs) (hK : Keep g w w') (hb : Below w0.heap.size w w') {L' : Nat} (hl : zs.length ≤ L') : EncSt w0 w' g hp cs pc zs L' :=
  ⟨h.gt, h.ne, hP, hK _ _ _ (by have := h.gt; omega) (by decide) h.fr, hK _ _ _ h.ne (by decide) h.pt, h.bel.trans hb, hl⟩
theorem EncSt.up {w0 w : World} {g hp : Nat} {cs pc : Array Value} {us : List UInt8} {L L' : Nat} (h : EncSt w0 w g hp cs pc us L) (hl : L ≤ L') : EncSt w0 w g hp cs pc us L' :=
  ⟨h.gt, h.ne, h.pen, h.fr, h.pt, h.bel, Nat.le_trans h.len hl⟩
/-- What the walk asks of the pen behind an append. -/
theorem pen_app {w w6 : World} {g base : Nat} {A : Option Addr} {n c : Nat} {us : List UInt8} (hn : us.length = n) (hG : Blk w g 67 #[.slice A n c]) (hO : OwnB w base 5 A c us) (hgr : w.grownBy w6 (Value.slice A n c).ownBlock) :
    Blk w6 g 67 #[.slice A n c] ∧ g < w6.heap.size ∧ w6.cell? ⟨g, 0, none⟩ = some (.slice A n c) ∧ w6.frozen? ⟨g, 0, none⟩ = false := by
  have h := hG.grown hgr (hO.apart hn hG (by decide))
  exact ⟨h, h.lt, h.two1, h.frozen 0⟩
theorem EncSt.app {w0 w w6 : World} {g hp : Nat} {cs pc : Array Value} {us : List UInt8} {L : Nat} (h : EncSt w0 w g hp cs pc us L) {A : Option Addr} {n c : Nat} (hn : us.length = n) (hG : Blk w g 67 #[.slice A n c]) (hO : OwnB w w0.heap.size 5 A c us)
    (hgr : w.grownBy w6 (Value.slice A n c).ownBlock) (hb : Below w0.heap.size w w6) {A6 : Option Addr} {k c6 : Nat} {zs : List UInt8} (hk : zs.length = k) (hO6 : OwnB w6 w0.heap.size 5 A6 c6 zs) {L' : Nat} (hl : k ≤ L') :
    EncSt w0 (w6.setCell ⟨g, 0, none⟩ (.slice A6 k c6)) g hp cs pc zs L' := by
  obtain ⟨hG6, _⟩ := pen_app hn hG hO hgr
  refine h.put ⟨A6, k, c6, hk, hG6.set_ 0 _, hO6.set_far hG6 (by decide) _ _⟩ ((Keep.grown hO hn hgr).trans (Keep.set _ _ _)) (hb.setCell (Nat.le_of_lt h.gt) _) (by rw [hk]; exact hl)
theorem ivals1 (W : World) (a : Int) (x : Nat) (h : a = (x : Int)) : Blk (W.alloc (.cells #[.int .i64 a] 3)) W.heap.size 3 (ivals [x]) := by subst h; exact Blk.new _ _ _
theorem ivals2 (W : World) (a b : Int) (x y : Nat) (h : a = (x : Int)) (k : b = (y : Int)) : Blk (W.alloc (.cells #[.int .i64 a, .int .i64 b] 3)) W.heap.size 3 (ivals [x, y]) := by subst h; subst k; exact Blk.new _ _ _
theorem ivals3 (W : World) (a b c : Int) (x y z : Nat) (h : a = (x : Int)) (k : b = (y : Int)) (l : c = (z : Int)) : Blk (W.alloc (.cells #[.int .i64 a, .int .i64 b, .int .i64 c] 3)) W.heap.size 3 (ivals [x, y, z]) := by subst h; subst k; subst l; exact Blk.new _ _ _
/-- put, while a frame is being written. -/
theorem put_st {w0 w : World} {g hp : Nat} {cs pc : Array Value} {us : List UInt8} {L : Nat} (h : EncSt w0 w g hp cs pc us L) (hL : L ≤ 2000) (q m : Nat) (ns : List Nat) (hns : ∀ n ∈ ns, n ≤ 4611686018427387903) (hm : ns.length = m) (hm3 : m ≤ 3) (hQ : Blk w q 3 (ivals ns)) (zs : List UInt8) (hz : us ++ ns.flatMap encB = zs) :
    Calls Try.prog 29 #[.pointer (some ⟨g, 0, none⟩), .slice (some ⟨q, 0, none⟩) m m] w fun e w' => e = .returned (.tuple #[]) ∧ EncSt w0 w' g hp cs pc zs (L + 8 * m) ∧ Keep g w w' := by
  subst hz
  refine (put_any w0.heap.size g q m ns us hns hm hm3 (Nat.le_trans h.len hL) w (Nat.le_of_lt h.gt) h.pen hQ).mono ?_
  rintro e w' ⟨he, hP, hK, hb⟩
  refine ⟨he, h.put hP hK hb ?_, hK⟩
  have := flat_len ns hns
  rw [List.length_append]; have := h.len; omega
end Go.Proofs.Ytenlgfeldkfmiaa
