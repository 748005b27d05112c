/- A sender whose rows are the call's own; what stands behind fresh. -/
import Derived.Test.YtpmgoediglmofaaSnCheck
import Derived.Test.YtpmgoediglmofaaSnFresh
import Derived.Test.YtpmgoediglmofaaSpaceSplit
import Derived.Test.YtpmgoediglmofaaSpaceSend
namespace Go.Proofs.Ytpmgoediglmofaa
open Go.ChangeShapes Go.WideShapes Go.ChangeAt Go.RowKit
set_option linter.unusedVariables false

def u8c (b : UInt8) : List Value := [.int .u8 (b.toNat : Int)]
theorem u8c_flat (bs : List UInt8) : bs.flatMap u8c = u8s bs := by
  induction bs with
  | nil => rfl
  | cons b bs ih => rw [List.flatMap_cons, ih]; rfl
theorem u8c_one (xs : List UInt8) : ∀ u ∈ xs.flatMap u8c, u.oneCell' = true := by rw [u8c_flat]; exact u8s_one xs
theorem OwnB.x {w : World} {base : Nat} {E : TypeId} {A : Option Addr} {c : Nat} {bs : List UInt8} (h : OwnB w base E A c bs) : OwnX u8c 1 w base E A c bs := by unfold OwnX; rw [u8c_flat]; exact h
theorem OwnX.b {w : World} {base : Nat} {E : TypeId} {A : Option Addr} {c : Nat} {bs : List UInt8} (h : OwnX u8c 1 w base E A c bs) : OwnB w base E A c bs := by unfold OwnX at h; rw [u8c_flat] at h; exact h
theorem RdB.x {w : World} {A : Option Addr} {bs : List UInt8} (h : RdB w A bs) : RdX u8c 1 w A bs := by unfold RdX; rw [u8c_flat]; exact h
theorem RdX.b {w : World} {A : Option Addr} {bs : List UInt8} (h : RdX u8c 1 w A bs) : RdB w A bs := by unfold RdX at h; rw [u8c_flat] at h; exact h

/-- The rows of a sender are the call's own. -/
structure SnO (w : World) (b : Nat) (A : Option Addr) (c : Nat) (bs : List UInt8) (B : Option Addr) (d : Nat) (lost : List Rng) (C : Option Addr) (e : Nat) (acked : List Rng) : Prop where
  a : OwnX u8c 1 w b 5 A c bs
  l : OwnX rcells 2 w b 35 B d lost
  k : OwnX rcells 2 w b 35 C e acked
section
variable {w w' : World} {b b' : Nat} {A : Option Addr} {c : Nat} {bs : List UInt8} {B : Option Addr} {d : Nat} {lost : List Rng} {C : Option Addr} {e : Nat} {acked : List Rng}
theorem SnO.carry (h : SnO w b A c bs B d lost C e acked) (hb : Below w.heap.size w w') : SnO w' b A c bs B d lost C e acked := ⟨h.a.carry hb, h.l.carry hb, h.k.carry hb⟩
theorem SnO.set (h : SnO w b A c bs B d lost C e acked) {p : Addr} (hp : p.block < b) (u : Value) : SnO (w.setCell p u) b A c bs B d lost C e acked := ⟨h.a.set_below hp u, h.l.set_below hp u, h.k.set_below hp u⟩
theorem SnO.mono (h : SnO w b A c bs B d lost C e acked) (hb : b' ≤ b) : SnO w b' A c bs B d lost C e acked := ⟨h.a.mono hb, h.l.mono hb, h.k.mono hb⟩
theorem SnO.alloc (h : SnO w b A c bs B d lost C e acked) (o : Obj) : SnO (w.alloc o) b A c bs B d lost C e acked := ⟨h.a.alloc o, h.l.alloc o, h.k.alloc o⟩
theorem SnO.drew (h : SnO w b A c bs B d lost C e acked) : SnO w.drew b A c bs B d lost C e acked := ⟨h.a, h.l, h.k⟩
theorem SnO.drewN (h : SnO w b A c bs B d lost C e acked) (n : Nat) : SnO (w.drewN n) b A c bs B d lost C e acked := ⟨h.a, h.l, h.k⟩
theorem SnO.v {n m k : Nat} {fin : Bool} {nx mx : Int} {ended over : Bool} (h : SnO w b A c bs B d lost C e acked) (hn : bs.length = n) (hm : lost.length = m) (hk : acked.length = k) (ok : SnOk n fin nx mx lost acked ended over) : SnV w A n c bs fin nx mx B m d lost C k e acked ended over := by
  have h1 := h.a.cap
  have h2 := h.l.cap
  have h3 := h.k.cap
  exact ⟨hn, hm, hk, by omega, h1.2, by omega, h2.2, by omega, h3.2, ok, h.a.rd.b, h.l.rd, h.k.rd⟩
/-- What the call made stays a sender while nobody writes to it. -/
theorem SnO.keep {w0 : World} {n m k : Nat} {fin : Bool} {nx mx : Int} {ended over : Bool} (h : SnO w b A c bs B d lost C e acked) (hb : w0.heap.size ≤ b) (hn : bs.length = n) (hm : lost.length = m) (hk : acked.length = k) (ok : SnOk n fin nx mx lost acked ended over) :
    SpKeep w0 w (fun W => SnV W A n c bs fin nx mx B m d lost C k e acked ended over) := fun W hW =>
  SnO.v (b := b) ⟨ownx_agree h.a fun q h1 h2 => hW q (by omega) h2, ownx_agree h.l fun q h1 h2 => hW q (by omega) h2, ownx_agree h.k fun q h1 h2 => hW q (by omega) h2⟩ hn hm hk ok
end
section
variable {w : World} {A : Option Addr} {n c : Nat} {bs : List UInt8} {fin : Bool} {nx mx : Int} {B : Option Addr} {m d : Nat} {lost : List Rng} {C : Option Addr} {k e : Nat} {acked : List Rng} {ended over : Bool}
theorem SnV.check (h : SnV w A n c bs fin nx mx B m d lost C k e acked ended over) : Calls Try.prog 21 #[.agg #[.slice A n c, .bool fin, .int .i64 nx, .int .i64 mx, .slice B m d, .slice C k e, .bool ended, .bool over]] w fun e' w' => e' = .returned (.int .i64 0) ∧ Below w.heap.size w w' := snCheck_ok w A n c bs fin nx mx B m d lost C k e acked ended over h
/-- What fresh answers. -/
def FreshS (w : World) (n : Nat) (bs : List UInt8) (fin : Bool) (nx mx : Int) (m : Nat) (lost : List Rng) (k : Nat) (acked : List Rng) (ended over : Bool) (e' : Ending) (w' : World) : Prop :=
  ∃ (A' : Option Addr) (c' : Nat) (B' : Option Addr) (d' : Nat) (C' : Option Addr) (k' : Nat), e' = .returned (.agg #[.slice A' n c', .bool fin, .int .i64 nx, .int .i64 mx, .slice B' m d', .slice C' k k', .bool ended, .bool over]) ∧
    SnO w' w.heap.size A' c' bs B' d' lost C' k' acked ∧ (∀ x y, A' = some x → (B' = some y ∨ C' = some y) → x.block < y.block) ∧ Below w.heap.size w w'
theorem SnV.fresh (h : SnV w A n c bs fin nx mx B m d lost C k e acked ended over) : Calls Try.prog 32 #[.agg #[.slice A n c, .bool fin, .int .i64 nx, .int .i64 mx, .slice B m d, .slice C k e, .bool ended, .bool over]] w (FreshS w n bs fin nx mx m lost k acked ended over) := by
  have hf := h.ok.few
  rw [h.hm, h.hk] at hf
  refine (snFresh_any A n c bs fin nx mx B m d lost C k e acked ended over h.hn h.hm h.hk h.hnc h.hcm h.hmd h.hdm h.hke h.hem h.ok.n600 (by omega) (by omega) w h.ra h.rb h.rc).mono ?_
  rintro e' w' ⟨A', c', B', d', C', k', M, rfl, _, _, _, hM0, hM1, hA, hO, hL, hK, hb⟩
  refine ⟨A', c', B', d', C', k', rfl, ⟨hO.x, hL.mono hM0, hK.mono hM0⟩, fun x y hx hy => ?_, hb⟩
  have h1 := hA x hx
  rcases hy with hy | hy
  · have := (hL.lt (n := 0) y.block (by rw [slice_own, hy]; rfl)).1; omega
  · have := (hK.lt (n := 0) y.block (by rw [slice_own, hy]; rfl)).1; omega
end
theorem apart_own {X Y : Option Addr} (h : ∀ x y, X = some x → Y = some y → x.block < y.block) : Y.map (fun y : Addr => y.block) = none ∨ Y.map (fun y : Addr => y.block) ≠ X.map (fun y : Addr => y.block) := by
  cases hX : X with
  | none => cases hY : Y <;> simp
  | some x =>
    cases hY : Y with
    | none => left; rfl
    | some y =>
      right
      have := h x y hX hY
      simp; omega
end Go.Proofs.Ytpmgoediglmofaa
