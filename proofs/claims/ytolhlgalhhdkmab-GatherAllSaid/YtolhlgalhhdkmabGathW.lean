/- A gather in memory that may be, with whatever was taken and whatever end: Check and Put. -/
import Derived.Test.YtolhlgalhhdkmabWidenWalk
import Derived.Test.YtolhlgalhhdkmabGathHas
namespace Go.Proofs.Ytolhlgalhhdkmab
open Go.ChangeShapes Go.WideShapes Go.ChangeAt Go.RowKit
set_option linter.unusedVariables false

structure GW (w : World) (d f win : Int) (A : Option Addr) (n c : Nat) (ps : List PD) : Prop where
  len : ps.length = n
  cap : n ≤ c
  max : c ≤ 9223372036854775807
  four : n ≤ 4
  gap : Gap d (ps.map PD.pl)
  last : lastE d (ps.map PD.pl) ≤ win
  fin : 0 ≤ f → lastE d (ps.map PD.pl) ≤ f
  d0 : 0 ≤ d
  f0 : -1 ≤ f
  wb : win ≤ 10000
  rd : RdP w A ps
section
variable {w w' : World} {d f win : Int} {A : Option Addr} {n c : Nat} {ps : List PD}
theorem GW.below (h : GW w d f win A n c ps) (hb : Below w.heap.size w w') : GW w' d f win A n c ps := ⟨h.len, h.cap, h.max, h.four, h.gap, h.last, h.fin, h.d0, h.f0, h.wb, h.rd.below hb⟩
theorem GW.re (h : GW w d f win A n c ps) (h' : RdP w' A ps) : GW w' d f win A n c ps := ⟨h.len, h.cap, h.max, h.four, h.gap, h.last, h.fin, h.d0, h.f0, h.wb, h'⟩
theorem GW.start (w : World) (win : Int) (h0 : 0 ≤ win) (h1 : win ≤ 10000) : GW w 0 (-1) win none 0 0 [] := ⟨rfl, Nat.le_refl _, by decide, by decide, Gap.nil, h0, fun h => absurd h (by decide), Int.le_refl _, by decide, h1, RdP.nil _ _⟩
theorem GW.held (h : GW w d f win A n c ps) : GHeld d (ps.map PD.pl) ∧ endP d (ps.map PD.pl) n = lastE d (ps.map PD.pl) := by
  have h1 := h.last
  have h2 := h.wb
  have := h.gap.held (by omega)
  rwa [List.length_map, h.len] at this
theorem GW.dw (h : GW w d f win A n c ps) : d ≤ win := Int.le_trans h.gap.last h.last
theorem GW.check (h : GW w d f win A n c ps) : Calls Try.prog 26 #[.agg #[.int .i64 d, .slice A n c, .int .i64 f, .int .i64 win]] w fun e w' => e = .returned (.int .i64 0) ∧ Below w.heap.size w w' := by
  obtain ⟨h1, h2⟩ := h.held
  have h3 := h.wb
  exact gCheck_any d f win A n c ps h.len h.cap h.max h.four h.d0 h.f0 h.dw (by omega) h1 (by rw [h2]; exact h.last) (fun h0 => by rw [h2]; exact h.fin h0) w h.rd
theorem GW.lens (h : GW w d f win A n c ps) : ∀ y ∈ ps, y.data.length ≤ 10000 := fun y hy =>
  h.gap.len_le 10000 h.d0 (Int.le_trans h.last h.wb) y.pl (List.mem_map_of_mem hy)
end

/-- Put: what is laid together is held, or there is no room. -/
theorem GW.put {w : World} {d f win : Int} {A : Option Addr} {n c : Nat} {ps : List PD} (h : GW w d f win A n c ps) (off : Int) (D : Option Addr) (dn dc : Nat) (data : List UInt8) (fin : Bool)
    (hdn : data.length = dn) (hdc : dn ≤ dc) (hdm : dc ≤ 9223372036854775807) (hD : RdB w D data) (ho : 0 ≤ off) (hlw : off + (dn : Int) ≤ win) (hf1 : 0 ≤ f → off + (dn : Int) ≤ f) (hf2 : 0 ≤ f → fin = true → off + (dn : Int) = f) (hf3 : fin = true → lastE d (ps.map PD.pl) ≤ off + (dn : Int)) :
    Calls Try.prog 25 #[.agg #[.int .i64 d, .slice A n c, .int .i64 f, .int .i64 win], .int .i64 off, .slice D dn dc, .bool fin] w fun e w' => ∃ (x0 x2 x3 : Int) (B : Option Addr) (m c' : Nat) (E : Int), e = .returned (.tuple #[.agg #[.int .i64 x0, .slice B m c', .int .i64 x2, .int .i64 x3], .int .i64 E]) ∧
      ((E = 0 ∧ x0 = d ∧ x2 = (if fin then off + (dn : Int) else f) ∧ x3 = win ∧ ∃ (o : List PD) (bs : Nat), bs = w.heap.size ∧ GW w' d (if fin then off + (dn : Int) else f) win B m c' o ∧ OwnX pdc 2 w' bs 68 B c' o ∧ PDs w' bs (B.map (fun y : Addr => y.block)) o ∧ o.map PD.pl = mergeP (putL data off d (ps.map PD.pl))) ∨
        (E = 8 ∧ 4 < (mergeP (putL data off d (ps.map PD.pl))).length)) ∧ Below w.heap.size w w' := by
  obtain ⟨hh, he⟩ := h.held
  have h3 := h.wb
  have hp := gPut_any d f win off A n c ps D dn dc data fin h.len h.cap h.max h.four h.d0 h.f0 h.dw (by omega) hh (by rw [he]; exact h.last) (fun h0 => by rw [he]; exact h.fin h0) w h.rd hdn hdc hdm hD ho (off + (dn : Int)) rfl (by omega) hlw hf1 hf2 (fun h0 => by rw [he]; exact hf3 h0) h.lens (by omega)
  refine hp.mono fun e w' ⟨p1, p2, hb⟩ => ?_
  obtain ⟨q1, q2, q3⟩ := putL_ok data off d (ps.map PD.pl) h.gap
  rw [hdn] at q2
  have hl := h.last
  by_cases h4 : (mergeP (putL data off d (ps.map PD.pl))).length ≤ 4
  · obtain ⟨A', m, c', o, he', ho', hmc, hcm, hO, hP, hmap⟩ := p1 h4
    refine ⟨_, _, _, _, _, _, _, he', .inl ⟨rfl, rfl, rfl, rfl, o, w.heap.size, rfl, ⟨ho', hmc, hcm, ?_, ?_, ?_, ?_, h.d0, ?_, h.wb, RdP.of_own hO hP⟩, hO, hP, hmap⟩, hb⟩
    · rw [← ho', ← List.length_map (f := PD.pl), hmap]; exact h4
    · rw [hmap]; exact q1
    · rw [hmap]; omega
    · rw [hmap]
      intro h0
      cases fin with
      | true =>
        have := hf3 rfl
        simp only [if_true] at h0 ⊢
        omega
      | false =>
        simp only [Bool.false_eq_true, if_false] at h0 ⊢
        have := hf1 h0
        have := h.fin h0
        omega
    · have := h.f0
      split <;> omega
  · exact ⟨_, _, _, _, _, _, _, p2 (by omega), .inr ⟨rfl, by omega⟩, hb⟩

/-- Put where there is room. -/
theorem GW.put_ok {w : World} {d f win : Int} {A : Option Addr} {n c : Nat} {ps : List PD} (h : GW w d f win A n c ps) (off : Int) (D : Option Addr) (dn dc : Nat) (data : List UInt8) (fin : Bool) (f' : Int) (hf' : (if fin then off + (dn : Int) else f) = f')
    (hdn : data.length = dn) (hdc : dn ≤ dc) (hdm : dc ≤ 9223372036854775807) (hD : RdB w D data) (ho : 0 ≤ off) (hlw : off + (dn : Int) ≤ win) (hf1 : 0 ≤ f → off + (dn : Int) ≤ f) (hf2 : 0 ≤ f → fin = true → off + (dn : Int) = f) (hf3 : fin = true → lastE d (ps.map PD.pl) ≤ off + (dn : Int)) (h4 : (mergeP (putL data off d (ps.map PD.pl))).length ≤ 4) :
    Calls Try.prog 25 #[.agg #[.int .i64 d, .slice A n c, .int .i64 f, .int .i64 win], .int .i64 off, .slice D dn dc, .bool fin] w fun e w' => ∃ (B : Option Addr) (m c' : Nat) (o : List PD), e = .returned (.tuple #[.agg #[.int .i64 d, .slice B m c', .int .i64 f', .int .i64 win], .int .i64 0]) ∧
      GW w' d f' win B m c' o ∧ OwnX pdc 2 w' w.heap.size 68 B c' o ∧ PDs w' w.heap.size (B.map (fun y : Addr => y.block)) o ∧ o.map PD.pl = mergeP (putL data off d (ps.map PD.pl)) ∧ Below w.heap.size w w' := by
  subst hf'
  refine (h.put off D dn dc data fin hdn hdc hdm hD ho hlw hf1 hf2 hf3).mono ?_
  rintro e w' ⟨x0, x2, x3, B, m, c', E, rfl, hE, hb⟩
  rcases hE with ⟨rfl, rfl, rfl, rfl, o, bs, rfl, h1, h2, h3, h5⟩ | ⟨_, h6⟩
  · exact ⟨B, m, c', o, rfl, h1, h2, h3, h5, hb⟩
  · omega
end Go.Proofs.Ytolhlgalhhdkmab
