/- Plain: a table behind which more was put in; and what Insert answers of it. -/
import Derived.Test.YtdmonacekjcedaaEncP
import Derived.Test.YtdmonacekjcedaaTabKeep
import Derived.Test.YtdmonacekjcedaaInsertBigWalk
namespace Go.Proofs.Ytdmonacekjcedaa
open Go.ChangeShapes Go.WideShapes Go.ChangeAt Go.RowKit
set_option linter.unusedVariables false

/-- More was put in, and some went out. -/
def LatP (U : Int) (RU : List Fld) (j : Nat) (put : Int) (rows : List Fld) : Prop := ∃ (more : List Fld) (d : Nat), d ≤ (RU ++ more).length ∧ rows = (RU ++ more).drop d ∧ put = U + more.length ∧ more.length ≤ j
theorem LatP.zero (U : Int) (RU : List Fld) : LatP U RU 0 U RU := ⟨[], 0, Nat.zero_le _, by simp, by simp, Nat.le_refl _⟩
theorem LatP.mono {U : Int} {RU : List Fld} {j k : Nat} {put : Int} {rows : List Fld} (h : LatP U RU j put rows) (hk : j ≤ k) : LatP U RU k put rows := by
  obtain ⟨more, d, h1, h2, h3, h4⟩ := h
  exact ⟨more, d, h1, h2, h3, Nat.le_trans h4 hk⟩
theorem LatP.more {U : Int} {RU : List Fld} {j : Nat} {put : Int} {rows : List Fld} (h : LatP U RU j put rows) (room : Nat) (f : Fld) : LatP U RU (j + 1) (put + 1) (fitR rows room ++ [f]) := by
  obtain ⟨more, d, h1, rfl, rfl, h4⟩ := h
  obtain ⟨k, hk, he, _⟩ := fitR_end ((RU ++ more).drop d) room
  rw [List.length_drop] at hk
  refine ⟨more ++ [f], d + k, ?_, ?_, ?_, ?_⟩
  · rw [← List.append_assoc, List.length_append]; omega
  · rw [he, List.drop_drop, ← List.append_assoc]
    exact (List.drop_append_of_le_length (l₁ := RU ++ more) (l₂ := [f]) (by omega)).symm
  · rw [List.length_append]; push_cast; simp; omega
  · rw [List.length_append]; simp; omega
theorem tGetR_later {U : Int} {RU more : List Fld} {d : Nat} (hd : d ≤ (RU ++ more).length) {k : Int} {f : Fld} (h : tGetR U RU k = (f, 0)) :
    tGetR (U + more.length) ((RU ++ more).drop d) k = (f, 0) ∨ (tGetR (U + more.length) ((RU ++ more).drop d) k = (fnil, 16) ∧ 0 ≤ k ∧ k < U + more.length - (((RU ++ more).drop d).length : Nat)) := by
  unfold tGetR at h ⊢
  by_cases c1 : k < 0 ∨ U ≤ k
  · rw [if_pos c1] at h; simp at h
  · rw [if_neg c1] at h
    by_cases c2 : k < U - RU.length
    · rw [if_pos c2] at h; simp at h
    · rw [if_neg c2] at h
      injection h with h _
      rw [if_neg (by omega)]
      have hl : (((RU ++ more).drop d).length : Int) = RU.length + more.length - d := by rw [List.length_drop, List.length_append]; rw [List.length_append] at hd; omega
      rw [hl]
      by_cases c3 : k < U + more.length - (RU.length + more.length - d)
      · right
        rw [if_pos c3]
        exact ⟨rfl, by omega, c3⟩
      · left
        rw [if_neg c3]
        congr 1
        rw [← h]
        have e : (k - (U + more.length - ((RU.length : Int) + more.length - d))).toNat + d = (k - (U - RU.length)).toNat := by omega
        have hb : (k - (U - (RU.length : Int))).toNat < RU.length := by omega
        simp only [List.getD, List.getElem?_drop]
        rw [Nat.add_comm d, e, List.getElem?_append_left hb]
/-- What was written is there, or gone. -/
theorem LatP.ref {U : Int} {RU : List Fld} {j : Nat} {put : Int} {rows : List Fld} (h : LatP U RU j put rows) {need : Nat} {p : Fld × Int} (hp : RefOk U RU need p) : RefOk put rows need p ∨ (RefGone put rows need p ∧ 0 < put - rows.length) := by
  obtain ⟨more, d, h1, rfl, rfl, h4⟩ := h
  by_cases c : (knownR p.1).2.1 = false ∧ 0 ≤ p.2
  · obtain ⟨r1, r2⟩ := hp.2 c.1 c.2
    rcases tGetR_later h1 r2 with h | ⟨h, h5, h6⟩
    · exact .inl ⟨hp.1, fun _ _ => ⟨r1, h⟩⟩
    · exact .inr ⟨⟨c.1, c.2, r1, h⟩, by omega⟩
  · exact .inl ⟨hp.1, fun a b => absurd ⟨a, b⟩ c⟩
theorem fdec_lat {U : Int} {RU : List Fld} {j : Nat} {put : Int} {rows : List Fld} (h : LatP U RU j put rows) {need : Nat} (hn : (need : Int) ≤ U) (hput : put ≤ 4611686018427387903) (ps : List (Fld × Int)) (h8 : ps.length ≤ 8) (hr : ∀ p ∈ ps, RefOk U RU need p) :
    fdecR put rows (secB need ps) = (ps.map Prod.fst, 0) ∨ (fdecR put rows (secB need ps) = ([], 16) ∧ 0 < put - rows.length) := by
  have hU : U ≤ put := by obtain ⟨more, d, _, _, rfl, _⟩ := h; omega
  rcases fdec_later put rows need (by omega) hput ps h8 (fun p hp => (hr p hp).1) (fun p hp => by
    rcases h.ref (hr p hp) with a | a
    · exact .inl a
    · exact .inr a.1) with a | ⟨a, p, hp, hg⟩
  · exact .inl a
  · rcases h.ref (hr p hp) with b | b
    · have := (b.2 hg.1 hg.2.1).2
      rw [hg.2.2.2] at this
      injection this with _ h5
      cases h5
    · exact .inr ⟨a, b.2⟩
/-- What Insert answers. -/
def InsO (r : Nat) (U : Int) (RU : List Fld) (j : Nat) (p1 p2 : Int) (A : Option Addr) (n c : Nat) (E : Int) (w : World) : Prop :=
  (E = 0 ∧ p1 = r ∧ ∃ rows, TabV w (r : Int) p2 A n c rows ∧ LatP U RU j p2 rows) ∨ E = 1
theorem InsO.re {r : Nat} {U : Int} {RU : List Fld} {j : Nat} {p1 p2 : Int} {A : Option Addr} {n c : Nat} {E : Int} {w w' : World} (h : InsO r U RU j p1 p2 A n c E w) (hr : ∀ rows, RdX fcells 2 w A rows → RdX fcells 2 w' A rows) : InsO r U RU j p1 p2 A n c E w' := by
  rcases h with ⟨h1, h2, rows, h3, h4⟩ | h
  · exact .inl ⟨h1, h2, rows, h3.rows (hr _ h3.hr), h4⟩
  · exact .inr h
theorem ins_any (w : World) (r : Nat) (put : Int) (A : Option Addr) (n c : Nat) (rows : List Fld) (hV : TabV w (r : Int) put A n c rows) (hp : put < 4611686018427387903) (x y : ByteArray) (hf : FOk (x, y)) (U : Int) (RU : List Fld) (j : Nat) (hL : LatP U RU j put rows) :
    Calls Try.prog 11 #[.agg #[.int .i64 (r : Int), .int .i64 put, .slice A n c], .agg #[.string x, .string y]] w fun e w' => ∃ (p1 p2 : Int) (A' : Option Addr) (n' c' : Nat) (E : Int), e = .returned (.tuple #[.agg #[.int .i64 p1, .int .i64 p2, .slice A' n' c'], .int .i64 E]) ∧ InsO r U RU (j + 1) p1 p2 A' n' c' E w' ∧ Below w.heap.size w w' := by
  obtain ⟨p, hps⟩ : ∃ p, x.size + y.size + 32 = p := ⟨_, rfl⟩
  have h1 := hV.h1
  have hs := hV.hs
  by_cases hpr : p ≤ r
  · refine (tInsert_ok r put A n c rows hV.hn hV.hnc hV.hcm (by omega) hV.h2 hp hV.hf (by omega) x y hf.1 hf.2.1 hf.2.2 p hps hpr _ _ rfl rfl w hV.hr).mono ?_
    rintro e w' ⟨A', c', he, hc, hc', hr, hb⟩
    refine ⟨_, _, A', _, c', 0, he, .inl ⟨rfl, rfl, _, ⟨rfl, hc, hc', hV.h0, hV.h1, ?_, by omega, ?_, ?_, hr⟩, hL.more _ _⟩, hb⟩
    · have h2 := hV.h2
      have h3 := hV.hn
      obtain ⟨k, hk, he, _⟩ := fitR_end rows (r - p)
      rw [he, List.length_append, List.length_drop]; simp; omega
    · intro f hm
      rcases List.mem_append.1 hm with h3 | h3
      · exact hV.hf f (fitR_mem h3)
      · rw [List.mem_singleton.1 h3]; exact hf
    · rw [tsz_append]
      have := fitR_fits rows (r - p)
      have h4 : fsz (x, y) = p := hps
      simp only [tsz]
      omega
  · refine (tInsert_big r put A n c rows hV.hn hV.hnc hV.hcm (by omega) hV.h2 hp hV.hf (by omega) x y hf.1 hf.2.1 hf.2.2 p hps (by omega) w hV.hr).mono ?_
    rintro e w' ⟨he, hb⟩
    exact ⟨_, _, _, _, _, 1, he, .inr rfl, hb⟩
end Go.Proofs.Ytdmonacekjcedaa
