/- Plain: what Encode comes to, field by field. -/
import Derived.Test.YtihngonemdaihaaFSecBack
import Derived.Test.YtihngonemdaihaaFTellBack
namespace Go.Proofs.Ytihngonemdaihaa
open Go.RowKit
set_option linter.unusedVariables false

theorem tGetR_app {put : Int} {R : List Fld} {f g : Fld} {k : Int} (h : tGetR put R k = (g, 0)) : tGetR (put + 1) (R ++ [f]) k = (g, 0) := by
  unfold tGetR at h ⊢
  by_cases c1 : k < 0 ∨ put ≤ k
  · rw [if_pos c1] at h; simp at h
  · rw [if_neg c1] at h
    by_cases c2 : k < put - R.length
    · rw [if_pos c2] at h; simp at h
    · rw [if_neg c2] at h
      have hl : (R ++ [f]).length = R.length + 1 := by simp
      rw [hl, if_neg (by omega), if_neg (by push_cast; omega)]
      rw [← h]
      congr 1
      have e : (k - (put + 1 - ((R.length + 1 : Nat) : Int))).toNat = (k - (put - R.length)).toNat := by congr 1; push_cast; omega
      rw [e]
      have hb : (k - (put - (R.length : Int))).toNat < R.length := by omega
      simp [List.getD, List.getElem?_append_left hb]
theorem tGetR_last {put : Int} {R : List Fld} (f : Fld) (h : 0 ≤ put) : tGetR (put + 1) (R ++ [f]) put = (f, 0) := by
  unfold tGetR
  have hl : (R ++ [f]).length = R.length + 1 := by simp
  rw [hl, if_neg (by omega), if_neg (by push_cast; omega)]
  have e : (put - (put + 1 - ((R.length + 1 : Nat) : Int))).toNat = R.length := by push_cast; omega
  rw [e]
  simp [List.getD]
theorem tGetR_at {put : Int} {R : List Fld} {j : Nat} (hj : j < R.length) (h : (R.length : Int) ≤ put) : tGetR put R (put - R.length + j) = (R.getD j fnil, 0) := by
  unfold tGetR
  rw [if_neg (by omega), if_neg (by omega)]
  congr 2
  omega

/-- What has come of the first i fields. -/
structure EncP (r : Nat) (put : Int) (R0 : List Fld) (ah : Bool) (fs : List Fld) (i : Nat) (told : List Fld) (refs : List Int) (need : Nat) : Prop where
  rl : refs.length = i
  hi : i ≤ fs.length
  ok : ∀ j, j < i → RefOk (put + told.length) (R0 ++ told) need (fs.getD j fnil, refs.getD j 0)
  rng : ∀ j, j < i → -1 ≤ refs.getD j 0 ∧ refs.getD j 0 < need
  sz : tsz (R0 ++ told) ≤ r
  fit : put + told.length ≤ 4611686018427387903
  fok : ∀ f ∈ told, FOk f
  nd : (need : Int) ≤ put + told.length
  no : told = [] → (need : Int) ≤ put
  yes : told ≠ [] → put < need
  off : ah = false → told = []
  tl : told.length ≤ i
  h2 : (R0.length : Int) ≤ put
theorem EncP.zero {r : Nat} {put : Int} {R0 : List Fld} {ah : Bool} {fs : List Fld} (h1 : tsz R0 ≤ r) (h2 : (R0.length : Int) ≤ put) (h3 : put ≤ 4611686018427387903) : EncP r put R0 ah fs 0 [] [] 0 where
  rl := rfl
  hi := Nat.zero_le _
  ok := fun j hj => absurd hj (Nat.not_lt_zero _)
  rng := fun j hj => absurd hj (Nat.not_lt_zero _)
  sz := by simpa using h1
  fit := by simpa using h3
  fok := fun f hf => absurd hf List.not_mem_nil
  nd := by simp; omega
  no := fun _ => by omega
  yes := fun h => absurd rfl h
  off := fun _ => rfl
  tl := Nat.le_refl _
  h2 := h2
section
variable {r : Nat} {put : Int} {R0 : List Fld} {ah : Bool} {fs : List Fld} {i : Nat} {told : List Fld} {refs : List Int} {need : Nat}
theorem RefOk.mono {put : Int} {R : List Fld} {need need' : Nat} {p : Fld × Int} (h : RefOk put R need p) (hn : need ≤ need') : RefOk put R need' p :=
  ⟨h.1, fun a b => ⟨by have := (h.2 a b).1; omega, (h.2 a b).2⟩⟩
theorem snocD (refs : List Int) (i : Nat) (hl : refs.length = i) (u : Int) (j : Nat) (hj : j < i + 1) : (j < i ∧ (refs ++ [u]).getD j 0 = refs.getD j 0) ∨ (j = i ∧ (refs ++ [u]).getD j 0 = u) := by
  subst hl
  by_cases h : j < refs.length
  · left; exact ⟨h, by simp [List.getD, List.getElem?_append_left h]⟩
  · right
    have : j = refs.length := by omega
    subst this
    exact ⟨rfl, by simp [List.getD]⟩
/-- A field of which nothing is said in the table. -/
theorem EncP.skip (h : EncP r put R0 ah fs i told refs need) (hi : i < fs.length) (hf : FOk (fs.getD i fnil)) : EncP r put R0 ah fs (i + 1) told (refs ++ [-1]) need where
  rl := by simp [h.rl]
  hi := hi
  ok := fun j hj => by
    rcases snocD refs i h.rl (-1) j hj with ⟨h1, h2⟩ | ⟨h1, h2⟩
    · rw [h2]; exact h.ok j h1
    · rw [h2, h1]; exact ⟨hf, fun _ h0 => absurd h0 (by simp)⟩
  rng := fun j hj => by
    rcases snocD refs i h.rl (-1) j hj with ⟨h1, h2⟩ | ⟨h1, h2⟩
    · rw [h2]; exact h.rng j h1
    · rw [h2]; omega
  sz := h.sz
  fit := h.fit
  fok := h.fok
  nd := h.nd
  no := h.no
  yes := h.yes
  off := h.off
  tl := Nat.le_succ_of_le h.tl
  h2 := h.h2
/-- A field that is in the table. -/
theorem EncP.found (h : EncP r put R0 ah fs i told refs need) (hi : i < fs.length) (hf : FOk (fs.getD i fnil)) (j : Nat) (hj : j < (R0 ++ told).length) (he : (R0 ++ told).getD j fnil = fs.getD i fnil)
    (ref : Int) (hr : ref = put + told.length - ((R0 ++ told).length : Nat) + j) (need' : Nat) (hn : (need' : Int) = max (need : Int) (ref + 1)) : EncP r put R0 ah fs (i + 1) told (refs ++ [ref]) need' := by
  have hl : ((R0 ++ told).length : Int) = R0.length + told.length := by rw [List.length_append]; push_cast; rfl
  have hh := h.h2
  have hnd := h.nd
  have hn1 : need ≤ need' := by omega
  have hn2 : ref < need' := by omega
  have hn3 : (need' : Int) ≤ put + told.length := by omega
  exact {
    rl := by simp [h.rl]
    hi := hi
    ok := fun q hq => by
      rcases snocD refs i h.rl ref q hq with ⟨h1, h2⟩ | ⟨h1, h2⟩
      · rw [h2]; exact (h.ok q h1).mono hn1
      · rw [h2, h1]
        refine ⟨hf, fun _ h0 => ⟨hn2, ?_⟩⟩
        show tGetR _ _ ref = _
        rw [hr, tGetR_at hj (by omega), he]
    rng := fun q hq => by
      rcases snocD refs i h.rl ref q hq with ⟨h1, h2⟩ | ⟨h1, h2⟩
      · rw [h2]; have := h.rng q h1; omega
      · rw [h2]; omega
    sz := h.sz
    fit := h.fit
    fok := h.fok
    nd := hn3
    no := fun h0 => by subst h0; simpa using hn3
    yes := fun h0 => by have := h.yes h0; omega
    off := h.off
    tl := Nat.le_succ_of_le h.tl
    h2 := h.h2 }
/-- A field that is told ahead. -/
theorem EncP.tell (h : EncP r put R0 ah fs i told refs need) (hi : i < fs.length) (hf : FOk (fs.getD i fnil)) (ha : ah = true) (hs : tsz (R0 ++ told) + fsz (fs.getD i fnil) ≤ r) (hp : put + told.length < 4611686018427387903)
    (ref : Int) (hr : ref = put + told.length) (need' : Nat) (hn : (need' : Int) = max (need : Int) (ref + 1)) : EncP r put R0 ah fs (i + 1) (told ++ [fs.getD i fnil]) (refs ++ [ref]) need' := by
  have hh := h.h2
  have hnd := h.nd
  have hn1 : need ≤ need' := by omega
  have hn2 : ref < need' := by omega
  have hl : (((told ++ [fs.getD i fnil]).length : Nat) : Int) = told.length + 1 := by rw [List.length_append]; push_cast; rfl
  have hn3 : (need' : Int) = put + told.length + 1 := by omega
  exact {
    rl := by simp [h.rl]
    hi := hi
    ok := fun q hq => by
      rw [hl, ← List.append_assoc, ← Int.add_assoc]
      rcases snocD refs i h.rl ref q hq with ⟨h1, h2⟩ | ⟨h1, h2⟩
      · rw [h2]
        have h3 := (h.ok q h1).mono hn1
        exact ⟨h3.1, fun a b => ⟨(h3.2 a b).1, tGetR_app (h3.2 a b).2⟩⟩
      · rw [h2, h1]
        refine ⟨hf, fun _ h0 => ⟨hn2, ?_⟩⟩
        show tGetR _ _ ref = _
        rw [hr]
        exact tGetR_last _ (by omega)
    rng := fun q hq => by
      rcases snocD refs i h.rl ref q hq with ⟨h1, h2⟩ | ⟨h1, h2⟩
      · rw [h2]; have := h.rng q h1; omega
      · rw [h2]; omega
    sz := by rw [← List.append_assoc, tsz_append]; simp only [tsz]; omega
    fit := by rw [hl]; omega
    fok := fun f hm => by
      rcases List.mem_append.1 hm with h1 | h1
      · exact h.fok f h1
      · rw [List.mem_singleton.1 h1]; exact hf
    nd := by rw [hl]; omega
    no := fun h0 => absurd h0 (by simp)
    yes := fun _ => by omega
    off := fun h0 => by rw [ha] at h0; cases h0
    tl := by have := h.tl; rw [List.length_append]; simp; omega
    h2 := h.h2 }
/-- All fields, and what was said of each. -/
theorem EncP.all (h : EncP r put R0 ah fs fs.length told refs need) : (fs.zip refs).map Prod.fst = fs ∧ (∀ p ∈ fs.zip refs, RefOk (put + told.length) (R0 ++ told) need p) := by
  refine ⟨List.map_fst_zip (by rw [h.rl]; exact Nat.le_refl _), fun p hp => ?_⟩
  obtain ⟨j, hj, rfl⟩ := List.getElem_of_mem hp
  have hj' : j < fs.length := by simp at hj; omega
  have hk := h.ok j hj'
  have hr : j < refs.length := by rw [h.rl]; exact hj'
  simpa [List.getD, hj', hr] using hk
end
/-- What Encode has come to. -/
structure EncQ (r : Nat) (put : Int) (R0 : List Fld) (ah : Bool) (fs : List Fld) (told : List Fld) (need : Nat) (ps : List (Fld × Int)) : Prop where
  fst : ps.map Prod.fst = fs
  ok : ∀ p ∈ ps, RefOk (put + told.length) (R0 ++ told) need p
  sz : tsz (R0 ++ told) ≤ r
  fit : put + told.length ≤ 4611686018427387903
  fok : ∀ f ∈ told, FOk f
  nd : (need : Int) ≤ put + told.length
  no : told = [] → (need : Int) ≤ put
  yes : told ≠ [] → put < need
  off : ah = false → told = []
  tl : told.length ≤ fs.length
theorem EncP.q {r : Nat} {put : Int} {R0 : List Fld} {ah : Bool} {fs : List Fld} {told : List Fld} {refs : List Int} {need : Nat} (h : EncP r put R0 ah fs fs.length told refs need) : EncQ r put R0 ah fs told need (fs.zip refs) :=
  ⟨h.all.1, h.all.2, h.sz, h.fit, h.fok, h.nd, h.no, h.yes, h.off, h.tl⟩
theorem tellF_le (f : Fld) (hf : FOk f) : (tellF f).length ≤ 100 := by
  unfold tellF
  rw [List.length_append, txtB_len, txtB_len]
  have := (pEnc_len 5 64 f.1.size).2
  have := (pEnc_len 7 0 f.2.size).2
  have := hf.2.1
  have := hf.2.2
  omega
theorem tellB_le : ∀ (gs : List Fld), (∀ f ∈ gs, FOk f) → (tellB gs).length ≤ gs.length * 100
  | [], _ => by simp [tellB]
  | f :: gs, h => by
    rw [tellB_cons, List.length_append]
    have h1 := tellF_le f (h f List.mem_cons_self)
    have h2 := tellB_le gs fun g hg => h g (List.mem_cons_of_mem _ hg)
    simp only [List.length_cons]
    omega
theorem lineB_le (need : Nat) (f : Fld) (hf : FOk f) (ref : Int) : (lineB need f ref).length ≤ 100 := by
  have a1 := (pEnc_len 6 192 (knownR f).1).2
  have a2 := (pEnc_len 6 128 (need - 1 - ref.toNat)).2
  have a3 := (pEnc_len 4 64 (knownR f).1).2
  have a4 := (pEnc_len 3 32 f.1.size).2
  have a5 := (pEnc_len 7 0 f.2.size).2
  have := hf.2.1
  have := hf.2.2
  unfold lineB
  split
  · omega
  · split
    · omega
    · split
      · rw [List.length_append, txtB_len]; omega
      · rw [List.length_append, txtB_len, txtB_len]; omega
theorem linesB_le (need : Nat) : ∀ (ps : List (Fld × Int)), (∀ p ∈ ps, FOk p.1) → (linesB need ps).length ≤ ps.length * 100
  | [], _ => by simp [linesB]
  | p :: ps, h => by
    rw [linesB_cons, List.length_append]
    have h1 := lineB_le need p.1 (h p List.mem_cons_self) p.2
    have h2 := linesB_le need ps fun g hg => h g (List.mem_cons_of_mem _ hg)
    simp only [List.length_cons]
    omega
end Go.Proofs.Ytihngonemdaihaa
