/- The contracts of space.Leap and space.Quiet; of space.Send where there is no room. -/
import Derived.Test.YtoonohhjcfceeaaSpaceSend
namespace Go.Proofs.Ytoonohhjcfceeaa
open Go.ChangeShapes Go.WideShapes Go.ChangeAt Go.RowKit
set_option linter.unusedVariables false

/-- Two rows of different types lie apart. -/
theorem own_typesS {w : World} {base base' : Nat} {e e' : TypeId} {size size' n n' : Nat} {v v' : Value} {xs xs' : List Value} (h : w.ownsRow base e size v n xs) (h' : w.ownsRow base' e' size' v' n' xs') (he : e ≠ e') : ∀ k, v.ownBlock = some k → some k ≠ v'.ownBlock := fun k hk hk' => by
  rcases h.2 with ⟨h2, _⟩ | ⟨g, cap, cur, hv, _, hh, _⟩
  · rw [h2] at hk; cases hk
  · rcases h'.2 with ⟨h2, _⟩ | ⟨g', cap', cur', hv', _, hh', _⟩
    · rw [h2] at hk'; cases hk'
    · have e1 : g = k := by rw [hv] at hk; exact Option.some.inj hk
      have e2 : k = g' := by rw [hv'] at hk'; exact Option.some.inj hk'
      subst e1; subst e2
      rw [hh] at hh'
      injection hh' with h3
      injection h3 with _ h4
      exact he h4
theorem own_apartS {α β : Type} {f : α → List Value} {f' : β → List Value} {m m' : Nat} {w : World} {b b' : Nat} {E E' : TypeId} {A A' : Option Addr} {c c' : Nat} {xs : List α} {xs' : List β} (h : OwnX f m w b E A c xs) (h' : OwnX f' m' w b' E' A' c' xs') (he : E ≠ E') : A.map (·.block) = none ∨ A.map (·.block) ≠ A'.map (·.block) := by
  cases hA : A with
  | none => exact .inl rfl
  | some x =>
    refine .inr fun e => ?_
    have h1 := own_typesS h h' he x.block (by rw [slice_own, hA]; rfl)
    rw [slice_own] at h1
    exact h1 e
theorem ownX_drewS {α : Type} {f : α → List Value} {m : Nat} {w : World} {base : Nat} {E : TypeId} {A : Option Addr} {c : Nat} {xs : List α} (h : OwnX f m w base E A c xs) : OwnX f m w.drew base E A c xs := World.ownsRow.drew h
/-- The numbers that were left out, one more. -/
def leapK (nx : Int) (ks : List Int) : List Int := (ks ++ [nx]).drop (ks.length + 1 - 6)
theorem leapK_len (nx : Int) (ks : List Int) (h : ks.length ≤ 6) : (leapK nx ks).length = if ks.length = 6 then 6 else ks.length + 1 := by
  unfold leapK
  rw [List.length_drop, List.length_append, List.length_singleton]
  split <;> omega
theorem leapK_mem {nx : Int} {ks : List Int} {x : Int} (h : x ∈ leapK nx ks) : x ∈ ks ∨ x = nx := by
  have := List.mem_of_mem_drop h
  rcases List.mem_append.1 this with h1 | h1
  · exact .inl h1
  · exact .inr (List.mem_singleton.1 h1)
theorem leapK_has (nx : Int) (ks : List Int) (h : ks.length ≤ 6) : nx ∈ leapK nx ks := by
  unfold leapK
  rw [List.drop_append_of_le_length (by omega)]
  exact List.mem_append_right _ (List.mem_singleton.2 rfl)
theorem SpOk.leap {nx : Int} {ps : List Pcl} {top : Int} {hs : List Rng} {ks : List Int} (h : SpOk nx ps top hs ks) (hx : nx < 4611686018427387903) : SpOk (nx + 1) ps top hs (leapK nx ks) := by
  have hc : ∀ v, v < nx → ks.contains v = false → (leapK nx ks).contains v = false := fun v hv hk => by
    cases hc : (leapK nx ks).contains v with
    | false => rfl
    | true =>
      exfalso
      rcases leapK_mem (List.contains_iff_mem.1 hc) with h1 | h1
      · rw [List.contains_iff_mem.2 h1] at hk; cases hk
      · omega
  refine ⟨by have := h.n0; omega, by omega, h.t0, by have := h.t1; omega, h.pl, h.hl, ?_, h.hg, ⟨h.pk.1, fun p hp => ?_⟩, ⟨?_, fun x hxm => ?_⟩, hc _ h.t1 h.tk⟩
  · rw [leapK_len _ _ h.kl]; have := h.kl; split <;> omega
  · obtain ⟨a, b, c, d, e⟩ := h.pk.2 p hp
    exact ⟨a, by omega, c, d, hc _ b e⟩
  · unfold leapK
    refine List.Pairwise.sublist (List.drop_sublist _ _) ?_
    rw [List.pairwise_append]
    refine ⟨h.kk.1, List.pairwise_singleton _ _, fun a ha b hb => ?_⟩
    rw [List.mem_singleton.1 hb]
    exact (h.kk.2 a ha).2
  · rcases leapK_mem hxm with h1 | h1
    · have := h.kk.2 x h1; omega
    · have := h.n0; omega
theorem SpOk.quiet {nx : Int} {ps : List Pcl} {top : Int} {hs : List Rng} {ks : List Int} (h : SpOk nx ps top hs ks) (hx : nx < 4611686018427387903) : SpOk (nx + 1) ps top hs ks := by
  refine ⟨by have := h.n0; omega, by omega, h.t0, by have := h.t1; omega, h.pl, h.hl, h.kl, h.hg, ⟨h.pk.1, fun p hp => ?_⟩, ⟨h.kk.1, fun x hxm => ?_⟩, h.tk⟩
  · obtain ⟨a, b, c⟩ := h.pk.2 p hp; exact ⟨a, by omega, c⟩
  · have := h.kk.2 x hxm; omega

set_option maxRecDepth 100000 in
set_option maxHeartbeats 4000000 in
/-- Send where there is no room. -/
theorem spSend_full (nx : Int) (A : Option Addr) (c : Nat) (top : Int) (B : Option Addr) (m d : Nat) (C : Option Addr) (k e : Nat) (ps : List Pcl) (hs : List Rng) (ks : List Int) (now size : Int) (h0 : 0 ≤ now ∧ now ≤ 1099511627776) (h1 : 0 ≤ size ∧ size ≤ 400) (w : World) (h : SpV w nx A 24 c top B m d C k e ps hs ks) :
    Calls Try.prog 11 #[.agg #[.int .i64 nx, .slice A 24 c, .int .i64 top, .slice B m d, .slice C k e], .int .i64 now, .int .i64 size, .slice none 0 0] w fun e' w' => e' = .returned (.tuple #[.agg #[.int .i64 0, .slice none 0 0, .int .i64 0, .slice none 0 0, .slice none 0 0], .int .i64 0, .int .i64 8]) ∧ Below w.heap.size w w' := by
  obtain ⟨h00, h01⟩ := h0
  obtain ⟨h10, h11⟩ := h1
  have HV := Lib.hid h
  clear h
  go_enter Try.func11, Try.ntmps11
  go_upto_region 1 with (fail)
  refine wp_world (fun w' => Blk w' w.heap.size 26 #[.int .i64 nx, .slice A 24 c, .int .i64 top, .slice B m d, .slice C k e] ∧ Blk w' (w.heap.size + 1) 26 #[.int .i64 0, .slice none 0 0, .int .i64 0, .slice none 0 0, .slice none 0 0] ∧ Below w.heap.size w w') ⟨(Blk.new _ _ _).alloc _, Blk.new1 _ _ _ _, ((Below.refl _ _).alloc (Nat.le_refl _) _).alloc (by simp) _⟩ ?_
  rintro w1 ⟨hS, hZ, hb⟩
  have FS := hS.facts5
  have HV1 := Lib.hid (HV.out.below hb)
  go_wp2_with fail
  refine (HV1.out.check).mono ?_
  rintro e1 w2 ⟨rfl, hb2⟩
  have hS := hS.carry hb2
  have hZ := hZ.carry hb2
  have hb := hb.trans (hb2.mono hb.size)
  clear FS HV1 hb2
  have FS := hS.facts5
  have FZ := hZ.facts5
  go_wp2_with fail
  refine bodyPost_ret (v := .tuple #[.agg #[.int .i64 0, .slice none 0 0, .int .i64 0, .slice none 0 0, .slice none 0 0], .int .i64 0, .int .i64 8]) ?_ rfl ⟨rfl, ?_⟩
  · simp [results, Try.results11, go_sem, FZ] <;> rfl
  · (repeat (first | with_reducible exact hb | with_reducible refine Below.drew ?_ | (with_reducible refine Below.set4 ?_ ?side _ _ _ _; case side => (first | omega | (simp; omega) | (simp; done))) | (with_reducible refine Below.setCell ?_ ?side _; case side => (first | omega | (simp; omega) | (simp; done))) | (with_reducible refine Below.alloc ?_ ?side _; case side => (first | omega | (simp; omega) | (simp; done)))))

end Go.Proofs.Ytoonohhjcfceeaa
