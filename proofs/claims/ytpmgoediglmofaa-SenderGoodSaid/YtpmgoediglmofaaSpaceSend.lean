/- A space that may be, in memory; the contract of space.Send. -/
import Derived.Test.YtpmgoediglmofaaSpaceSplit
namespace Go.Proofs.Ytpmgoediglmofaa
open Go.ChangeShapes Go.WideShapes Go.ChangeAt Go.RowKit
set_option linter.unusedVariables false

structure SpV (w : World) (nx : Int) (A : Option Addr) (n c : Nat) (top : Int) (B : Option Addr) (m d : Nat) (C : Option Addr) (k e : Nat) (ps : List Pcl) (hs : List Rng) (ks : List Int) : Prop where
  hn : ps.length = n
  hm : hs.length = m
  hk : ks.length = k
  hnc : n ≤ c
  hcm : c ≤ 9223372036854775807
  hmd : m ≤ d
  hdm : d ≤ 9223372036854775807
  hke : k ≤ e
  hem : e ≤ 9223372036854775807
  ok : SpOk nx ps top hs ks
  ra : RdX pcells 4 w A ps
  rb : RdX rcells 2 w B hs
  rc : RdX icells 1 w C ks
section
variable {w w' : World} {nx : Int} {A : Option Addr} {n c : Nat} {top : Int} {B : Option Addr} {m d : Nat} {C : Option Addr} {k e : Nat} {ps : List Pcl} {hs : List Rng} {ks : List Int}
theorem SpV.below (h : SpV w nx A n c top B m d C k e ps hs ks) (hb : Below w.heap.size w w') : SpV w' nx A n c top B m d C k e ps hs ks :=
  ⟨h.hn, h.hm, h.hk, h.hnc, h.hcm, h.hmd, h.hdm, h.hke, h.hem, h.ok, RdX.below h.ra hb, RdX.below h.rb hb, RdX.below h.rc hb⟩
theorem SpV.check (h : SpV w nx A n c top B m d C k e ps hs ks) : Calls Try.prog 13 #[.agg #[.int .i64 nx, .slice A n c, .int .i64 top, .slice B m d, .slice C k e]] w fun e w' => e = .returned (.int .i64 0) ∧ Below w.heap.size w w' :=
  spCheck_ok nx A n c top B m d C k e ps hs ks h.hn h.hm h.hk h.hnc h.hcm h.hmd h.hdm h.hke h.hem h.ok w h.ra h.rb h.rc
theorem SpV.n24 (h : SpV w nx A n c top B m d C k e ps hs ks) : n ≤ 24 := by have := h.ok.pl; rwa [h.hn] at this
theorem SpV.m6 (h : SpV w nx A n c top B m d C k e ps hs ks) : m ≤ 6 := by have := h.ok.hl; rwa [h.hm] at this
theorem SpV.k6 (h : SpV w nx A n c top B m d C k e ps hs ks) : k ≤ 6 := by have := h.ok.kl; rwa [h.hk] at this
/-- fresh of a space that may be. -/
theorem SpV.fresh (h : SpV w nx A n c top B m d C k e ps hs ks) :
    Calls Try.prog 23 #[.agg #[.int .i64 nx, .slice A n c, .int .i64 top, .slice B m d, .slice C k e]] w fun e' w' => ∃ (A' : Option Addr) (c' : Nat) (B' : Option Addr) (d' : Nat) (C' : Option Addr) (k' M : Nat), e' = .returned (.agg #[.int .i64 nx, .slice A' n c', .int .i64 top, .slice B' m d', .slice C' k k']) ∧ (n ≤ c' ∧ c' ≤ 9223372036854775807) ∧ (m ≤ d' ∧ d' ≤ 9223372036854775807) ∧ (k ≤ k' ∧ k' ≤ 9223372036854775807) ∧
      w.heap.size ≤ M ∧ M ≤ w'.heap.size ∧ (∀ x, A' = some x → x.block < M) ∧ OwnX pcells 4 w' w.heap.size 39 A' c' ps ∧ OwnX rcells 2 w' M 35 B' d' hs ∧ OwnX icells 1 w' M 3 C' k' ks ∧ Below w.heap.size w w' :=
  spFresh_any nx A n c top B m d C k e ps hs ks h.hn h.hm h.hk h.hnc h.hcm h.hmd h.hdm h.hke h.hem h.n24 h.m6 h.k6 w h.ra h.rb h.rc
end
/-- What holds behind a call, and goes on holding while nobody writes to what the call made. -/
def SpKeep (w w' : World) (P : World → Prop) : Prop := ∀ W : World, (∀ q, w.heap.size ≤ q → q < w'.heap.size → W.heap[q]? = w'.heap[q]?) → P W
theorem SpKeep.here {w w' : World} {P : World → Prop} (h : SpKeep w w' P) : P w' := h w' fun _ _ _ => rfl
theorem ownx_agree {α : Type} {f : α → List Value} {m : Nat} {w0 W : World} {base : Nat} {E : TypeId} {A : Option Addr} {c : Nat} {xs : List α} (h : OwnX f m w0 base E A c xs) (hb : ∀ k, base ≤ k → k < w0.heap.size → W.heap[k]? = w0.heap[k]?) : OwnX f m W base E A c xs := by
  refine ⟨h.1, ?_⟩
  rcases h.2 with h2 | ⟨g, cap, cur, hv, hg, hh, r⟩
  · exact .inl h2
  · exact .inr ⟨g, cap, cur, hv, hg, (hb g hg (Array.getElem?_eq_some_iff.1 hh).1).trans hh, r⟩
theorem KOk.lt {nx : Int} {ks : List Int} (h : KOk nx ks) (v : Int) (hv : nx ≤ v) : ks.contains v = false := by
  cases hc : ks.contains v with
  | false => rfl
  | true =>
    have := (h.2 v (by simpa using hc)).2
    omega
theorem SpOk.send {nx : Int} {ps : List Pcl} {top : Int} {hs : List Rng} {ks : List Int} (h : SpOk nx ps top hs ks) (now size : Int) (h0 : 0 ≤ now ∧ now ≤ 1099511627776) (h1 : 0 ≤ size ∧ size ≤ 400) (hl : ps.length < 24) (hx : nx < 4611686018427387903) : SpOk (nx + 1) (ps ++ [(nx, now, size)]) top hs ks := by
  refine ⟨by have := h.n0; omega, by omega, h.t0, by have := h.t1; omega, by simp; omega, h.hl, h.kl, h.hg, ⟨?_, ?_⟩, ⟨h.kk.1, fun x hx => by have := h.kk.2 x hx; omega⟩, h.tk⟩
  · rw [List.pairwise_append]
    refine ⟨h.pk.1, List.pairwise_singleton _ _, fun a ha b hb => ?_⟩
    obtain rfl := List.mem_singleton.1 hb
    exact (h.pk.2 a ha).2.1
  · intro p hp
    rcases List.mem_append.1 hp with hp | hp
    · have := h.pk.2 p hp; exact ⟨this.1, by omega, this.2.2⟩
    · obtain rfl := List.mem_singleton.1 hp
      exact ⟨h.n0, by simp only; omega, h0, h1, h.kk.lt nx (Int.le_refl _)⟩

set_option maxRecDepth 100000 in
set_option maxHeartbeats 4000000 in
theorem spSend_ok (nx : Int) (A : Option Addr) (n c : Nat) (top : Int) (B : Option Addr) (m d : Nat) (C : Option Addr) (k e : Nat) (ps : List Pcl) (hs : List Rng) (ks : List Int) (now size : Int) (h0 : 0 ≤ now ∧ now ≤ 1099511627776) (h1 : 0 ≤ size ∧ size ≤ 400) (hl : n < 24) (hx : nx < 4611686018427387903) (w : World) (h : SpV w nx A n c top B m d C k e ps hs ks) :
    Calls Try.prog 8 #[.agg #[.int .i64 nx, .slice A n c, .int .i64 top, .slice B m d, .slice C k e], .int .i64 now, .int .i64 size, .slice none 0 0] w fun e' w' => ∃ (A' : Option Addr) (c' : Nat) (B' : Option Addr) (d' : Nat) (C' : Option Addr) (k' : Nat), e' = .returned (.tuple #[.agg #[.int .i64 (nx + 1), .slice A' (n + 1) c', .int .i64 top, .slice B' m d', .slice C' k k'], .int .i64 nx, .int .i64 0]) ∧
      SpKeep w w' (fun W => SpV W (nx + 1) A' (n + 1) c' top B' m d' C' k k' (ps ++ [(nx, now, size)]) hs ks) ∧ Below w.heap.size w w' := by
  obtain ⟨h00, h01⟩ := h0
  obtain ⟨h10, h11⟩ := h1
  have hn0 := h.ok.n0
  have HV := Lib.hid h
  clear h
  have hnw : IntKind.i64.wrap (nx + 1) = nx + 1 := by rw [IntKind.wrap_i64]; omega
  have hn24 : ¬ (n : Int) = 24 := by omega
  have hn24b : ((n : Int) == 24) = false := by rw [beq_eq_false_iff_ne]; omega
  have hnxb : (nx == 4611686018427387903) = false := by rw [beq_eq_false_iff_ne]; omega
  go_enter Try.func8, Try.ntmps8
  go_upto_region 1 with (fail)
  refine wp_world (fun w' => Blk w' w.heap.size 26 #[.int .i64 nx, .slice A n c, .int .i64 top, .slice B m d, .slice C k e] ∧ Blk w' (w.heap.size + 1) 26 #[.int .i64 0, .slice none 0 0, .int .i64 0, .slice none 0 0, .slice none 0 0] ∧ Below w.heap.size w w') ⟨(Blk.new _ _ _).alloc _, Blk.new1 _ _ _ _, ((Below.refl _ _).alloc (Nat.le_refl _) _).alloc (by simp) _⟩ ?_
  rintro w1 ⟨hS, hZ, hb⟩
  have FS := hS.facts5
  have HV1 := Lib.hid (HV.out.below hb)
  go_wp2_with fail
  refine (HV1.out.check).mono ?_
  rintro e1 w2 ⟨rfl, hb2⟩
  have hS := hS.carry hb2
  have hZ := hZ.carry hb2
  have hb := hb.trans (hb2.mono hb.size)
  have HV2 := Lib.hid (HV1.out.below hb2)
  have hgz := hZ.lt
  clear FS HV1 hb2
  have FS := hS.facts5
  go_wp2_with fail
  refine (HV2.out.fresh).mono ?_
  rintro e2 w3 ⟨A3, c3, B3, d3, C3, k3, M, rfl, ⟨hc3, hc3m⟩, ⟨hd3, hd3m⟩, ⟨hk3, hk3m⟩, hM0, hM1, hAM, hO, hOB, hOC, hb3⟩
  have hS := hS.carry hb3
  have hZ := hZ.carry hb3
  have hb := hb.trans (hb3.mono hb.size)
  clear FS hb3
  have FS := hS.facts5
  have hgs2 : w.heap.size < w2.heap.size := by omega
  have HO := Lib.hid hO
  have HOB := Lib.hid hOB
  have HOC := Lib.hid hOC
  have HAM := Lib.hid hAM
  clear hO hOB hOC hAM
  go_upto_region 10 with (fail)
  refine wp_world (fun w' => Blk w' w.heap.size 26 #[.int .i64 nx, .slice A3 n c3, .int .i64 top, .slice B3 m d3, .slice C3 k k3] ∧ Blk w' (w.heap.size + 1) 26 #[.int .i64 0, .slice none 0 0, .int .i64 0, .slice none 0 0, .slice none 0 0] ∧ OwnX pcells 4 w' w2.heap.size 39 A3 c3 ps ∧ OwnX rcells 2 w' M 35 B3 d3 hs ∧ OwnX icells 1 w' M 3 C3 k3 ks ∧ M ≤ w'.heap.size ∧ Below w.heap.size w w')
    ⟨(((((hS.set_ 0 _).set_ 1 _).set_ 2 _).set_ 3 _).set_ 4 _).as (by rfl), by (apply Blk.as; (case h => (repeat (first | with_reducible exact hZ | with_reducible apply Blk.drew | with_reducible apply Blk.set4 | with_reducible apply Blk.set_ | (with_reducible apply Blk.far4 (hne := ?side); case side => (first | omega | (simp; omega) | (simp; done))) | (with_reducible apply Blk.far (hp := ?side); case side => (first | omega | (simp; omega) | (simp; done))) | with_reducible apply Blk.alloc))); (case e => (first | with_reducible rfl | (simp; done) | rfl))), ?_, ?_, ?_, by first | exact hM1 | (simp; omega), by (repeat (first | with_reducible exact hb | with_reducible refine Below.drew ?_ | (with_reducible refine Below.set4 ?_ ?side _ _ _ _; case side => (first | omega | (simp; omega) | (simp; done))) | (with_reducible refine Below.setCell ?_ ?side _; case side => (first | omega | (simp; omega) | (simp; done))) | (with_reducible refine Below.alloc ?_ ?side _; case side => (first | omega | (simp; omega) | (simp; done)))))⟩ ?_
  · (repeat (first | with_reducible exact HO.out | (with_reducible refine OwnX.set_below ?_ ?side _; case side => (first | omega | (simp; omega)))))
  · (repeat (first | with_reducible exact HOB.out | (with_reducible refine OwnX.set_below ?_ ?side _; case side => (first | omega | (simp; omega)))))
  · (repeat (first | with_reducible exact HOC.out | (with_reducible refine OwnX.set_below ?_ ?side _; case side => (first | omega | (simp; omega)))))
  clear FS hS hZ hb HO HOB HOC hM1
  rintro w4 ⟨hS, hZ, hO, hOB, hOC, hM1, hb⟩
  have FS := hS.facts5
  have HS := Lib.hid hS
  have HZ := Lib.hid hZ
  have HO := Lib.hid hO
  have HOB := Lib.hid hOB
  have HOC := Lib.hid hOC
  have HB := Lib.hid hb
  have HN := Lib.hid HV2.out.hn
  have hgs4 : w.heap.size < w4.heap.size := by omega
  have hn4 : w4.heap.size ≠ w.heap.size := by omega
  have hn4' : ¬ w4.heap.size = w.heap.size := by omega
  clear hS hZ hO hOB hOC hb
  go_region_law ((first
    | (refine step_appL pcells 4 pcells_one (by rfl) _ _ _ (by rfl) w2.heap.size 39 _ 48 Try.underlying22 pclInfo rfl (by decide) (by decide) A3 n c3 ps (by rfl) HN.out (by first | exact HO.out.alloc _ | exact own_carry HO.out (by (repeat (first | with_reducible exact (Below.refl _ _) | with_reducible refine Below.drew ?_ | (with_reducible refine Below.set4 ?_ ?side _ _ _ _; case side => (first | omega | (simp; omega) | (simp; done))) | (with_reducible refine Below.setCell ?_ ?side _; case side => (first | omega | (simp; omega) | (simp; done))) | (with_reducible refine Below.alloc ?_ ?side _; case side => (first | omega | (simp; omega) | (simp; done))))))) _ 1 1 [(nx, now, size)] (by rfl) rfl (by first | exact RdX.oneH (f := pcells) (m := 4) _ _ (nx, now, size) #[.int .i64 nx, .int .i64 now, .int .i64 size, .slice none 0 0] rfl rfl (by first | rfl | (simp; done)) | exact Rd.drew (RdX.oneH (f := pcells) (m := 4) _ _ (nx, now, size) #[.int .i64 nx, .int .i64 now, .int .i64 size, .slice none 0 0] rfl rfl (by first | rfl | (simp; done)))) (ps ++ [(nx, now, size)]) rfl (n + 1) rfl (by omega) (by first | omega | (simp; omega)) ?_; intro A6 c6 w6 hO6 hc6 hm6 hb6 hgr6 hat6; have hS6 : Blk w6 w.heap.size 26 #[.int .i64 nx, .slice A3 n c3, .int .i64 top, .slice B3 m d3, .slice C3 k k3] := (by refine Blk.below ?_ hb6 hgs2; (have hS := HS.out; (apply Blk.as; (case h => (repeat (first | with_reducible exact hS | with_reducible apply Blk.drew | with_reducible apply Blk.set4 | with_reducible apply Blk.set_ | (with_reducible apply Blk.far4 (hne := ?side); case side => (first | omega | (simp; omega) | (simp; done))) | (with_reducible apply Blk.far (hp := ?side); case side => (first | omega | (simp; omega) | (simp; done))) | with_reducible apply Blk.alloc))); (case e => (first | with_reducible rfl | (simp; done) | rfl))))); have F6 := hS6.facts5)
    | (rw [if_pos (by first | rfl | simp [Region.wanted])]; go_simp; go_at_call 24; refine (spFrames_nil _).mono ?_; rintro e3 w' ⟨rfl, rfl⟩)))
  all_goals
    have hZ6 : Blk w6 (w.heap.size + 1) 26 #[.int .i64 0, .slice none 0 0, .int .i64 0, .slice none 0 0, .slice none 0 0] := by
      refine Blk.below ?_ hb6 (by omega)
      have hZ := HZ.out
      (apply Blk.as; (case h => (repeat (first | with_reducible exact hZ | with_reducible apply Blk.drew | with_reducible apply Blk.set4 | with_reducible apply Blk.set_ | (with_reducible apply Blk.far4 (hne := ?side); case side => (first | omega | (simp; omega) | (simp; done))) | (with_reducible apply Blk.far (hp := ?side); case side => (first | omega | (simp; omega) | (simp; done))) | with_reducible apply Blk.alloc))); (case e => (first | with_reducible rfl | (simp; done) | rfl)))
    have hrow : ∀ q, M ≤ q → some q ≠ A3.map (fun y : Addr => y.block) := fun q hq e => by
      cases A3 with
      | none => cases e
      | some x => injection e with e; have := HAM.out x rfl; simp only at e; omega
    have hOB6 : OwnX rcells 2 w6 M 35 B3 d3 hs := OwnX.grown (own_carry HOB.out (by (repeat (first | with_reducible exact (Below.refl _ _) | with_reducible refine Below.drew ?_ | (with_reducible refine Below.set4 ?_ ?side _ _ _ _; case side => (first | omega | (simp; omega) | (simp; done))) | (with_reducible refine Below.setCell ?_ ?side _; case side => (first | omega | (simp; omega) | (simp; done))) | (with_reducible refine Below.alloc ?_ ?side _; case side => (first | omega | (simp; omega) | (simp; done))))))) hgr6 (by
      cases hB3 : B3 with
      | none => exact .inl rfl
      | some x => exact .inr (hrow _ (HOB.out.lt (n := 0) x.block (by rw [slice_own, hB3]; rfl)).1))
    have hOC6 : OwnX icells 1 w6 M 3 C3 k3 ks := OwnX.grown (own_carry HOC.out (by (repeat (first | with_reducible exact (Below.refl _ _) | with_reducible refine Below.drew ?_ | (with_reducible refine Below.set4 ?_ ?side _ _ _ _; case side => (first | omega | (simp; omega) | (simp; done))) | (with_reducible refine Below.setCell ?_ ?side _; case side => (first | omega | (simp; omega) | (simp; done))) | (with_reducible refine Below.alloc ?_ ?side _; case side => (first | omega | (simp; omega) | (simp; done))))))) hgr6 (by
      cases hC3 : C3 with
      | none => exact .inl rfl
      | some x => exact .inr (hrow _ (HOC.out.lt (n := 0) x.block (by rw [slice_own, hC3]; rfl)).1))
    have hbx : Below w.heap.size w w6 := by
      refine Below.trans ?_ (hb6.mono (by omega))
      have hb := HB.out
      (repeat (first | with_reducible exact hb | with_reducible refine Below.drew ?_ | (with_reducible refine Below.set4 ?_ ?side _ _ _ _; case side => (first | omega | (simp; omega) | (simp; done))) | (with_reducible refine Below.setCell ?_ ?side _; case side => (first | omega | (simp; omega) | (simp; done))) | (with_reducible refine Below.alloc ?_ ?side _; case side => (first | omega | (simp; omega) | (simp; done)))))
    have hM6 : w2.heap.size ≤ w6.heap.size := by have := hb6.size; first | omega | (simp at this; omega)
    have HO6 := Lib.hid hO6
    have HOB6 := Lib.hid hOB6
    have HOC6 := Lib.hid hOC6
    clear F6 hO6 hOB6 hOC6 hb6 hgr6 hat6 hrow HO HOB HOC HB HS HZ FS HAM
    go_upto_region 11 with (fail)
    refine wp_world (fun w' => Blk w' w.heap.size 26 #[.int .i64 nx, .slice A6 (n + 1) c6, .int .i64 top, .slice B3 m d3, .slice C3 k k3] ∧ Blk w' (w.heap.size + 1) 26 #[.int .i64 0, .slice none 0 0, .int .i64 0, .slice none 0 0, .slice none 0 0] ∧ OwnX pcells 4 w' w2.heap.size 39 A6 c6 (ps ++ [(nx, now, size)]) ∧ OwnX rcells 2 w' M 35 B3 d3 hs ∧ OwnX icells 1 w' M 3 C3 k3 ks ∧ Below w.heap.size w w')
      ⟨by (apply Blk.as; (case h => (repeat (first | with_reducible exact hS6 | with_reducible apply Blk.drew | with_reducible apply Blk.set4 | with_reducible apply Blk.set_ | (with_reducible apply Blk.far4 (hne := ?side); case side => (first | omega | (simp; omega) | (simp; done))) | (with_reducible apply Blk.far (hp := ?side); case side => (first | omega | (simp; omega) | (simp; done))) | with_reducible apply Blk.alloc))); (case e => (first | with_reducible rfl | (simp; done) | rfl))), by (apply Blk.as; (case h => (repeat (first | with_reducible exact hZ6 | with_reducible apply Blk.drew | with_reducible apply Blk.set4 | with_reducible apply Blk.set_ | (with_reducible apply Blk.far4 (hne := ?side); case side => (first | omega | (simp; omega) | (simp; done))) | (with_reducible apply Blk.far (hp := ?side); case side => (first | omega | (simp; omega) | (simp; done))) | with_reducible apply Blk.alloc))); (case e => (first | with_reducible rfl | (simp; done) | rfl))), ?_, ?_, ?_, by (repeat (first | with_reducible exact hbx | with_reducible refine Below.drew ?_ | (with_reducible refine Below.set4 ?_ ?side _ _ _ _; case side => (first | omega | (simp; omega) | (simp; done))) | (with_reducible refine Below.setCell ?_ ?side _; case side => (first | omega | (simp; omega) | (simp; done))) | (with_reducible refine Below.alloc ?_ ?side _; case side => (first | omega | (simp; omega) | (simp; done)))))⟩ ?_
    · (repeat (first | with_reducible exact HO6.out | (with_reducible refine OwnX.set_below ?_ ?side _; case side => (first | omega | (simp; omega))) | exact own_carry HO6.out (by (repeat (first | with_reducible exact (Below.refl _ _) | with_reducible refine Below.drew ?_ | (with_reducible refine Below.set4 ?_ ?side _ _ _ _; case side => (first | omega | (simp; omega) | (simp; done))) | (with_reducible refine Below.setCell ?_ ?side _; case side => (first | omega | (simp; omega) | (simp; done))) | (with_reducible refine Below.alloc ?_ ?side _; case side => (first | omega | (simp; omega) | (simp; done))))))))
    · (repeat (first | with_reducible exact HOB6.out | (with_reducible refine OwnX.set_below ?_ ?side _; case side => (first | omega | (simp; omega))) | exact own_carry HOB6.out (by (repeat (first | with_reducible exact (Below.refl _ _) | with_reducible refine Below.drew ?_ | (with_reducible refine Below.set4 ?_ ?side _ _ _ _; case side => (first | omega | (simp; omega) | (simp; done))) | (with_reducible refine Below.setCell ?_ ?side _; case side => (first | omega | (simp; omega) | (simp; done))) | (with_reducible refine Below.alloc ?_ ?side _; case side => (first | omega | (simp; omega) | (simp; done))))))))
    · (repeat (first | with_reducible exact HOC6.out | (with_reducible refine OwnX.set_below ?_ ?side _; case side => (first | omega | (simp; omega))) | exact own_carry HOC6.out (by (repeat (first | with_reducible exact (Below.refl _ _) | with_reducible refine Below.drew ?_ | (with_reducible refine Below.set4 ?_ ?side _ _ _ _; case side => (first | omega | (simp; omega) | (simp; done))) | (with_reducible refine Below.setCell ?_ ?side _; case side => (first | omega | (simp; omega) | (simp; done))) | (with_reducible refine Below.alloc ?_ ?side _; case side => (first | omega | (simp; omega) | (simp; done))))))))
    clear hS6 hZ6 hbx HO6 HOB6 HOC6
    rintro w7 ⟨hS, hZ, hO, hOB, hOC, hb⟩
    have FS := hS.facts5
    have FZ := hZ.facts5
    have HO := Lib.hid hO
    have HOB := Lib.hid hOB
    have HOC := Lib.hid hOC
    clear hO hOB hOC
    have FIN : ∀ wf, OwnX pcells 4 wf w2.heap.size 39 A6 c6 (ps ++ [(nx, now, size)]) → OwnX rcells 2 wf M 35 B3 d3 hs → OwnX icells 1 wf M 3 C3 k3 ks → SpV wf (nx + 1) A6 (n + 1) c6 top B3 m d3 C3 k k3 (ps ++ [(nx, now, size)]) hs ks := fun wf h1 h2 h3 =>
      ⟨by rw [List.length_append, HN.out]; rfl, HV2.out.hm, HV2.out.hk, hc6, hm6, hd3, hd3m, hk3, hk3m, HV2.out.ok.send now size ⟨h00, h01⟩ ⟨h10, h11⟩ (by rw [HN.out]; exact hl) hx, h1.rd, h2.rd, h3.rd⟩
    have HF := Lib.hid FIN
    clear FIN
    go_wp2_with fail
    refine bodyPost_ret (v := .tuple #[.agg #[.int .i64 (nx + 1), .slice A6 (n + 1) c6, .int .i64 top, .slice B3 m d3, .slice C3 k k3], .int .i64 nx, .int .i64 0]) ?_ rfl ((fun h1 h2 h3 h4 => ⟨A6, c6, B3, d3, C3, k3, rfl, fun W hW => HF.out W (ownx_agree h1 fun q q1 q2 => hW q (by omega) q2) (ownx_agree h2 fun q q1 q2 => hW q (by omega) q2) (ownx_agree h3 fun q q1 q2 => hW q (by omega) q2), h4⟩) ?_ ?_ ?_ ?_)
    · simp [results, Try.results8, go_sem, FZ] <;> first | rfl | omega
    · (repeat (first | with_reducible exact HO.out | (with_reducible refine OwnX.set_below ?_ ?side _; case side => (first | omega | (simp; omega))) | exact own_carry HO.out (by (repeat (first | with_reducible exact (Below.refl _ _) | with_reducible refine Below.drew ?_ | (with_reducible refine Below.set4 ?_ ?side _ _ _ _; case side => (first | omega | (simp; omega) | (simp; done))) | (with_reducible refine Below.setCell ?_ ?side _; case side => (first | omega | (simp; omega) | (simp; done))) | (with_reducible refine Below.alloc ?_ ?side _; case side => (first | omega | (simp; omega) | (simp; done))))))))
    · (repeat (first | with_reducible exact HOB.out | (with_reducible refine OwnX.set_below ?_ ?side _; case side => (first | omega | (simp; omega))) | exact own_carry HOB.out (by (repeat (first | with_reducible exact (Below.refl _ _) | with_reducible refine Below.drew ?_ | (with_reducible refine Below.set4 ?_ ?side _ _ _ _; case side => (first | omega | (simp; omega) | (simp; done))) | (with_reducible refine Below.setCell ?_ ?side _; case side => (first | omega | (simp; omega) | (simp; done))) | (with_reducible refine Below.alloc ?_ ?side _; case side => (first | omega | (simp; omega) | (simp; done))))))))
    · (repeat (first | with_reducible exact HOC.out | (with_reducible refine OwnX.set_below ?_ ?side _; case side => (first | omega | (simp; omega))) | exact own_carry HOC.out (by (repeat (first | with_reducible exact (Below.refl _ _) | with_reducible refine Below.drew ?_ | (with_reducible refine Below.set4 ?_ ?side _ _ _ _; case side => (first | omega | (simp; omega) | (simp; done))) | (with_reducible refine Below.setCell ?_ ?side _; case side => (first | omega | (simp; omega) | (simp; done))) | (with_reducible refine Below.alloc ?_ ?side _; case side => (first | omega | (simp; omega) | (simp; done))))))))
    · (repeat (first | with_reducible exact hb | with_reducible refine Below.drew ?_ | (with_reducible refine Below.set4 ?_ ?side _ _ _ _; case side => (first | omega | (simp; omega) | (simp; done))) | (with_reducible refine Below.setCell ?_ ?side _; case side => (first | omega | (simp; omega) | (simp; done))) | (with_reducible refine Below.alloc ?_ ?side _; case side => (first | omega | (simp; omega) | (simp; done)))))
end Go.Proofs.Ytpmgoediglmofaa
