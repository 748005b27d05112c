/- The contract of space.Leap. -/
import Derived.Test.YtoonohhjcfceeaaSpaceLeap0
namespace Go.Proofs.Ytoonohhjcfceeaa
open Go.ChangeShapes Go.WideShapes Go.ChangeAt Go.RowKit
set_option linter.unusedVariables false

set_option maxRecDepth 100000 in
set_option maxHeartbeats 800000 in
theorem spLeap_ok (nx : Int) (A : Option Addr) (n c : Nat) (top : Int) (B : Option Addr) (m d : Nat) (C : Option Addr) (k e : Nat) (ps : List Pcl) (hs : List Rng) (ks : List Int) (hx : nx < 4611686018427387903) (w : World) (h : SpV w nx A n c top B m d C k e ps hs ks) :
    Calls Try.prog 24 #[.agg #[.int .i64 nx, .slice A n c, .int .i64 top, .slice B m d, .slice C k e]] w fun e' w' => ∃ (A' : Option Addr) (c' : Nat) (B' : Option Addr) (d' : Nat) (C' : Option Addr) (k' e2 : Nat), e' = .returned (.tuple #[.agg #[.int .i64 (nx + 1), .slice A' n c', .int .i64 top, .slice B' m d', .slice C' k' e2], .int .i64 0]) ∧
      SpKeep w w' (fun W => SpV W (nx + 1) A' n c' top B' m d' C' k' e2 ps hs (leapK nx ks)) ∧ Below w.heap.size w w' := by
  have hn0 := h.ok.n0
  have hk6 := h.k6
  have HV := Lib.hid h
  clear h
  have hnw : IntKind.i64.wrap (nx + 1) = nx + 1 := by rw [IntKind.wrap_i64]; omega
  have hnxb : (nx == 4611686018427387903) = false := by rw [beq_eq_false_iff_ne]; omega
  go_enter Try.func24, Try.ntmps24
  go_upto_region 1 with (fail)
  refine wp_world (fun w' => Blk w' w.heap.size 26 #[.int .i64 nx, .slice A n c, .int .i64 top, .slice B m d, .slice C k e] ∧ Blk w' (w.heap.size + 1) 26 #[.int .i64 0, .slice none 0 0, .int .i64 0, .slice none 0 0, .slice none 0 0] ∧ Below w.heap.size w w') ⟨(Blk.new _ _ _).alloc _, Blk.new1 _ _ _ _, ((Below.refl _ _).alloc (Nat.le_refl _) _).alloc (by simp) _⟩ ?_
  rintro w1 ⟨hS, hZ, hb⟩
  have FS := hS.facts5
  have HV1 := Lib.hid (HV.out.below hb)
  go_wp2_with fail
  refine (HV1.out.check).mono ?_
  rintro e1 w2 ⟨rfl, hb2⟩
  have hS := hS.carry hb2
  have hZ := hZ.carry hb2
  have hb := hb.trans (hb2.mono hb.size)
  have HV2 := Lib.hid (HV1.out.below hb2)
  have hgz := hZ.lt
  clear FS HV1 hb2
  have FS := hS.facts5
  go_wp2_with fail
  refine (HV2.out.fresh).mono ?_
  rintro e2 w3 ⟨A3, c3, B3, d3, C3, k3, M, rfl, ⟨hc3, hc3m⟩, ⟨hd3, hd3m⟩, ⟨hk3, hk3m⟩, hM0, hM1, hAM, hO, hOB, hOC, hb3⟩
  have hS := hS.carry hb3
  have hZ := hZ.carry hb3
  have hb := hb.trans (hb3.mono hb.size)
  clear FS hb3
  have FS := hS.facts5
  have HO := Lib.hid hO
  have HOB := Lib.hid hOB
  have HOC := Lib.hid hOC
  have HAM := Lib.hid hAM
  clear hO hOB hOC hAM
  go_upto_region 7 with (fail)
  refine wp_world (fun w' => Blk w' w.heap.size 26 #[.int .i64 nx, .slice A3 n c3, .int .i64 top, .slice B3 m d3, .slice C3 k k3] ∧ Blk w' (w.heap.size + 1) 26 #[.int .i64 0, .slice none 0 0, .int .i64 0, .slice none 0 0, .slice none 0 0] ∧ OwnX pcells 4 w' w2.heap.size 39 A3 c3 ps ∧ OwnX rcells 2 w' M 35 B3 d3 hs ∧ OwnX icells 1 w' M 3 C3 k3 ks ∧ M ≤ w'.heap.size ∧ Below w.heap.size w w')
    ⟨(((((hS.set_ 0 _).set_ 1 _).set_ 2 _).set_ 3 _).set_ 4 _).as (by rfl), by (apply Blk.as; (case h => (repeat (first | with_reducible exact hZ | with_reducible apply Blk.drew | with_reducible apply Blk.set4 | with_reducible apply Blk.set_ | (with_reducible apply Blk.far4 (hne := ?side); case side => (first | omega | (simp; omega) | (simp; done))) | (with_reducible apply Blk.far (hp := ?side); case side => (first | omega | (simp; omega) | (simp; done))) | with_reducible apply Blk.alloc))); (case e => (first | with_reducible rfl | (simp; done) | rfl))), ?_, ?_, ?_, by first | exact hM1 | (simp; omega), by (repeat (first | with_reducible exact hb | with_reducible refine Below.drew ?_ | (with_reducible refine Below.set4 ?_ ?side _ _ _ _; case side => (first | omega | (simp; omega) | (simp; done))) | (with_reducible refine Below.setCell ?_ ?side _; case side => (first | omega | (simp; omega) | (simp; done))) | (with_reducible refine Below.alloc ?_ ?side _; case side => (first | omega | (simp; omega) | (simp; done)))))⟩ ?_
  · (repeat (first | with_reducible exact HO.out | (with_reducible refine OwnX.set_below ?_ ?side _; case side => (first | omega | (simp; omega)))))
  · (repeat (first | with_reducible exact HOB.out | (with_reducible refine OwnX.set_below ?_ ?side _; case side => (first | omega | (simp; omega)))))
  · (repeat (first | with_reducible exact HOC.out | (with_reducible refine OwnX.set_below ?_ ?side _; case side => (first | omega | (simp; omega)))))
  clear FS hS hZ hb HO HOB HOC hM1
  rintro w4 ⟨hS, hZ, hO, hOB, hOC, hM1, hb⟩
  have FS := hS.facts5
  have HS := Lib.hid hS
  have HZ := Lib.hid hZ
  have HO := Lib.hid hO
  have HOB := Lib.hid hOB
  have HOC := Lib.hid hOC
  have HB := Lib.hid hb
  have HK := Lib.hid HV2.out.hk
  have hgs4 : w.heap.size < w4.heap.size := by omega
  clear hS hZ hO hOB hOC hb
  by_cases h6 : k = 6
  · subst h6
    have hk7 : IntKind.i64.wrap ((6 : Int) + 1) = 7 := rfl
    go_upto_region 8 with (at_builtin; refine wpList_appL icells 1 icells_one _ rfl (.tmp 19) (.tmp 22) _ rfl M 3 _ 8 Try.underlying24 intInfo rfl (by decide) (by decide) C3 6 k3 ks rfl HK.out (HOC.out.alloc _) _ 1 1 [nx] rfl rfl (RdX.oneH (f := icells) (m := 1) _ _ nx #[.int .i64 nx] rfl rfl (by first | rfl | (simp; done))) (ks ++ [nx]) rfl (6 + 1) rfl (by omega) (by first | omega | (simp; omega)) ?_; intro C6 c6 w6 hO6 hc6 hm6 hb6 hgr6 hat6; have hS6 : Blk w6 w.heap.size 26 #[.int .i64 nx, .slice A3 n c3, .int .i64 top, .slice B3 m d3, .slice C3 6 k3] := (by refine Blk.below ?_ hb6 (by omega); (have hS := HS.out; (apply Blk.as; (case h => (repeat (first | with_reducible exact hS | with_reducible apply Blk.drew | with_reducible apply Blk.set4 | with_reducible apply Blk.set_ | (with_reducible apply Blk.far4 (hne := ?side); case side => (first | omega | (simp; omega) | (simp; done))) | (with_reducible apply Blk.far (hp := ?side); case side => (first | omega | (simp; omega) | (simp; done))) | with_reducible apply Blk.alloc))); (case e => (first | with_reducible rfl | (simp; done) | rfl))))); have F6 := hS6.facts5)
    have hZ6 : Blk w6 (w.heap.size + 1) 26 #[.int .i64 0, .slice none 0 0, .int .i64 0, .slice none 0 0, .slice none 0 0] := by
      refine Blk.below ?_ hb6 (by omega)
      have hZ := HZ.out
      (apply Blk.as; (case h => (repeat (first | with_reducible exact hZ | with_reducible apply Blk.drew | with_reducible apply Blk.set4 | with_reducible apply Blk.set_ | (with_reducible apply Blk.far4 (hne := ?side); case side => (first | omega | (simp; omega) | (simp; done))) | (with_reducible apply Blk.far (hp := ?side); case side => (first | omega | (simp; omega) | (simp; done))) | with_reducible apply Blk.alloc))); (case e => (first | with_reducible rfl | (simp; done) | rfl)))
    have hal : ∀ o, Below w4.heap.size w4 (w4.alloc o) := fun o => (Below.refl _ _).alloc (Nat.le_refl _) _
    have hO6p : OwnX pcells 4 w6 w2.heap.size 39 A3 c3 ps := OwnX.grown (HO.out.alloc _) hgr6 (own_apartS HO.out HOC.out (by decide))
    have hO6r : OwnX rcells 2 w6 M 35 B3 d3 hs := OwnX.grown (HOB.out.alloc _) hgr6 (own_apartS HOB.out HOC.out (by decide))
    have hbx : Below w.heap.size w w6 := by
      refine Below.trans ?_ (hb6.mono (by omega))
      have hb := HB.out
      (repeat (first | with_reducible exact hb | with_reducible refine Below.drew ?_ | (with_reducible refine Below.set4 ?_ ?side _ _ _ _; case side => (first | omega | (simp; omega) | (simp; done))) | (with_reducible refine Below.setCell ?_ ?side _; case side => (first | omega | (simp; omega) | (simp; done))) | (with_reducible refine Below.alloc ?_ ?side _; case side => (first | omega | (simp; omega) | (simp; done)))))
    have hM6 : M ≤ w6.heap.size := by have := hb6.size; first | omega | (simp at this; omega)
    have HO6 := Lib.hid hO6
    have HO6p := Lib.hid hO6p
    have HO6r := Lib.hid hO6r
    clear F6 hO6 hO6p hO6r hb6 hgr6 hat6 HO HOB HOC HB HS HZ FS HAM hal
    refine wp_world (fun w' => Blk w' w.heap.size 26 #[.int .i64 nx, .slice A3 n c3, .int .i64 top, .slice B3 m d3, .slice C6 (6 + 1) c6] ∧ Blk w' (w.heap.size + 1) 26 #[.int .i64 0, .slice none 0 0, .int .i64 0, .slice none 0 0, .slice none 0 0] ∧ OwnX pcells 4 w' w2.heap.size 39 A3 c3 ps ∧ OwnX rcells 2 w' M 35 B3 d3 hs ∧ OwnX icells 1 w' M 3 C6 c6 (ks ++ [nx]) ∧ Below w.heap.size w w')
      ⟨by (apply Blk.as; (case h => (repeat (first | with_reducible exact hS6 | with_reducible apply Blk.drew | with_reducible apply Blk.set4 | with_reducible apply Blk.set_ | (with_reducible apply Blk.far4 (hne := ?side); case side => (first | omega | (simp; omega) | (simp; done))) | (with_reducible apply Blk.far (hp := ?side); case side => (first | omega | (simp; omega) | (simp; done))) | with_reducible apply Blk.alloc))); (case e => (first | with_reducible rfl | (simp; done) | rfl))), by (apply Blk.as; (case h => (repeat (first | with_reducible exact hZ6 | with_reducible apply Blk.drew | with_reducible apply Blk.set4 | with_reducible apply Blk.set_ | (with_reducible apply Blk.far4 (hne := ?side); case side => (first | omega | (simp; omega) | (simp; done))) | (with_reducible apply Blk.far (hp := ?side); case side => (first | omega | (simp; omega) | (simp; done))) | with_reducible apply Blk.alloc))); (case e => (first | with_reducible rfl | (simp; done) | rfl))), ?_, ?_, ?_, by (repeat (first | with_reducible exact hbx | with_reducible refine Below.drew ?_ | (with_reducible refine Below.set4 ?_ ?side _ _ _ _; case side => (first | omega | (simp; omega) | (simp; done))) | (with_reducible refine Below.setCell ?_ ?side _; case side => (first | omega | (simp; omega) | (simp; done))) | (with_reducible refine Below.alloc ?_ ?side _; case side => (first | omega | (simp; omega) | (simp; done)))))⟩ ?_
    · (repeat (first | with_reducible exact HO6p.out | (with_reducible refine OwnX.set_below ?_ ?side _; case side => (first | omega | (simp; omega)))))
    · (repeat (first | with_reducible exact HO6r.out | (with_reducible refine OwnX.set_below ?_ ?side _; case side => (first | omega | (simp; omega)))))
    · (repeat (first | with_reducible exact HO6.out | (with_reducible refine OwnX.set_below ?_ ?side _; case side => (first | omega | (simp; omega)))))
    clear hS6 hZ6 hbx HO6 HO6p HO6r
    rintro w7 ⟨hS, hZ, hO, hOB, hOC, hb⟩
    have FS := hS.facts5
    have HS := Lib.hid hS
    have HZ := Lib.hid hZ
    have HO := Lib.hid hO
    have HOB := Lib.hid hOB
    have HOC := Lib.hid hOC
    have HB := Lib.hid hb
    have hgl := hS.lt
    have hgz7 := hZ.lt
    clear hS hZ hO hOB hOC hb
    obtain ⟨C7, hC7⟩ : ∃ C7, Option.map (fun x => x.add 1) C6 = C7 := ⟨_, rfl⟩
    have HCE := Lib.hid hC7
    clear hC7
    have HC7 : Hid (∀ wf, OwnX icells 1 wf M 3 C6 c6 (ks ++ [nx]) → RdX icells 1 wf C7 (leapK nx ks)) := fun wf h => by
      have hc := RdX.cut icells_len h.rd (k := 1) (cap := c6) (by rw [List.length_append]; simp) h.cap.1
      rw [if_neg (by omega)] at hc
      rw [← HCE.out]
      have e : leapK nx ks = (ks ++ [nx]).drop 1 := by unfold leapK; rw [HK.out]
      rw [e]
      simpa using hc
    have hc61 : (1 : Int) ≤ (c6 : Int) := by omega
    have HLK : Hid ((leapK nx ks).length = 6) := by
      show _ = _
      have h := leapK_len nx ks (by rw [HK.out]; omega)
      rw [HK.out] at h
      rw [h]; rfl
    have FIN : ∀ wf, OwnX pcells 4 wf w2.heap.size 39 A3 c3 ps → OwnX rcells 2 wf M 35 B3 d3 hs → OwnX icells 1 wf M 3 C6 c6 (ks ++ [nx]) → SpV wf (nx + 1) A3 n c3 top B3 m d3 C7 6 (c6 - 1) ps hs (leapK nx ks) := fun wf h1 h2 h3 =>
      ⟨HV2.out.hn, HV2.out.hm, HLK.out, hc3, hc3m, hd3, hd3m, by omega, by omega, HV2.out.ok.leap hx, h1.rd, h2.rd, HC7.out wf h3⟩
    have HF := Lib.hid FIN
    clear FIN
    go_upto_region 11 with (fail)
    refine wp_world (fun w' => Blk w' w.heap.size 26 #[.int .i64 nx, .slice A3 n c3, .int .i64 top, .slice B3 m d3, .slice C7 6 (c6 - 1)] ∧ Blk w' (w.heap.size + 1) 26 #[.int .i64 0, .slice none 0 0, .int .i64 0, .slice none 0 0, .slice none 0 0] ∧ OwnX pcells 4 w' w2.heap.size 39 A3 c3 ps ∧ OwnX rcells 2 w' M 35 B3 d3 hs ∧ OwnX icells 1 w' M 3 C6 c6 (ks ++ [nx]) ∧ Below w.heap.size w w')
      ⟨by (have hS := HS.out; exact (hS.set_ 4 _).as (by rw [← HCE.out]; simp [Addr.add])), by (have hZ := HZ.out; (apply Blk.as; (case h => (repeat (first | with_reducible exact hZ | with_reducible apply Blk.drew | with_reducible apply Blk.set4 | with_reducible apply Blk.set_ | (with_reducible apply Blk.far4 (hne := ?side); case side => (first | omega | (simp; omega) | (simp; done))) | (with_reducible apply Blk.far (hp := ?side); case side => (first | omega | (simp; omega) | (simp; done))) | with_reducible apply Blk.alloc))); (case e => (first | with_reducible rfl | (simp; done) | rfl)))), ?_, ?_, ?_, by (have hb := HB.out; (repeat (first | with_reducible exact hb | with_reducible refine Below.drew ?_ | (with_reducible refine Below.set4 ?_ ?side _ _ _ _; case side => (first | omega | (simp; omega) | (simp; done))) | (with_reducible refine Below.setCell ?_ ?side _; case side => (first | omega | (simp; omega) | (simp; done))) | (with_reducible refine Below.alloc ?_ ?side _; case side => (first | omega | (simp; omega) | (simp; done))))))⟩ ?_
    · (repeat (first | with_reducible exact HO.out | (with_reducible refine OwnX.set_below ?_ ?side _; case side => (first | omega | (simp; omega)))))
    · (repeat (first | with_reducible exact HOB.out | (with_reducible refine OwnX.set_below ?_ ?side _; case side => (first | omega | (simp; omega)))))
    · (repeat (first | with_reducible exact HOC.out | (with_reducible refine OwnX.set_below ?_ ?side _; case side => (first | omega | (simp; omega)))))
    clear FS HS HZ HO HOB HOC HB hgl hgz7
    rintro w8 ⟨hS, hZ, hO, hOB, hOC, hb⟩
    have FS := hS.facts5
    have FZ := hZ.facts5
    have HO := Lib.hid hO
    have HOB := Lib.hid hOB
    have HOC := Lib.hid hOC
    have HB := Lib.hid hb
    clear hO hOB hOC hb
    go_wp2_with fail
    refine bodyPost_ret (v := .tuple #[.agg #[.int .i64 (nx + 1), .slice A3 n c3, .int .i64 top, .slice B3 m d3, .slice C7 6 (c6 - 1)], .int .i64 0]) ?_ rfl ((fun h1 h2 h3 h4 => ⟨A3, c3, B3, d3, C7, 6, (c6 - 1), rfl, fun W hW => HF.out W (ownx_agree h1 fun q q1 q2 => hW q (by omega) q2) (ownx_agree h2 fun q q1 q2 => hW q (by omega) q2) (ownx_agree h3 fun q q1 q2 => hW q (by omega) q2), h4⟩) ?_ ?_ ?_ ?_)
    · simp [results, Try.results24, go_sem, FZ] <;> first | rfl | omega
    · (repeat (first | with_reducible exact HO.out | (with_reducible refine OwnX.set_below ?_ ?side _; case side => (first | omega | (simp; omega)))))
    · (repeat (first | with_reducible exact HOB.out | (with_reducible refine OwnX.set_below ?_ ?side _; case side => (first | omega | (simp; omega)))))
    · (repeat (first | with_reducible exact HOC.out | (with_reducible refine OwnX.set_below ?_ ?side _; case side => (first | omega | (simp; omega)))))
    · have hb := HB.out
      (repeat (first | with_reducible exact hb | with_reducible refine Below.drew ?_ | (with_reducible refine Below.set4 ?_ ?side _ _ _ _; case side => (first | omega | (simp; omega) | (simp; done))) | (with_reducible refine Below.setCell ?_ ?side _; case side => (first | omega | (simp; omega) | (simp; done))) | (with_reducible refine Below.alloc ?_ ?side _; case side => (first | omega | (simp; omega) | (simp; done)))))
  · have hk5 : k + 1 ≤ 6 := by omega
    have hk5' : (k : Int) + 1 ≤ 6 := by omega
    go_upto_region 8 with (at_builtin; refine wpList_appL icells 1 icells_one _ rfl (.tmp 19) (.tmp 22) _ rfl M 3 _ 8 Try.underlying24 intInfo rfl (by decide) (by decide) C3 k k3 ks rfl HK.out (HOC.out.alloc _) _ 1 1 [nx] rfl rfl (RdX.oneH (f := icells) (m := 1) _ _ nx #[.int .i64 nx] rfl rfl (by first | rfl | (simp; done))) (ks ++ [nx]) rfl (k + 1) rfl (by omega) (by first | omega | (simp; omega)) ?_; intro C6 c6 w6 hO6 hc6 hm6 hb6 hgr6 hat6; have hS6 : Blk w6 w.heap.size 26 #[.int .i64 nx, .slice A3 n c3, .int .i64 top, .slice B3 m d3, .slice C3 k k3] := (by refine Blk.below ?_ hb6 (by omega); (have hS := HS.out; (apply Blk.as; (case h => (repeat (first | with_reducible exact hS | with_reducible apply Blk.drew | with_reducible apply Blk.set4 | with_reducible apply Blk.set_ | (with_reducible apply Blk.far4 (hne := ?side); case side => (first | omega | (simp; omega) | (simp; done))) | (with_reducible apply Blk.far (hp := ?side); case side => (first | omega | (simp; omega) | (simp; done))) | with_reducible apply Blk.alloc))); (case e => (first | with_reducible rfl | (simp; done) | rfl))))); have F6 := hS6.facts5)
    have hZ6 : Blk w6 (w.heap.size + 1) 26 #[.int .i64 0, .slice none 0 0, .int .i64 0, .slice none 0 0, .slice none 0 0] := by
      refine Blk.below ?_ hb6 (by omega)
      have hZ := HZ.out
      (apply Blk.as; (case h => (repeat (first | with_reducible exact hZ | with_reducible apply Blk.drew | with_reducible apply Blk.set4 | with_reducible apply Blk.set_ | (with_reducible apply Blk.far4 (hne := ?side); case side => (first | omega | (simp; omega) | (simp; done))) | (with_reducible apply Blk.far (hp := ?side); case side => (first | omega | (simp; omega) | (simp; done))) | with_reducible apply Blk.alloc))); (case e => (first | with_reducible rfl | (simp; done) | rfl)))
    have hal : ∀ o, Below w4.heap.size w4 (w4.alloc o) := fun o => (Below.refl _ _).alloc (Nat.le_refl _) _
    have hO6p : OwnX pcells 4 w6 w2.heap.size 39 A3 c3 ps := OwnX.grown (HO.out.alloc _) hgr6 (own_apartS HO.out HOC.out (by decide))
    have hO6r : OwnX rcells 2 w6 M 35 B3 d3 hs := OwnX.grown (HOB.out.alloc _) hgr6 (own_apartS HOB.out HOC.out (by decide))
    have hbx : Below w.heap.size w w6 := by
      refine Below.trans ?_ (hb6.mono (by omega))
      have hb := HB.out
      (repeat (first | with_reducible exact hb | with_reducible refine Below.drew ?_ | (with_reducible refine Below.set4 ?_ ?side _ _ _ _; case side => (first | omega | (simp; omega) | (simp; done))) | (with_reducible refine Below.setCell ?_ ?side _; case side => (first | omega | (simp; omega) | (simp; done))) | (with_reducible refine Below.alloc ?_ ?side _; case side => (first | omega | (simp; omega) | (simp; done)))))
    have hM6 : M ≤ w6.heap.size := by have := hb6.size; first | omega | (simp at this; omega)
    have HO6 := Lib.hid hO6
    have HO6p := Lib.hid hO6p
    have HO6r := Lib.hid hO6r
    clear F6 hO6 hO6p hO6r hb6 hgr6 hat6 HO HOB HOC HB HS HZ FS HAM hal
    refine wp_world (fun w' => Blk w' w.heap.size 26 #[.int .i64 nx, .slice A3 n c3, .int .i64 top, .slice B3 m d3, .slice C6 (k + 1) c6] ∧ Blk w' (w.heap.size + 1) 26 #[.int .i64 0, .slice none 0 0, .int .i64 0, .slice none 0 0, .slice none 0 0] ∧ OwnX pcells 4 w' w2.heap.size 39 A3 c3 ps ∧ OwnX rcells 2 w' M 35 B3 d3 hs ∧ OwnX icells 1 w' M 3 C6 c6 (ks ++ [nx]) ∧ Below w.heap.size w w')
      ⟨by (apply Blk.as; (case h => (repeat (first | with_reducible exact hS6 | with_reducible apply Blk.drew | with_reducible apply Blk.set4 | with_reducible apply Blk.set_ | (with_reducible apply Blk.far4 (hne := ?side); case side => (first | omega | (simp; omega) | (simp; done))) | (with_reducible apply Blk.far (hp := ?side); case side => (first | omega | (simp; omega) | (simp; done))) | with_reducible apply Blk.alloc))); (case e => (first | with_reducible rfl | (simp; done) | rfl))), by (apply Blk.as; (case h => (repeat (first | with_reducible exact hZ6 | with_reducible apply Blk.drew | with_reducible apply Blk.set4 | with_reducible apply Blk.set_ | (with_reducible apply Blk.far4 (hne := ?side); case side => (first | omega | (simp; omega) | (simp; done))) | (with_reducible apply Blk.far (hp := ?side); case side => (first | omega | (simp; omega) | (simp; done))) | with_reducible apply Blk.alloc))); (case e => (first | with_reducible rfl | (simp; done) | rfl))), ?_, ?_, ?_, by (repeat (first | with_reducible exact hbx | with_reducible refine Below.drew ?_ | (with_reducible refine Below.set4 ?_ ?side _ _ _ _; case side => (first | omega | (simp; omega) | (simp; done))) | (with_reducible refine Below.setCell ?_ ?side _; case side => (first | omega | (simp; omega) | (simp; done))) | (with_reducible refine Below.alloc ?_ ?side _; case side => (first | omega | (simp; omega) | (simp; done)))))⟩ ?_
    · (repeat (first | with_reducible exact HO6p.out | (with_reducible refine OwnX.set_below ?_ ?side _; case side => (first | omega | (simp; omega)))))
    · (repeat (first | with_reducible exact HO6r.out | (with_reducible refine OwnX.set_below ?_ ?side _; case side => (first | omega | (simp; omega)))))
    · (repeat (first | with_reducible exact HO6.out | (with_reducible refine OwnX.set_below ?_ ?side _; case side => (first | omega | (simp; omega)))))
    clear hS6 hZ6 hbx HO6 HO6p HO6r
    rintro w7 ⟨hS, hZ, hO, hOB, hOC, hb⟩
    have FS := hS.facts5
    have HS := Lib.hid hS
    have HZ := Lib.hid hZ
    have HO := Lib.hid hO
    have HOB := Lib.hid hOB
    have HOC := Lib.hid hOC
    have HB := Lib.hid hb
    have hgl := hS.lt
    have hgz7 := hZ.lt
    clear hS hZ hO hOB hOC hb
    have HC7 : Hid (∀ wf, OwnX icells 1 wf M 3 C6 c6 (ks ++ [nx]) → RdX icells 1 wf C6 (leapK nx ks)) := fun wf h => by
      have e : leapK nx ks = ks ++ [nx] := by unfold leapK; rw [HK.out, show k + 1 - 6 = 0 by omega]; rfl
      rw [e]; exact h.rd
    have HLK : Hid ((leapK nx ks).length = (k + 1)) := by
      show _ = _
      have h := leapK_len nx ks (by rw [HK.out]; omega)
      rw [HK.out] at h
      rw [h]; rw [if_neg (by omega)]
    have FIN : ∀ wf, OwnX pcells 4 wf w2.heap.size 39 A3 c3 ps → OwnX rcells 2 wf M 35 B3 d3 hs → OwnX icells 1 wf M 3 C6 c6 (ks ++ [nx]) → SpV wf (nx + 1) A3 n c3 top B3 m d3 C6 (k + 1) c6 ps hs (leapK nx ks) := fun wf h1 h2 h3 =>
      ⟨HV2.out.hn, HV2.out.hm, HLK.out, hc3, hc3m, hd3, hd3m, by omega, by omega, HV2.out.ok.leap hx, h1.rd, h2.rd, HC7.out wf h3⟩
    have HF := Lib.hid FIN
    clear FIN
    go_upto_region 11 with (fail)
    refine wp_world (fun w' => Blk w' w.heap.size 26 #[.int .i64 nx, .slice A3 n c3, .int .i64 top, .slice B3 m d3, .slice C6 (k + 1) c6] ∧ Blk w' (w.heap.size + 1) 26 #[.int .i64 0, .slice none 0 0, .int .i64 0, .slice none 0 0, .slice none 0 0] ∧ OwnX pcells 4 w' w2.heap.size 39 A3 c3 ps ∧ OwnX rcells 2 w' M 35 B3 d3 hs ∧ OwnX icells 1 w' M 3 C6 c6 (ks ++ [nx]) ∧ Below w.heap.size w w')
      ⟨by (have hS := HS.out; exact hS), by (have hZ := HZ.out; (apply Blk.as; (case h => (repeat (first | with_reducible exact hZ | with_reducible apply Blk.drew | with_reducible apply Blk.set4 | with_reducible apply Blk.set_ | (with_reducible apply Blk.far4 (hne := ?side); case side => (first | omega | (simp; omega) | (simp; done))) | (with_reducible apply Blk.far (hp := ?side); case side => (first | omega | (simp; omega) | (simp; done))) | with_reducible apply Blk.alloc))); (case e => (first | with_reducible rfl | (simp; done) | rfl)))), ?_, ?_, ?_, by (have hb := HB.out; (repeat (first | with_reducible exact hb | with_reducible refine Below.drew ?_ | (with_reducible refine Below.set4 ?_ ?side _ _ _ _; case side => (first | omega | (simp; omega) | (simp; done))) | (with_reducible refine Below.setCell ?_ ?side _; case side => (first | omega | (simp; omega) | (simp; done))) | (with_reducible refine Below.alloc ?_ ?side _; case side => (first | omega | (simp; omega) | (simp; done))))))⟩ ?_
    · (repeat (first | with_reducible exact HO.out | (with_reducible refine OwnX.set_below ?_ ?side _; case side => (first | omega | (simp; omega)))))
    · (repeat (first | with_reducible exact HOB.out | (with_reducible refine OwnX.set_below ?_ ?side _; case side => (first | omega | (simp; omega)))))
    · (repeat (first | with_reducible exact HOC.out | (with_reducible refine OwnX.set_below ?_ ?side _; case side => (first | omega | (simp; omega)))))
    clear FS HS HZ HO HOB HOC HB hgl hgz7
    rintro w8 ⟨hS, hZ, hO, hOB, hOC, hb⟩
    have FS := hS.facts5
    have FZ := hZ.facts5
    have HO := Lib.hid hO
    have HOB := Lib.hid hOB
    have HOC := Lib.hid hOC
    have HB := Lib.hid hb
    clear hO hOB hOC hb
    go_wp2_with fail
    refine bodyPost_ret (v := .tuple #[.agg #[.int .i64 (nx + 1), .slice A3 n c3, .int .i64 top, .slice B3 m d3, .slice C6 (k + 1) c6], .int .i64 0]) ?_ rfl ((fun h1 h2 h3 h4 => ⟨A3, c3, B3, d3, C6, (k + 1), c6, rfl, fun W hW => HF.out W (ownx_agree h1 fun q q1 q2 => hW q (by omega) q2) (ownx_agree h2 fun q q1 q2 => hW q (by omega) q2) (ownx_agree h3 fun q q1 q2 => hW q (by omega) q2), h4⟩) ?_ ?_ ?_ ?_)
    · simp [results, Try.results24, go_sem, FZ] <;> first | rfl | omega
    · (repeat (first | with_reducible exact HO.out | (with_reducible refine OwnX.set_below ?_ ?side _; case side => (first | omega | (simp; omega)))))
    · (repeat (first | with_reducible exact HOB.out | (with_reducible refine OwnX.set_below ?_ ?side _; case side => (first | omega | (simp; omega)))))
    · (repeat (first | with_reducible exact HOC.out | (with_reducible refine OwnX.set_below ?_ ?side _; case side => (first | omega | (simp; omega)))))
    · have hb := HB.out
      (repeat (first | with_reducible exact hb | with_reducible refine Below.drew ?_ | (with_reducible refine Below.set4 ?_ ?side _ _ _ _; case side => (first | omega | (simp; omega) | (simp; done))) | (with_reducible refine Below.setCell ?_ ?side _; case side => (first | omega | (simp; omega) | (simp; done))) | (with_reducible refine Below.alloc ?_ ?side _; case side => (first | omega | (simp; omega) | (simp; done)))))
end Go.Proofs.Ytoonohhjcfceeaa
