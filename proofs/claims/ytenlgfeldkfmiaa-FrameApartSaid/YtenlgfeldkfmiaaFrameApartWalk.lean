/- The walk of the law FrameApart. -/
import Derived.Test.YtenlgfeldkfmiaaFrameOfWalk
namespace Go.Proofs.Ytenlgfeldkfmiaa
open Go.ChangeShapes Go.WideShapes Go.ChangeAt Go.RowKit
set_option linter.unusedVariables false

/-- A frame in a block of its own. -/
def FrV (w : World) (g : Nat) (f : FrD) (k c d : Nat) (A B : Option Addr) : Prop := Blk w g 40 (frcells f A c B d) ∧ RdX rcells 2 w A f.rngs ∧ RdB w B f.data ∧ f.rngs.length ≤ c ∧ c ≤ 9223372036854775807 ∧ f.data.length ≤ d ∧ d ≤ 9223372036854775807

/-- The two raw things in memory. -/
def Two (w : World) (r t : RawD) (W : World) : Prop := Blk W w.heap.size 23 #[.int .i64 r.kind, .int .i64 r.a, .int .i64 r.b, .string r.text] ∧ Blk W (w.heap.size + 1) 23 #[.int .i64 t.kind, .int .i64 t.a, .int .i64 t.b, .string t.text] ∧ Below w.heap.size w W
theorem Two.drew {w W : World} {r t : RawD} (h : Two w r t W) : Two w r t W.drew := ⟨h.1.drew, h.2.1.drew, h.2.2.drew⟩
theorem Two.below {w W W' : World} {r t : RawD} (h : Two w r t W) (hb : Below W.heap.size W W') : Two w r t W' := ⟨h.1.carry hb, h.2.1.carry hb, h.2.2.trans (hb.mono h.2.2.size)⟩
theorem Two.alloc {w W : World} {r t : RawD} (h : Two w r t W) (o : Obj) : Two w r t (W.alloc o) := h.below ((Below.refl _ _).alloc (Nat.le_refl _) _)

theorem Blk.newH (w : World) (t : TypeId) (cs : Array Value) {H : Nat} (hH : w.heap.size = H) : Blk (w.alloc (.cells cs t)) H t cs := by subst hH; exact Blk.new _ _ _
theorem Rd.set_ne {w : World} {size n : Nat} {A : Option Addr} {xs : List Value} (h : Rd w size A n xs) {p : Addr} (hp : ∀ a, A = some a → a.block ≠ p.block) (u : Value) : Rd (w.setCell p u) size A n xs :=
  ⟨h.1, fun hn => by
    obtain ⟨b, off, rfl, hc⟩ := h.2 hn
    have hb : b ≠ p.block := hp ⟨b, off, none⟩ rfl
    exact ⟨b, off, rfl, fun j v hv => (World.cell?_of_block (w := w) (Below.heap_setCell w p u _ hb)).trans (hc j v hv)⟩⟩
theorem Blk.set7 {w : World} {g : Nat} {t : TypeId} {a b c d e f k : Value} (h : Blk w g t #[a, b, c, d, e, f, k]) (u0 u1 u2 u3 u4 u5 u6 : Value) : Blk (((((((w.setCell ⟨g, 0, none⟩ u0).setCell ⟨g, 1, none⟩ u1).setCell ⟨g, 2, none⟩ u2).setCell ⟨g, 3, none⟩ u3).setCell ⟨g, 4, none⟩ u4).setCell ⟨g, 5, none⟩ u5).setCell ⟨g, 6, none⟩ u6) g t #[u0, u1, u2, u3, u4, u5, u6] := by
  have h0 : Blk _ g t #[u0, b, c, d, e, f, k] := (h.set_ 0 u0).as (by simp)
  have h1 : Blk _ g t #[u0, u1, c, d, e, f, k] := (h0.set_ 1 u1).as (by simp)
  have h2 : Blk _ g t #[u0, u1, u2, d, e, f, k] := (h1.set_ 2 u2).as (by simp)
  have h3 : Blk _ g t #[u0, u1, u2, u3, e, f, k] := (h2.set_ 3 u3).as (by simp)
  have h4 : Blk _ g t #[u0, u1, u2, u3, u4, f, k] := (h3.set_ 4 u4).as (by simp)
  have h5 : Blk _ g t #[u0, u1, u2, u3, u4, u5, k] := (h4.set_ 5 u5).as (by simp)
  have h6 : Blk _ g t #[u0, u1, u2, u3, u4, u5, u6] := (h5.set_ 6 u6).as (by simp)
  exact h6
theorem Blk.far7 {w : World} {g q : Nat} {t : TypeId} {cs : Array Value} (h : Blk w g t cs) (hne : g ≠ q) (u0 u1 u2 u3 u4 u5 u6 : Value) : Blk (((((((w.setCell ⟨q, 0, none⟩ u0).setCell ⟨q, 1, none⟩ u1).setCell ⟨q, 2, none⟩ u2).setCell ⟨q, 3, none⟩ u3).setCell ⟨q, 4, none⟩ u4).setCell ⟨q, 5, none⟩ u5).setCell ⟨q, 6, none⟩ u6) g t cs := (((((((h.far (p := ⟨q, 0, none⟩) hne u0).far (p := ⟨q, 1, none⟩) hne u1).far (p := ⟨q, 2, none⟩) hne u2).far (p := ⟨q, 3, none⟩) hne u3).far (p := ⟨q, 4, none⟩) hne u4).far (p := ⟨q, 5, none⟩) hne u5).far (p := ⟨q, 6, none⟩) hne u6)
theorem Rd.far7 {w : World} {size n q : Nat} {A : Option Addr} {xs : List Value} (h : Rd w size A n xs) (hp : ∀ a, A = some a → a.block ≠ q) (u0 u1 u2 u3 u4 u5 u6 : Value) : Rd (((((((w.setCell ⟨q, 0, none⟩ u0).setCell ⟨q, 1, none⟩ u1).setCell ⟨q, 2, none⟩ u2).setCell ⟨q, 3, none⟩ u3).setCell ⟨q, 4, none⟩ u4).setCell ⟨q, 5, none⟩ u5).setCell ⟨q, 6, none⟩ u6) size A n xs := (((((((h.set_ne (p := ⟨q, 0, none⟩) hp u0).set_ne (p := ⟨q, 1, none⟩) hp u1).set_ne (p := ⟨q, 2, none⟩) hp u2).set_ne (p := ⟨q, 3, none⟩) hp u3).set_ne (p := ⟨q, 4, none⟩) hp u4).set_ne (p := ⟨q, 5, none⟩) hp u5).set_ne (p := ⟨q, 6, none⟩) hp u6)
theorem Below.set7 {B q : Nat} {a w : World} (h : Below B a w) (hq : B ≤ q) (u0 u1 u2 u3 u4 u5 u6 : Value) : Below B a (((((((w.setCell ⟨q, 0, none⟩ u0).setCell ⟨q, 1, none⟩ u1).setCell ⟨q, 2, none⟩ u2).setCell ⟨q, 3, none⟩ u3).setCell ⟨q, 4, none⟩ u4).setCell ⟨q, 5, none⟩ u5).setCell ⟨q, 6, none⟩ u6) := (((((((h.setCell (p := ⟨q, 0, none⟩) hq u0).setCell (p := ⟨q, 1, none⟩) hq u1).setCell (p := ⟨q, 2, none⟩) hq u2).setCell (p := ⟨q, 3, none⟩) hq u3).setCell (p := ⟨q, 4, none⟩) hq u4).setCell (p := ⟨q, 5, none⟩) hq u5).setCell (p := ⟨q, 6, none⟩) hq u6)
set_option maxRecDepth 100000 in
set_option maxHeartbeats 4000000 in
theorem frameApart_walk (r t : RawD) (w : World) (hr : RawOk r) (ht : RawOk t) :
    Calls Try.prog 5 #[rawV r, rawV t] w fun e w' => e = .returned (.bool true) ∧ Below w.heap.size w w' := by
  obtain ⟨f, okf, cf⟩ := frameOf_any r hr
  obtain ⟨g, okg, cg⟩ := frameOf_any t ht
  have CF := Lib.hid cf
  have CG := Lib.hid cg
  have OF := Lib.hid okf
  have OG := Lib.hid okg
  clear cf cg okf okg
  unfold rawV at CF CG ⊢
  go_enter Try.func5, Try.ntmps5
  go_upto_region 1 with (fail)
  refine wp_world (fun w' => Two w r t w') ⟨(Blk.new _ _ _).alloc _, Blk.new1 _ _ _ _, ((Below.refl _ _).alloc (Nat.le_refl _) _).alloc (by simp) _⟩ ?_
  intro w1 hT
  have FR := hT.1.facts4
  have FT := hT.2.1.facts4
  have TT := Lib.hid hT
  have hw1 : w.heap.size + 1 < w1.heap.size := hT.2.1.lt
  clear hT
  go_cut [5, 6] (fun s5 s6 wx => ∃ (g1 g2 c d c' d' : Nat) (A B A' B' : Option Addr), s5 = .pointer (some ⟨g1, 0, none⟩) ∧ s6 = .pointer (some ⟨g2, 0, none⟩) ∧ g1 ≠ g2 ∧ FrV wx g1 f 0 c d A B ∧ FrV wx g2 g 0 c' d' A' B' ∧ Below w.heap.size w wx)
  case first =>
    go_region_held3 (fun w' => w'.cell? ⟨w.heap.size, 0, none⟩ = some (.int .i64 r.kind) ∧ w'.cell? ⟨w.heap.size, 1, none⟩ = some (.int .i64 r.a) ∧ w'.cell? ⟨w.heap.size, 2, none⟩ = some (.int .i64 r.b) ∧ w'.cell? ⟨w.heap.size, 3, none⟩ = some (.string r.text) ∧
      w'.cell? ⟨w.heap.size + 1, 0, none⟩ = some (.int .i64 t.kind) ∧ w'.cell? ⟨w.heap.size + 1, 1, none⟩ = some (.int .i64 t.a) ∧ w'.cell? ⟨w.heap.size + 1, 2, none⟩ = some (.int .i64 t.b) ∧ w'.cell? ⟨w.heap.size + 1, 3, none⟩ = some (.string t.text)) (go_keep)
      (first
        | (go_at_call 15; (with_reducible refine (CF.out _).mono ?_); rintro e wa ⟨A, c, B, d, rfl, hA, hB, hc, hcm, hd, hdm, hbf, hiA, hiB⟩; simp only [frcells]; have TT := Lib.hid (Two.below (by (repeat (first | exact TT.out | with_reducible apply Two.drew | with_reducible apply Two.alloc))) hbf); have FR := TT.out.1.facts4; have FT := TT.out.2.1.facts4; have hcq := cell_under hbf; have hfq := frozen_under hbf; have hsq := hbf.size; (try simp at hsq); (try have hs1 : w1.heap.size < wa.heap.size := by omega); (try have hs2 : w1.heap.size + 1 < wa.heap.size := by omega); have hle1 : w1.heap.size ≤ wa.heap.size := (by omega); have HN1 : ¬ w1.heap.size = w.heap.size ∧ ¬ w.heap.size = w1.heap.size ∧ ¬ w1.heap.size = w.heap.size + 1 ∧ ¬ w.heap.size + 1 = w1.heap.size ∧ ¬ w1.heap.size + 1 = w.heap.size ∧ ¬ w.heap.size = w1.heap.size + 1 ∧ ¬ w1.heap.size + 1 = w.heap.size + 1 ∧ ¬ w.heap.size + 1 = w1.heap.size + 1 ∧ ¬ wa.heap.size = w.heap.size ∧ ¬ w.heap.size = wa.heap.size ∧ ¬ wa.heap.size = w.heap.size + 1 ∧ ¬ w.heap.size + 1 = wa.heap.size ∧ ¬ wa.heap.size + 1 = w.heap.size ∧ ¬ w.heap.size = wa.heap.size + 1 ∧ ¬ wa.heap.size + 1 = w.heap.size + 1 ∧ ¬ w.heap.size + 1 = wa.heap.size + 1 := (by refine ⟨?_, ?_, ?_, ?_, ?_, ?_, ?_, ?_, ?_, ?_, ?_, ?_, ?_, ?_, ?_, ?_⟩ <;> omega))
        | (go_at_call 15; (with_reducible refine (CG.out _).mono ?_); rintro e wb ⟨A', c', B', d', rfl, hA', hB', hc', hcm', hd', hdm', hbg, hiA', hiB'⟩; simp only [frcells]; have TT := Lib.hid (Two.below (by (repeat (first | exact TT.out | with_reducible apply Two.drew | with_reducible apply Two.alloc))) hbg); have FR := TT.out.1.facts4; have FT := TT.out.2.1.facts4; have hcq' := cell_under hbg; have hfq' := frozen_under hbg; have hsq' := hbg.size; (try simp at hsq'); (try have ht1 : w1.heap.size < wb.heap.size := by omega); (try have ht2 : w1.heap.size + 1 < wb.heap.size := by omega); (try have ht3 : wa.heap.size < wb.heap.size := by omega); (try have ht4 : wa.heap.size + 1 < wb.heap.size := by omega); have hle2 : wa.heap.size ≤ wb.heap.size := (by omega); have HN2 : ¬ wb.heap.size = w.heap.size ∧ ¬ w.heap.size = wb.heap.size ∧ ¬ wb.heap.size = w.heap.size + 1 ∧ ¬ w.heap.size + 1 = wb.heap.size ∧ ¬ wb.heap.size + 1 = w.heap.size ∧ ¬ w.heap.size = wb.heap.size + 1 ∧ ¬ wb.heap.size + 1 = w.heap.size + 1 ∧ ¬ w.heap.size + 1 = wb.heap.size + 1 := (by refine ⟨?_, ?_, ?_, ?_, ?_, ?_, ?_, ?_⟩ <;> omega)))
    all_goals
      go_wp2_with fail
      go_meet
    all_goals
      refine ⟨_, _, c, d, c', d', A, B, A', B', rfl, rfl, ?ne, ⟨?b1, ?r1, ?d1, hc, hcm, hd, hdm⟩, ⟨?b2, ?r2, ?d2, hc', hcm', hd', hdm'⟩, ?bel⟩
      all_goals (have TB := TT.out.2.2; clear hcq hfq hcq' hfq' FR FT TT HN1 HN2)
      case ne => omega
      case b1 => (unfold frcells; (repeat (first | (with_reducible refine Blk.newH _ _ _ ?side; case side => (first | with_reducible rfl | (simp; done))) | with_reducible apply Blk.set7 | (with_reducible refine Blk.far7 ?_ ?side _ _ _ _ _ _ _; case side => (first | (simp; done) | omega | (simp; omega))) | with_reducible apply Blk.alloc | with_reducible apply Blk.drew | (with_reducible apply Blk.below (hb := hbg) (hg := ?side); case side => (first | (simp; done) | omega | (simp; omega))) | (with_reducible apply Blk.below (hb := hbf) (hg := ?side); case side => (first | (simp; done) | omega | (simp; omega))))))
      case b2 => (unfold frcells; (repeat (first | (with_reducible refine Blk.newH _ _ _ ?side; case side => (first | with_reducible rfl | (simp; done))) | with_reducible apply Blk.set7 | (with_reducible refine Blk.far7 ?_ ?side _ _ _ _ _ _ _; case side => (first | (simp; done) | omega | (simp; omega))) | with_reducible apply Blk.alloc | with_reducible apply Blk.drew | (with_reducible apply Blk.below (hb := hbg) (hg := ?side); case side => (first | (simp; done) | omega | (simp; omega))) | (with_reducible apply Blk.below (hb := hbf) (hg := ?side); case side => (first | (simp; done) | omega | (simp; omega))))))
      case r1 => (unfold RdX at hA ⊢; (repeat (first | with_reducible exact hA | ((with_reducible refine Rd.set_ne ?_ ?side _); case side => (intro a ha; have hia := hiA a ha; (first | (simp at hia ⊢; omega) | omega))) | with_reducible refine Rd.alloc ?_ _ | with_reducible refine Rd.drew ?_ | with_reducible refine Rd.below ?_ hbg)))
      case d1 => (unfold RdB at hB ⊢; (repeat (first | with_reducible exact hB | ((with_reducible refine Rd.set_ne ?_ ?side _); case side => (intro a ha; have hia := hiB a ha; (first | (simp at hia ⊢; omega) | omega))) | with_reducible refine Rd.alloc ?_ _ | with_reducible refine Rd.drew ?_ | with_reducible refine Rd.below ?_ hbg)))
      case r2 => (unfold RdX at hA' ⊢; (repeat (first | with_reducible exact hA' | ((with_reducible refine Rd.set_ne ?_ ?side _); case side => (intro a ha; have hia := hiA' a ha; (first | (simp at hia ⊢; omega) | omega))) | with_reducible refine Rd.alloc ?_ _ | with_reducible refine Rd.drew ?_)))
      case d2 => (unfold RdB at hB' ⊢; (repeat (first | with_reducible exact hB' | ((with_reducible refine Rd.set_ne ?_ ?side _); case side => (intro a ha; have hia := hiB' a ha; (first | (simp at hia ⊢; omega) | omega))) | with_reducible refine Rd.alloc ?_ _ | with_reducible refine Rd.drew ?_)))
      case bel =>
        (repeat (first | with_reducible exact TB | with_reducible refine Below.drew ?_ | (with_reducible refine Below.set7 ?_ ?side _ _ _ _ _ _ _; case side => (first | (simp; done) | omega | (simp; omega))) | (with_reducible refine Below.alloc ?_ ?side _; case side => (first | (simp; done) | omega | (simp; omega)))))
  case rest =>
    clear FR FT TT hw1
    obtain ⟨g1, g2, c, d, c', d', A, B, A', B', rfl, rfl, hne, ⟨hF, hA, hB, hc, hcm, hd, hdm⟩, ⟨hG, hA', hB', hc', hcm', hd', hdm'⟩, hb⟩ := hcut
    unfold frcells at hF hG
    have FF := hF.factsFz
    have HF := Lib.hid hF
    have HG := Lib.hid hG
    have HA := Lib.hid hA
    have HB := Lib.hid hB
    have HA' := Lib.hid hA'
    have HB' := Lib.hid hB'
    have HBB := Lib.hid hb
    clear hF hG hA hB hA' hB' hb
    go_wp2_with fail
    refine (fEnc_any f OF.out A c B d _ HA.out HB.out hc hcm).mono ?_
    rintro e w3 ⟨A3, k, c3, rfl, hk, hO3, hc3, hm3, hb3⟩
    have hk1 : 1 ≤ k := by rw [← hk]; unfold fenc; have := (encB_le8 (fkind f) (by have := (fkind_cases f OF.out).1; omega)).2; simp only [List.length_append]; omega
    have HF3 := Lib.hid (HF.out.carry hb3)
    have HG3 := Lib.hid (HG.out.carry hb3)
    have HA3 := Lib.hid (RdX.below HA.out hb3)
    have HB3 := Lib.hid (RdB.below HB.out hb3)
    have HA3' := Lib.hid (RdX.below HA'.out hb3)
    have HB3' := Lib.hid (RdB.below HB'.out hb3)
    have HR3 := Lib.hid hO3.rd
    have HBB3 := Lib.hid (HBB.out.trans (hb3.mono HBB.out.size))
    have HK := Lib.hid hk
    clear FF HF HG HA HB HA' HB' HBB hO3 hb3 hk
    have FG := HG3.out.factsFz
    go_wp2_with fail
    refine (fEnc_any g OG.out A' c' B' d' _ HA3'.out HB3'.out hc' hcm').mono ?_
    rintro e w4 ⟨A4, l, c4, rfl, hl, hO4, hc4, hm4, hb4⟩
    have hl1 : 1 ≤ l := by rw [← hl]; unfold fenc; have := (encB_le8 (fkind g) (by have := (fkind_cases g OG.out).1; omega)).2; simp only [List.length_append]; omega
    have HF4 := Lib.hid (HF3.out.carry hb4)
    have HG4 := Lib.hid (HG3.out.carry hb4)
    have HA4 := Lib.hid (RdX.below HA3.out hb4)
    have HB4 := Lib.hid (RdB.below HB3.out hb4)
    have HA4' := Lib.hid (RdX.below HA3'.out hb4)
    have HB4' := Lib.hid (RdB.below HB3'.out hb4)
    have HR4 := Lib.hid (RdB.below HR3.out hb4)
    have HBB4 := Lib.hid (HBB3.out.trans (hb4.mono HBB3.out.size))
    have HL := Lib.hid hl
    have hR5 : RdB w4 A4 (fenc g) := hO4.rd
    have HBG := Lib.hid (begins_iff f g OF.out OG.out)
    clear FG HF3 HG3 HA3 HB3 HA3' HB3' HBB3 hO4 hb4 hl HR3
    obtain ⟨sf, hsf⟩ : ∃ sf, sameF f g = sf := ⟨_, rfl⟩
    have HSF : Hid (∀ W, Below w4.heap.size w4 W → Calls Try.prog 17 #[.agg (frcells f A c B d), .agg (frcells g A' c' B' d')] W fun e w' => e = .returned (.bool sf) ∧ Below W.heap.size W w') := fun W hW => by
      have := sameFrame_any f g A c B d A' c' B' d' W (by have := OF.out.many; omega) (RdX.below HA4.out hW) (RdB.below HB4.out hW) (RdX.below HA4'.out hW) (RdB.below HB4'.out hW)
      rwa [hsf] at this
    have s1 : ∀ nq, (convert 24 9 (.slice A3 k c3)).run Try.prog (w4.drewN nq) = .ok (.string (byt (fenc f))) (w4.drewN nq) := fun nq => by
      rw [← HK.out]
      exact RdB.str (Rd.drewN HR4.out nq) 24 9 5 c3 Try.underlying24 Try.underlying5 Try.underlying9
    have HQF : ∀ nq, Hid (Blk (w4.drewN nq) g1 40 #[.int .i64 f.kind, .int .i64 f.id, .int .i64 f.off, .bool f.fin, .int .i64 f.code, .slice A f.rngs.length c, .slice B f.data.length d]) := fun nq => Lib.hid HF4.out
    by_cases hkl : k ≤ l
    · have s2 : ∀ nq, (convert 24 9 (.slice A4 k c4)).run Try.prog (w4.drewN nq) = .ok (.string (byt ((fenc g).take k))) (w4.drewN nq) := fun nq => by
        have h := Rd.drewN (RdB.front hR5 (k := k) (by rw [HL.out]; exact hkl)) nq
        have e : ((fenc g).take k).length = k := by rw [List.length_take, HL.out]; omega
        have h2 := RdB.str h 24 9 5 c4 Try.underlying24 Try.underlying5 Try.underlying9
        rw [e] at h2
        exact h2
      have hq : ((byt ((fenc g).take k)).toList == (byt (fenc f)).toList) = sf := by
        have h := HBG.out
        rw [HK.out, HL.out, decide_eq_true hkl, Bool.true_and, hsf] at h
        rw [byt_toList, byt_toList, ← h]
        exact Bool.beq_eq_decide_eq _ _
      generalize byt ((fenc g).take k) = st2 at *
      generalize byt (fenc f) = st1 at *
      have hk0 : (0 : Int) ≤ (k : Int) := by omega
      have hkc : (k : Int) ≤ (c4 : Int) := by omega
      have hgt : decide ((0 : Int) < (k : Int)) = true := decide_eq_true (by omega)
      have hgt' : decide (0 < k) = true := decide_eq_true (by omega)
      have hgk : 0 < k := by omega
      have hgl : 0 < l := by omega
      have hle : decide ((k : Int) ≤ (l : Int)) = true := decide_eq_true (by omega)
      have hle' : decide (k ≤ l) = true := decide_eq_true (by omega)
      have hlt : (0 : Int) < (l : Int) := by omega
      clear HBG hsf hR5 HR4 HL HK
      go_upto_region 4 with (fail)
      go_quiet (fail)
      have hb5 : Below w4.heap.size w4 (w4.drewN nq) := by
        have h := Below.refl w4.heap.size w4
        exact ⟨h.os, h.tape, h.output, h.size, h.block⟩
      have hF5 := HF4.out.carry hb5
      have hG5 := HG4.out.carry hb5
      have FF := hF5.factsFz
      have FG := hG5.factsFz
      have HB5 := Lib.hid hb5
      clear HQF hb5 hF5 hG5 s1 s2
      generalize w4.drewN nq = W at *
      go_wp2_with fail
      refine (HSF.out _ HB5.out).mono ?_
      rintro e w6 ⟨rfl, hb6⟩
      go_wp2_with fail
      go_ret
      exact ⟨by first | rfl | simp, HBB4.out.trans ((HB5.out.trans (hb6.mono HB5.out.size)).mono HBB4.out.size)⟩
    · have hd : decide ((k : Int) ≤ (l : Int)) = false := decide_eq_false (by omega)
      have hd' : decide (k ≤ l) = false := decide_eq_false (by omega)
      have hq : sf = false := by
        have h := HBG.out
        rw [HK.out, HL.out, decide_eq_false hkl, Bool.false_and, hsf] at h
        exact h.symm
      subst hq
      have hgt : decide ((0 : Int) < (k : Int)) = true := decide_eq_true (by omega)
      have hgt' : decide (0 < k) = true := decide_eq_true (by omega)
      have hgk : 0 < k := by omega
      have hgl : 0 < l := by omega
      have hlt : (0 : Int) < (l : Int) := by omega
      clear HBG hsf hR5 HR4 HL HK s1
      go_upto_region 4 with (fail)
      go_quiet (fail)
      have hb5 : Below w4.heap.size w4 (w4.drewN nq) := by
        have h := Below.refl w4.heap.size w4
        exact ⟨h.os, h.tape, h.output, h.size, h.block⟩
      have hF5 := HF4.out.carry hb5
      have hG5 := HG4.out.carry hb5
      have FF := hF5.factsFz
      have FG := hG5.factsFz
      have HB5 := Lib.hid hb5
      clear HQF hb5 hF5 hG5
      generalize w4.drewN nq = W at *
      go_wp2_with fail
      refine (HSF.out _ HB5.out).mono ?_
      rintro e w6 ⟨rfl, hb6⟩
      go_wp2_with fail
      go_ret
      exact ⟨by first | rfl | simp, HBB4.out.trans ((HB5.out.trans (hb6.mono HB5.out.size)).mono HBB4.out.size)⟩
end Go.Proofs.Ytenlgfeldkfmiaa
