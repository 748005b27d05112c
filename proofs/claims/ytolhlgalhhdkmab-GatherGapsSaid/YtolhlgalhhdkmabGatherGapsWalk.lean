/- The walk of the law GatherGaps. -/
import Derived.Test.YtolhlgalhhdkmabWidenWalk
import Derived.Test.YtolhlgalhhdkmabGatherTellsWalk
import Derived.Test.YtolhlgalhhdkmabInts
namespace Go.Proofs.Ytolhlgalhhdkmab
open Go.ChangeShapes Go.WideShapes Go.ChangeAt Go.RowKit
set_option linter.unusedVariables false

theorem rd_one_new (w : World) (E : TypeId) {H : Nat} (hH : w.heap.size = H) : Rd (w.alloc (.cells #[.int .u8 1] E)) 1 (some ⟨H, 0, none⟩) 1 (u8s [1]) := by
  subst hH; exact (Blk.new w E #[.int .u8 1]).rdB (bs := [1])

theorem GV.re {w w' : World} {win : Int} {A : Option Addr} {n c : Nat} {ps : List PD} (h : GV w win A n c ps) (h' : RdP w' A ps) : GV w' win A n c ps := ⟨h.len, h.cap, h.max, h.four, h.gap, h.last, h'⟩
theorem PDs.alloc {w : World} {base : Nat} {bo : Option Nat} {l : List PD} (h : PDs w base bo l) (o : Obj) : PDs (w.alloc o) base bo l := h.keep ((Below.refl _ _).alloc (Nat.le_refl _) _)

theorem Blk.newH {w : World} {t : TypeId} {cs : Array Value} {H : Nat} (hH : w.heap.size = H) : Blk (w.alloc (.cells cs t)) H t cs := by
  subst hH; exact Blk.new w t cs
theorem gaps_own4 {w : World} {bs c : Nat} {B : Option Addr} {o : List PD} {bo : Option Nat} {g : Nat} (hO : OwnX pdc 2 w bs 68 B c o) (hP : PDs w bs bo o) (hg : g < bs) (v0 v1 v2 v3 : Value) :
    OwnX pdc 2 ((((w.setCell ⟨g, 0, none⟩ v0).setCell ⟨g, 1, none⟩ v1).setCell ⟨g, 2, none⟩ v2).setCell ⟨g, 3, none⟩ v3) bs 68 B c o ∧ PDs ((((w.setCell ⟨g, 0, none⟩ v0).setCell ⟨g, 1, none⟩ v1).setCell ⟨g, 2, none⟩ v2).setCell ⟨g, 3, none⟩ v3) bs bo o :=
  ⟨(((hO.set_below hg v0).set_below hg v1).set_below hg v2).set_below hg v3, (((hP.setBelow hg v0).setBelow hg v1).setBelow hg v2).setBelow hg v3⟩
theorem gaps_ownA {w : World} {bs c : Nat} {B : Option Addr} {o : List PD} {bo : Option Nat} (hO : OwnX pdc 2 w bs 68 B c o) (hP : PDs w bs bo o) (ob : Obj) :
    OwnX pdc 2 (w.alloc ob) bs 68 B c o ∧ PDs (w.alloc ob) bs bo o := ⟨hO.alloc ob, hP.alloc ob⟩

/-- Put of one byte. -/
theorem gPut_byte (x : Int) (g : Nat) (A : Option Addr) (n c : Nat) (ps : List PD) (h0 : 0 ≤ x) (h1 : x ≤ 198) (w : World) (h : GV w 300 A n c ps) (hD : Rd w 1 (some ⟨g, 0, none⟩) 1 (u8s [1])) :
    Calls Try.prog 25 #[.agg #[.int .i64 0, .slice A n c, .int .i64 (-1), .int .i64 300], .int .i64 x, .slice (some ⟨g, 0, none⟩) 1 1, .bool false] w fun e w' => ∃ (x0 x2 x3 : Int) (B : Option Addr) (m c' : Nat) (E : Int), e = .returned (.tuple #[.agg #[.int .i64 x0, .slice B m c', .int .i64 x2, .int .i64 x3], .int .i64 E]) ∧
      ((E = 0 ∧ x0 = 0 ∧ x2 = -1 ∧ x3 = 300 ∧ ∃ (o : List PD) (bs : Nat), bs = w.heap.size ∧ GV w' 300 B m c' o ∧ OwnX pdc 2 w' bs 68 B c' o ∧ PDs w' bs (B.map (fun y : Addr => y.block)) o) ∨ (E = 8 ∧ n = 4)) ∧ Below w.heap.size w w' := by
  obtain ⟨hh, he⟩ := h.held (by decide)
  have hlen := h.gap.len_le 300 (Int.le_refl _) h.last
  have hp := gPut_any 0 (-1) 300 x A n c ps (some ⟨g, 0, none⟩) 1 1 [1] false h.len h.cap h.max h.four (Int.le_refl _) (by decide) (by decide) (by decide) hh (by rw [he]; exact h.last) (fun h => absurd h (by decide)) w h.rd rfl (Nat.le_refl _) (by decide) hD h0 (x + 1) rfl (by omega) (by omega) (fun h => absurd h (by decide)) (fun h => absurd h (by decide)) (fun h => by cases h)
    (fun y hy => Nat.le_trans (hlen y.pl (List.mem_map_of_mem hy)) (by decide)) (by decide)
  refine hp.mono fun e w' ⟨p1, p2, hb⟩ => ?_
  obtain ⟨q1, q2, q3⟩ := putL_ok [1] x 0 (ps.map PD.pl) h.gap
  have hl := h.last
  by_cases h4 : (mergeP (putL [1] x 0 (ps.map PD.pl))).length ≤ 4
  · obtain ⟨A', m, c', o, he', ho, hmc, hcm, hO, hP, hmap⟩ := p1 h4
    refine ⟨_, _, _, _, _, _, _, he', .inl ⟨rfl, rfl, rfl, rfl, o, w.heap.size, rfl, ⟨ho, hmc, hcm, ?_, ?_, ?_, RdP.of_own hO hP⟩, hO, hP⟩, hb⟩
    · rw [← ho, ← List.length_map (f := PD.pl), hmap]; exact h4
    · rw [hmap]; exact q1
    · rw [hmap]
      simp at q2
      omega
  · have := q3 (by decide)
    rw [List.length_map, h.len] at this
    have := h.four
    exact ⟨_, _, _, _, _, _, _, p2 (by omega), .inr ⟨rfl, by omega⟩, hb⟩

set_option maxRecDepth 100000 in
set_option maxHeartbeats 4000000 in
theorem gatherGaps_walk (a : Option Addr) (len cap : Nat) (zs : List Int) (at_ : Int) (w : World) (h : IsRow .i64 w a len cap zs) (hat : (Lit.int .i64 at_).wf = true) :
    Calls Try.prog 11 #[.slice a len cap, .int .i64 at_] w fun e w' => e = .returned (.bool true) ∧ Below w.heap.size w w' := by
  obtain ⟨ns, hnl, hrd, hbd, hlc, hcm⟩ := h.ints
  have rat := i64_bounds' hat
  obtain ⟨y, HY, y0, y1⟩ := mod_ex at_ 100 (by decide)
  obtain ⟨n20, hn20, hn20a, hn20b⟩ : ∃ n20 : Nat, (if (20 : Int) < (len : Int) then (20 : Int) else (len : Int)) = (n20 : Int) ∧ n20 ≤ 20 ∧ n20 ≤ len := by
    by_cases h : 20 < len
    · exact ⟨20, by rw [if_pos (by omega)]; rfl, by omega, by omega⟩
    · exact ⟨len, by rw [if_neg (by omega)], by omega, by omega⟩
  have hn20' : (if (len : Int) < 20 then (len : Int) else (20 : Int)) = (n20 : Int) := by
    rw [← hn20]; split <;> split <;> omega
  have HNL := Lib.hid hnl
  have HRD := Lib.hid hrd
  have HBD := Lib.hid hbd
  have hc1 : (n20 : Int) ≤ (cap : Int) := by omega
  have hc0 : (0 : Int) ≤ (n20 : Int) := by omega
  clear hnl hrd hbd h hat
  go_enter Try.func11, Try.ntmps11
  go_wp2_with fail
  refine (gBegin_ok 300 (by decide) (by decide) _).mono ?_
  rintro e w1 ⟨rfl, hb1⟩
  go_upto_region 2 with (fail)
  refine wp_world (fun w' => Blk w' w1.heap.size 47 #[.int .i64 0, .slice none 0 0, .int .i64 (-1), .int .i64 300] ∧ Below w.heap.size w w') ⟨Blk.new _ _ _, hb1.alloc hb1.size _⟩ ?_
  have hz1 := hb1.size
  clear hb1
  generalize w1.heap.size = g5 at *
  rintro w2 ⟨hG, hb⟩
  have HG := Lib.hid hG
  have HB := Lib.hid hb
  clear hG hb
  go_wp2_with fail
  go_loopw [23] (fun i wr => ∃ (k : Nat) (A : Option Addr) (n c : Nat) (ps : List PD), k ≤ n20 ∧ i = .int .i64 k ∧ Blk wr g5 47 #[.int .i64 0, .slice A n c, .int .i64 (-1), .int .i64 300] ∧ GV wr 300 A n c ps ∧ Below w.heap.size w wr) (fun i _ => n20 - (intOf i).toNat)
  case atStart => exact ⟨0, none, 0, 0, [], Nat.zero_le _, rfl, HG.out, GV.nil _ _ (by decide), HB.out⟩
  case round =>
    obtain ⟨k, A, n, c, ps, hk, rfl, hG, hV, hb⟩ := hrel
    clear HG HB
    have HV := Lib.hid hV
    have FG := hG.facts4
    have hgl := hG.lt
    by_cases hlt : k < n20
    · obtain ⟨b, off, hA, hcell⟩ := (HRD.out.below hb).cell (by rw [HNL.out]; omega)
      subst hA
      have c0 := hcell k (by rw [HNL.out]; omega)
      have hxb := HBD.out k (by omega)
      clear hcell
      generalize ns.getD k 0 = x at *
      obtain ⟨z, HZ, z0, z1⟩ := mod_ex x 100 (by decide)
      have hk0 : (0 : Int) ≤ (k : Int) := by omega
      have hk1 : (k : Int) < (n20 : Int) := by omega
      have hzw : IntKind.i64.wrap (2 * z) = 2 * z := by rw [IntKind.wrap_i64]; omega
      have HGG := Lib.hid hG
      have HBB := Lib.hid hb
      clear hG hb hV
      go_upto_region 5 with (fail)
      go_cut [9, 10] (fun s9 s10 wx => ∃ (g9 : Nat) (x0 x2 x3 : Int) (B : Option Addr) (m c' : Nat) (E : Int), s9 = .pointer (some ⟨g9, 0, none⟩) ∧ s10 = .int .i64 E ∧ Blk wx g9 47 #[.int .i64 x0, .slice B m c', .int .i64 x2, .int .i64 x3] ∧ Blk wx g5 47 #[.int .i64 0, .slice A n c, .int .i64 (-1), .int .i64 300] ∧ GV wx 300 A n c ps ∧ ((E = 0 ∧ x0 = 0 ∧ x2 = -1 ∧ x3 = 300 ∧ ∃ (o : List PD) (bs : Nat), g5 < bs ∧ GV wx 300 B m c' o ∧ OwnX pdc 2 wx bs 68 B c' o ∧ PDs wx bs (B.map (fun y : Addr => y.block)) o) ∨ (E = 8 ∧ n = 4)) ∧ g9 ≠ g5 ∧ Below w.heap.size w wx)
      case first =>
        have n0 := World.new_ne wr _ FG.2.1
        have n1 : ¬ wr.heap.size + 1 = g5 := by omega
        have n2 : wr.heap.size + 1 ≠ g5 := n1
        have n3 : ¬ wr.heap.size = g5 := by omega
        go_region_held3 (fun w' => w'.cell? ⟨g5, 0, none⟩ = some (.int .i64 0) ∧ w'.cell? ⟨g5, 1, none⟩ = some (.slice A n c) ∧ w'.cell? ⟨g5, 2, none⟩ = some (.int .i64 (-1)) ∧ w'.cell? ⟨g5, 3, none⟩ = some (.int .i64 300)) (go_keep)
          (first
            | (go_at_call 12; refine (picked_at x 100 z hxb.1 hxb.2 (by decide) (by decide) HZ _).mono ?_; rintro e w' ⟨rfl, rfl⟩)
            | (go_at_call 25; refine (gPut_byte (2 * z) _ A n c ps (by omega) (by omega) _ (HV.out.below (by (repeat (first | with_reducible exact (Below.refl _ _) | with_reducible refine Below.drew ?_ | (with_reducible refine Below.set4 ?_ ?side _ _ _ _; case side => (first | omega | (simp; omega) | (simp; done))) | (with_reducible refine Below.setCell ?_ ?side _; case side => (first | omega | (simp; omega) | (simp; done))) | (with_reducible refine Below.alloc ?_ ?side _; case side => (first | omega | (simp; omega) | (simp; done))))))) (by (repeat (first | with_reducible refine Rd.drew ?_ | (refine rd_one_new _ _ ?_; first | rfl | (simp; done)) | with_reducible refine Rd.alloc ?_ _)))).mono ?_; rintro e wq ⟨x0, x2, x3, B, m, c', E, rfl, hE, hbq⟩; have hcq := cell_under hbq; have hfq := frozen_under hbq; have nq : ¬ wq.heap.size = g5 := (by have := hbq.size; first | omega | (simp at this; omega)); have k0 := hcq g5 0 (by first | omega | (simp; omega)); have k1 := hcq g5 1 (by first | omega | (simp; omega)); have k2 := hcq g5 2 (by first | omega | (simp; omega)); have k3 := hcq g5 3 (by first | omega | (simp; omega))))
        all_goals
          go_wp2_with fail
          go_meet
          have hb := HBB.out
          have hG := HGG.out
          have hs4 := hb.size
          have hsq : wr.heap.size ≤ wq.heap.size := by have := hbq.size; first | omega | (simp at this; omega)
          refine ⟨_, x0, x2, x3, B, m, c', E, rfl, rfl, ?_, ?_, ?_, ?_, ?_, ?_⟩
          · first
              | with_reducible exact Blk.new _ _ _
              | (with_reducible refine Blk.set4 (x := .int .i64 0) (y := .slice none 0 0) (z := .int .i64 0) (r := .int .i64 0) ?_ _ _ _ _
                 refine Blk.carry ?_ hbq
                 repeat (first | with_reducible refine Blk.drew ?_ | (with_reducible refine Blk.newH ?side; case side => (first | rfl | (simp; done))) | with_reducible refine Blk.alloc ?_ _))
          · (apply Blk.as; (case h => (repeat (first | with_reducible exact hG | with_reducible apply Blk.drew | with_reducible apply Blk.set4 | with_reducible apply Blk.set_ | (with_reducible apply Blk.far4 (hne := ?side); case side => (first | omega | (simp; omega) | (simp; done))) | (with_reducible apply Blk.far (hp := ?side); case side => (first | omega | (simp; omega) | (simp; done))) | with_reducible apply Blk.alloc | (with_reducible apply Blk.below (hb := hbq) (hg := ?side); case side => (first | omega | (simp; omega) | (simp; done)))))); (case e => (first | with_reducible rfl | (simp; done) | rfl)))
          · refine HV.out.below ?_
            (repeat (first | with_reducible exact (Below.refl _ _) | with_reducible refine Below.drew ?_ | (with_reducible refine Below.set4 ?_ ?side _ _ _ _; case side => (first | omega | (simp; omega) | (simp; done))) | (with_reducible refine Below.setCell ?_ ?side _; case side => (first | omega | (simp; omega) | (simp; done))) | (with_reducible refine Below.alloc ?_ ?side _; case side => (first | omega | (simp; omega) | (simp; done))) | (with_reducible refine Below.trans ?_ (Below.mono hbq ?side); case side => (first | omega | (simp; omega) | (simp; done)))))
          · rcases hE with ⟨e1, e2, e3, e4, o, bs, hbs, hV, hO, hP⟩ | h
            · have hbs1 : wr.heap.size < bs := by rw [hbs]; first | (simp; done) | (simp; omega)
              have fin : ∀ W, (OwnX pdc 2 W bs 68 B c' o ∧ PDs W bs (B.map (fun y : Addr => y.block)) o) → GV W 300 B m c' o ∧ OwnX pdc 2 W bs 68 B c' o ∧ PDs W bs (B.map (fun y : Addr => y.block)) o := fun W h => ⟨hV.re (RdP.of_own h.1 h.2), h.1, h.2⟩
              refine .inl ⟨e1, e2, e3, e4, o, bs, by omega, fin _ ?_⟩
              first
                | with_reducible exact gaps_ownA hO hP _
                | with_reducible exact gaps_own4 (g := wr.heap.size) hO hP hbs1 _ _ _ _
                | (with_reducible refine gaps_own4 (g := wr.heap.size + 1) hO hP ?_ _ _ _ _; rw [hbs]; first | (simp; done) | (simp; omega))
            · exact .inr h
          · omega
          · (repeat (first | with_reducible exact hb | with_reducible refine Below.drew ?_ | (with_reducible refine Below.set4 ?_ ?side _ _ _ _; case side => (first | omega | (simp; omega) | (simp; done))) | (with_reducible refine Below.setCell ?_ ?side _; case side => (first | omega | (simp; omega) | (simp; done))) | (with_reducible refine Below.alloc ?_ ?side _; case side => (first | omega | (simp; omega) | (simp; done))) | (with_reducible refine Below.trans ?_ (Below.mono hbq ?side); case side => (first | omega | (simp; omega) | (simp; done)))))
      case rest =>
        obtain ⟨g9, x0, x2, x3, B, m, c', E, rfl, rfl, h9, hG, hV0, hE, hne, hb⟩ := hcut
        have F9 := h9.facts4
        have FG := hG.facts4
        have HV0 := Lib.hid hV0
        have H9 := Lib.hid h9
        have HG := Lib.hid hG
        have HB := Lib.hid hb
        have hlo5 : w.heap.size ≤ g5 := by assumption
        clear HV hV0 h9 hG hb HGG HBB c0
        rcases hE with ⟨rfl, rfl, rfl, rfl, o, bs, hbs, hV, hO, hP⟩ | ⟨rfl, rfl⟩
        · have HV := Lib.hid hV
          have HO := Lib.hid hO
          have HP := Lib.hid hP
          clear hV hO hP
          go_wp2_with fail
          go_roundw
          case rel =>
            refine ⟨k + 1, B, m, c', o, by omega, by go_num, ?_, ?_, ?_⟩
            · have hG := HG.out
              (apply Blk.as; (case h => (repeat (first | with_reducible exact hG | with_reducible apply Blk.drew | with_reducible apply Blk.set4 | with_reducible apply Blk.set_ | (with_reducible apply Blk.far4 (hne := ?side); case side => (first | omega | (simp; omega) | (simp; done))) | (with_reducible apply Blk.far (hp := ?side); case side => (first | omega | (simp; omega) | (simp; done))) | with_reducible apply Blk.alloc))); (case e => (first | with_reducible rfl | (simp; done) | rfl)))
            · exact HV.out.re (RdP.of_own (base := bs) (c := c') ((((HO.out.set_below (by simp; omega) _).set_below (by simp; omega) _).set_below (by simp; omega) _).set_below (by simp; omega) _) ((((HP.out.setBelow (by simp; omega) _).setBelow (by simp; omega) _).setBelow (by simp; omega) _).setBelow (by simp; omega) _))
            · have hb := HB.out
              (repeat (first | with_reducible exact hb | with_reducible refine Below.drew ?_ | (with_reducible refine Below.set4 ?_ ?side _ _ _ _; case side => (first | omega | (simp; omega) | (simp; done))) | (with_reducible refine Below.setCell ?_ ?side _; case side => (first | omega | (simp; omega) | (simp; done))) | (with_reducible refine Below.alloc ?_ ?side _; case side => (first | omega | (simp; omega) | (simp; done)))))
          case measure => simp [intOf]; omega
        · go_wp2_with fail
          go_roundw
          case rel => exact ⟨k + 1, A, 4, c, ps, by omega, by go_num, HG.out, HV0.out, HB.out⟩
          case measure => simp [intOf]; omega
    · obtain rfl : k = n20 := by omega
      have hyw : IntKind.i64.wrap (400 + y) = 400 + y := by rw [IntKind.wrap_i64]; omega
      have HGG := Lib.hid hG
      have HBB := Lib.hid hb
      have hn4 : (n : Int) ≤ 4 := by have := HV.out.four; omega
      clear hG hb HRD HBD HNL hc1 hc0 hV
      go_upto_region 11 with (fail)
      go_cut [11, 12] (fun s11 s12 wx => ∃ (g9 : Nat) (B : Option Addr) (m c' : Nat) (o : List PD), s11 = .pointer (some ⟨g9, 0, none⟩) ∧ s12 = .int .i64 0 ∧ Blk wx g9 47 #[.int .i64 0, .slice B m c', .int .i64 (-1), .int .i64 (400 + y)] ∧ Blk wx g5 47 #[.int .i64 0, .slice A n c, .int .i64 (-1), .int .i64 300] ∧ GV wx (400 + y) B m c' o ∧ Below w.heap.size w wx)
      case first =>
        have n0 := World.new_ne wr _ FG.2.1
        have n1 : ¬ wr.heap.size + 1 = g5 := by omega
        have n2 : wr.heap.size + 1 ≠ g5 := n1
        have n3 : ¬ wr.heap.size = g5 := by omega
        go_region_held3 (fun w' => w'.cell? ⟨g5, 0, none⟩ = some (.int .i64 0) ∧ w'.cell? ⟨g5, 1, none⟩ = some (.slice A n c) ∧ w'.cell? ⟨g5, 2, none⟩ = some (.int .i64 (-1)) ∧ w'.cell? ⟨g5, 3, none⟩ = some (.int .i64 300)) (go_keep)
          (first
            | (go_at_call 12; refine (picked_at at_ 100 y rat.1 rat.2 (by decide) (by decide) HY _).mono ?_; rintro e w' ⟨rfl, rfl⟩)
            | (go_at_call 29; refine (gWiden_ok 300 (400 + y) A n c ps (by decide) (by omega) (by decide) (by omega) _ (HV.out.below (by (repeat (first | with_reducible exact (Below.refl _ _) | with_reducible refine Below.drew ?_ | (with_reducible refine Below.set4 ?_ ?side _ _ _ _; case side => (first | omega | (simp; omega) | (simp; done))) | (with_reducible refine Below.setCell ?_ ?side _; case side => (first | omega | (simp; omega) | (simp; done))) | (with_reducible refine Below.alloc ?_ ?side _; case side => (first | omega | (simp; omega) | (simp; done)))))))).mono ?_; rintro e wq ⟨B, m, c', o, rfl, hGV, hO, hP, hbq⟩; have hcq := cell_under hbq; have hfq := frozen_under hbq; have nq : ¬ wq.heap.size = g5 := (by have := hbq.size; first | omega | (simp at this; omega)); have k0 := hcq g5 0 (by first | omega | (simp; omega)); have k1 := hcq g5 1 (by first | omega | (simp; omega)); have k2 := hcq g5 2 (by first | omega | (simp; omega)); have k3 := hcq g5 3 (by first | omega | (simp; omega))))
        all_goals
          go_wp2_with fail
          go_meet
          have hb := HBB.out
          have hG := HGG.out
          have hs4 := hb.size
          have hsq : wr.heap.size ≤ wq.heap.size := by have := hbq.size; first | omega | (simp at this; omega)
          refine ⟨_, B, m, c', o, rfl, rfl, ?_, ?_, ?_, ?_⟩
          · first
              | with_reducible exact Blk.new _ _ _
              | (with_reducible refine Blk.set4 (x := .int .i64 0) (y := .slice none 0 0) (z := .int .i64 0) (r := .int .i64 0) ?_ _ _ _ _
                 refine Blk.carry ?_ hbq
                 repeat (first | with_reducible refine Blk.drew ?_ | (with_reducible refine Blk.newH ?side; case side => (first | rfl | (simp; done))) | with_reducible refine Blk.alloc ?_ _))
          · (apply Blk.as; (case h => (repeat (first | with_reducible exact hG | with_reducible apply Blk.drew | with_reducible apply Blk.set4 | with_reducible apply Blk.set_ | (with_reducible apply Blk.far4 (hne := ?side); case side => (first | omega | (simp; omega) | (simp; done))) | (with_reducible apply Blk.far (hp := ?side); case side => (first | omega | (simp; omega) | (simp; done))) | with_reducible apply Blk.alloc | (with_reducible apply Blk.below (hb := hbq) (hg := ?side); case side => (first | omega | (simp; omega) | (simp; done)))))); (case e => (first | with_reducible rfl | (simp; done) | rfl)))
          · refine hGV.re ?_
            first
              | with_reducible exact RdP.of_own (gaps_ownA hO hP _).1 (gaps_ownA hO hP _).2
              | (have h4 := fun v0 v1 v2 v3 => gaps_own4 (g := wr.heap.size) hO hP (by first | (simp; done) | (simp; omega)) v0 v1 v2 v3; with_reducible exact RdP.of_own (h4 _ _ _ _).1 (h4 _ _ _ _).2)
          · (repeat (first | with_reducible exact hb | with_reducible refine Below.drew ?_ | (with_reducible refine Below.set4 ?_ ?side _ _ _ _; case side => (first | omega | (simp; omega) | (simp; done))) | (with_reducible refine Below.setCell ?_ ?side _; case side => (first | omega | (simp; omega) | (simp; done))) | (with_reducible refine Below.alloc ?_ ?side _; case side => (first | omega | (simp; omega) | (simp; done))) | (with_reducible refine Below.trans ?_ (Below.mono hbq ?side); case side => (first | omega | (simp; omega) | (simp; done)))))
      case rest =>
        obtain ⟨g9, B, m, c', o, rfl, rfl, h9, hG, hV9, hb⟩ := hcut
        clear HV HGG HBB FG
        refine (show ∀ (a : Act) (w : World), Code.wp _ _ _ a w → _ from by assumption) _ _ ?_
        refine wp_world (fun w' => Blk w' g9 47 #[.int .i64 0, .slice B m c', .int .i64 (-1), .int .i64 (400 + y)] ∧ Blk w' g5 47 #[.int .i64 0, .slice A n c, .int .i64 (-1), .int .i64 300] ∧ GV w' (400 + y) B m c' o ∧ Below w.heap.size w w') ⟨h9, hG, hV9, hb⟩ ?_
        clear h9 hG hV9 hb
        rintro wx ⟨h9, hG, hV9, hb⟩
        have H9 := Lib.hid h9
        have HG := Lib.hid hG
        have HV9 := Lib.hid hV9
        have HB := Lib.hid hb
        have HFA := Lib.hid (fun w' (hw' : Below wx.heap.size wx w') => And.intro (H9.out.carry hw').facts4 (HG.out.carry hw').facts4)
        clear h9 hG hV9 hb
        have hn4b : decide ((n : Int) ≤ 4) = true := decide_eq_true hn4
        go_upto_region 12 with (fail)
        refine wp_region_quiet (C := fun w' => Below (wx).heap.size (wx) w') (by kernel_rfl) (by kernel_rfl) (Below.refl _ _).drew ?_
        repeat (
          with_reducible refine wpQuiet_step ?_
          intro K hK
          go_simp
          first
            | (refine hK _ ?_; clear hK K)
            | (apply Exists.intro
               refine ⟨fun w' hw' => ?_, hK _ ?_⟩
               first
                 | (first
                    | (go_at_call 28; exact (gatherTells_any w').mono (fun e w'' ⟨he, hb⟩ => ⟨he, hw'.trans (hb.mono hw'.size)⟩))
                    | (go_at_call 12; exact (picked_at at_ 100 y rat.1 rat.2 (by decide) (by decide) HY w').mono (fun e w'' ⟨he, hb⟩ => ⟨he, hb ▸ hw'⟩))
                    | (go_at_call 26; exact (GV.check (HV9.out.below hw') (by omega) (by omega)).mono (fun e w'' ⟨he, hb⟩ => ⟨he, hw'.trans (hb.mono hw'.size)⟩)))
                 | (have FF := HFA.out w' hw'; go_simp; done)
                 | (have FF := HFA.out w' hw'; go_simp; exact rfl)
               clear hK K))
        refine wpQuiet_nil ?_
        intro wq hwq
        go_wp2_with fail
        go_ret
        exact ⟨by simp, HB.out.trans (hwq.mono HB.out.size)⟩
end Go.Proofs.Ytolhlgalhhdkmab
