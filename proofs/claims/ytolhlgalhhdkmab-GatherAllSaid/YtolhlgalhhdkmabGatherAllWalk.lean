/- The walk of the law GatherAll. -/
import Derived.Test.YtolhlgalhhdkmabGTakeWalk
import Derived.Test.YtolhlgalhhdkmabGatherTellsWalk
import Derived.Test.YtolhlgalhhdkmabTextOfWalk
import Derived.Test.YtolhlgalhhdkmabGathAll
import Derived.Test.YtolhlgalhhdkmabSomeWalk
namespace Go.Proofs.Ytolhlgalhhdkmab
open Go.ChangeShapes Go.WideShapes Go.ChangeAt Go.RowKit
set_option linter.unusedVariables false

theorem blkH {w : World} {t : TypeId} {cs : Array Value} {H : Nat} (hH : w.heap.size = H) : Blk (w.alloc (.cells cs t)) H t cs := by
  subst hH; exact Blk.new w t cs
theorem ownAll4 {w : World} {bs c : Nat} {B : Option Addr} {o : List PD} {bo : Option Nat} {g : Nat} (hO : OwnX pdc 2 w bs 68 B c o) (hP : PDs w bs bo o) (hg : g < bs) (v0 v1 v2 v3 : Value) :
    OwnX pdc 2 ((((w.setCell ⟨g, 0, none⟩ v0).setCell ⟨g, 1, none⟩ v1).setCell ⟨g, 2, none⟩ v2).setCell ⟨g, 3, none⟩ v3) bs 68 B c o ∧ PDs ((((w.setCell ⟨g, 0, none⟩ v0).setCell ⟨g, 1, none⟩ v1).setCell ⟨g, 2, none⟩ v2).setCell ⟨g, 3, none⟩ v3) bs bo o :=
  ⟨(((hO.set_below hg v0).set_below hg v1).set_below hg v2).set_below hg v3, (((hP.setBelow hg v0).setBelow hg v1).setBelow hg v2).setBelow hg v3⟩
theorem ownAllA {w : World} {bs c : Nat} {B : Option Addr} {o : List PD} {bo : Option Nat} (hO : OwnX pdc 2 w bs 68 B c o) (hP : PDs w bs bo o) (ob : Obj) :
    OwnX pdc 2 (w.alloc ob) bs 68 B c o ∧ PDs (w.alloc ob) bs bo o := ⟨own_carry hO ((Below.refl _ _).alloc (Nat.le_refl _) _), hP.keep ((Below.refl _ _).alloc (Nat.le_refl _) _)⟩
theorem step_appBG {P : Program} {w : World} {ops : Array Oper} {o : Oper} {a : Act} {K : Act → World → Prop} {Q : Exit → Act → World → Prop} {E' : Prop} (hg : o.guard = none) (s x : Operand) (t : TypeId)
    (ho : o.op = .call { callee := .builtin .append, args := #[s, x], argTypes := #[t, t] })
    (base : Nat) (E : TypeId) (ht : P.underlying t = some (.slice E)) (hinfo : (P.info? E).map (fun i => (i.zero, i.size, i.bytes)) = some (some (.int .u8 0), 1, 1))
    (A0 : Option Addr) (n0 c0 : Nat) (us : List UInt8) (hs : a.eval s = .slice A0 n0 c0) (hn0 : us.length = n0) (hown : OwnB w base E A0 c0 us)
    (A : Option Addr) (m0 c : Nat) (bs : List UInt8) (hx : a.eval x = .slice A m0 c) (hm0 : bs.length = m0) (hr : RdB w A bs)
    (zs : List UInt8) (hz : us ++ bs = zs) (k : Nat) (hk : n0 + m0 = k) (hbytes : n0 + m0 ≤ 140737488355328) (hbase : base ≤ w.heap.size)
    (h : ∀ A' c' w', OwnB w' base E A' c' zs → k ≤ c' → c' ≤ 9223372036854775807 → Below base w w' → w.grownBy w' (A0.map (·.block)) → K (a.put o.dst (.slice A' k c')) w') :
    if Region.wanted o (yielded ops a.tmps) = true then Oper.wp P o a w K Q else E' := by
  subst hz; subst hn0; subst hm0; subst hk
  refine step_app hg s x t ho base E (.int .u8 0) 1 1 ht hinfo rfl (by decide) (by decide) A0 c0 us.length (u8s us) hs hown A bs.length c (u8s bs) hx hr (u8s_one bs) (by omega) hbase fun A' c' w' h2 h3 h4 h5 h6 => ?_
  rw [← u8s_append, ← List.length_append] at h2
  exact h A' c' w' h2 h3 (by unfold maxLen at h4; omega) h5 (by rw [← own_blk A0 us.length c0]; exact h6)

theorem OwnB.setB {w : World} {base : Nat} {A : Option Addr} {c : Nat} {bs : List UInt8} (h : OwnB w base 5 A c bs) {p : Addr} (hp : p.block < base) (u : Value) : OwnB (w.setCell p u) base 5 A c bs := ownsRow_setCell_below h hp u
theorem OwnB.drewB {w : World} {base : Nat} {A : Option Addr} {c : Nat} {bs : List UInt8} (h : OwnB w base 5 A c bs) : OwnB w.drew base 5 A c bs := h
theorem heap4 {w : World} {g q : Nat} (h : q ≠ g) (v0 v1 v2 v3 : Value) : ((((w.setCell ⟨g, 0, none⟩ v0).setCell ⟨g, 1, none⟩ v1).setCell ⟨g, 2, none⟩ v2).setCell ⟨g, 3, none⟩ v3).heap[q]? = w.heap[q]? := by
  rw [Below.heap_setCell _ _ _ _ h, Below.heap_setCell _ _ _ _ h, Below.heap_setCell _ _ _ _ h, Below.heap_setCell _ _ _ _ h]

/-- What the loop keeps: what is held, and what was taken. -/
structure AllV (wr : World) (g k : Nat) (t : List UInt8) (d : Nat) (f : Int) (A : Option Addr) (n c : Nat) (ps : List PD) (GA : Option Addr) (gc : Nat) : Prop where
  gw : GW wr (d : Int) f 250 A n c ps
  tx : Of t (ps.map PD.pl)
  last : lastE (d : Int) (ps.map PD.pl) ≤ (k : Int)
  fk : f = -1 ∨ f = (k : Int)
  got : OwnB wr (g + 1) 5 GA gc (t.take d)
theorem AllV.dk {wr : World} {g k : Nat} {t : List UInt8} {d : Nat} {f : Int} {A : Option Addr} {n c : Nat} {ps : List PD} {GA : Option Addr} {gc : Nat} (h : AllV wr g k t d f A n c ps GA gc) : d ≤ k := by
  have := h.gw.gap.last; have := h.last; omega
theorem AllV.below {wr wx : World} {g k : Nat} {t : List UInt8} {d : Nat} {f : Int} {A : Option Addr} {n c : Nat} {ps : List PD} {GA : Option Addr} {gc : Nat} (h : AllV wr g k t d f A n c ps GA gc) (hb : Below wr.heap.size wr wx) : AllV wx g k t d f A n c ps GA gc :=
  ⟨h.gw.below hb, h.tx, h.last, h.fk, own_carry h.got hb⟩

set_option maxRecDepth 100000 in
set_option maxHeartbeats 8000000 in
theorem gatherAll_walk (s : ByteArray) (n_ : Int) (RA : Option Addr) (len cap : Nat) (rs : List RawD) (w : World) (hs : s.size ≤ maxLen) (hn : (Lit.int .i64 n_).wf = true) (h : IsRaws w RA len cap rs) :
    Calls Try.prog 8 #[.string s, .int .i64 n_, .slice RA len cap] w fun e w' => e = .returned (.bool true) ∧ Below w.heap.size w w' := by
  have rn := i64_bounds' hn
  unfold maxLen at hs
  clear hn
  obtain ⟨kk, HKK, k0, k1⟩ := mod_ex n_ 201 (by decide)
  obtain ⟨k, rfl⟩ : ∃ k : Nat, kk = (k : Int) := ⟨kk.toNat, by omega⟩
  have hlc := h.2.2.1
  have hcm := h.2.2.2.1
  unfold maxLen at hcm
  have HR0 := Lib.hid h
  clear h
  go_enter Try.func8, Try.ntmps8
  go_wp2_with fail
  refine (text_any s n_ 200 k hs rn.1 rn.2 (by decide) (by decide) HKK (by omega) _).mono ?_
  rintro e w1 ⟨T, c, t, rfl, htl, htc, htm, hT, hb1⟩
  have HTL := Lib.hid htl
  go_wp2_with fail
  refine (gBegin_ok 250 (by decide) (by decide) _).mono ?_
  rintro e w3 ⟨rfl, hb3⟩
  go_upto_region 3 with (fail)
  refine wp_world (fun w' => Blk w' w3.heap.size 47 #[.int .i64 0, .slice none 0 0, .int .i64 (-1), .int .i64 250] ∧ Below w1.heap.size w1 w') ⟨Blk.new _ _ _, hb3.alloc hb3.size _⟩ ?_
  have hz3 : w1.heap.size ≤ w3.heap.size := hb3.size
  have HT := Lib.hid hT
  have HB01 := Lib.hid hb1
  clear hb1 hb3 htl hT
  generalize w3.heap.size = g at *
  rintro w4 ⟨hG, hb⟩
  have hg4 := hG.lt
  have HG := Lib.hid hG
  have HB := Lib.hid hb
  clear hG hb
  go_wp2_with fail
  refine (some_any RA len cap (min len 20) 20 hlc (by omega) (by decide) (by decide) (by omega) _).mono ?_
  rintro e w' ⟨rfl, rfl⟩
  have HRS := Lib.hid (HR0.out.front (min len 20) (by omega))
  generalize rs.take (min len 20) = ts at *
  have hk20 : min len 20 ≤ 20 := by omega
  generalize min len 20 = K at *
  clear HR0 hlc
  go_wp2_with fail
  have hV0 : AllV w4 g k t 0 (-1) none 0 0 [] none 0 := ⟨GW.start _ 250 (by decide) (by decide), Of.nil t, Int.natCast_nonneg k, .inl rfl, OwnB.nil _ _ _⟩
  go_loopw [10, 37] (fun gv iv wr => ∃ (i d : Nat) (f : Int) (A : Option Addr) (n c' : Nat) (ps : List PD) (GA : Option Addr) (gc : Nat), i ≤ K ∧ iv = .int .i64 (i : Int) ∧ gv = .slice GA d gc ∧ Blk wr g 47 #[.int .i64 (d : Int), .slice A n c', .int .i64 f, .int .i64 250] ∧ AllV wr g k t d f A n c' ps GA gc ∧ Below w1.heap.size w1 wr) (fun _ iv _ => K - (intOf iv).toNat)
  case atStart => exact ⟨0, 0, -1, none, 0, 0, [], none, 0, Nat.zero_le _, rfl, rfl, HG.out, hV0, HB.out⟩
  case round =>
    obtain ⟨i, d, f, A, n, c', ps, GA, gc, hi, rfl, rfl, hG, hV, hb⟩ := hrel
    clear hV0 HG HB
    have hdk := hV.dk
    by_cases hlt : i < K
    · have hR := HRS.out.keep (HB01.out.trans (hb.mono HB01.out.size))
      obtain ⟨b, off, rfl, hcell⟩ := hR.at_ (by omega)
      obtain ⟨c0, c1, c2, c3⟩ := hcell i hlt
      have hok := HRS.out.2.2.2.2 i hlt
      generalize ts.getD i rawNone = r at *
      obtain ⟨o0, o1, o2, _⟩ := hok
      have HG := Lib.hid hG
      have HV := Lib.hid hV
      have HB := Lib.hid hb
      clear hcell hR hG hV hb
      go_upto_region 7 with (fail)
      refine wp_world (fun w' => Blk w' wr.heap.size 52 #[.int .i64 r.kind, .int .i64 r.a, .int .i64 r.b, .string r.text] ∧ Blk w' g 47 #[.int .i64 (d : Int), .slice A n c', .int .i64 f, .int .i64 250] ∧ AllV w' g k t d f A n c' ps GA gc ∧ Below w1.heap.size w1 w') ⟨Blk.new _ _ _, HG.out.alloc _, HV.out.below ((Below.refl _ _).alloc (Nat.le_refl _) _), HB.out.alloc HB.out.size _⟩ ?_
      have hgr : g < wr.heap.size := HG.out.lt
      clear c0 c1 c2 c3 HG HV HB
      generalize wr.heap.size = tb at *
      rintro W ⟨hK, hG, hV, hb⟩
      have hgW := hG.lt
      have htb := hK.lt
      have FK := hK.facts4
      have HK := Lib.hid hK
      have HG := Lib.hid hG
      have HV := Lib.hid hV
      have HB := Lib.hid hb
      clear hK hG hV hb
      obtain ⟨lo', HLO, l0, l1⟩ := mod_ex r.a ((k : Int) + 1) (by omega)
      obtain ⟨lo, rfl⟩ : ∃ lo : Nat, lo' = (lo : Int) := ⟨lo'.toNat, by omega⟩
      obtain ⟨q', HQ, q0, q1⟩ := mod_ex r.b ((k : Int) - (lo : Int) + 1) (by omega)
      obtain ⟨hi_, hhi⟩ : ∃ hi_ : Nat, (lo : Int) + q' = (hi_ : Int) := ⟨((lo : Int) + q').toNat, by omega⟩
      have hlohi : lo ≤ hi_ := by omega
      have hhik : hi_ ≤ k := by omega
      have v1 : IntKind.i64.wrap ((k : Int) + 1) = (k : Int) + 1 := by rw [IntKind.wrap_i64]; omega
      have v2 : IntKind.i64.wrap ((k : Int) - (lo : Int)) = (k : Int) - (lo : Int) := by rw [IntKind.wrap_i64]; omega
      have v3 : IntKind.i64.wrap ((k : Int) - (lo : Int) + 1) = (k : Int) - (lo : Int) + 1 := by rw [IntKind.wrap_i64]; omega
      have v4 : IntKind.i64.wrap ((lo : Int) + q') = (hi_ : Int) := by rw [IntKind.wrap_i64]; omega
      go_wp2_with fail
      refine (picked_at r.a ((k : Int) + 1) lo o1.1 o1.2 (by omega) (by omega) HLO _).mono ?_
      rintro e w' ⟨rfl, rfl⟩
      go_wp2_with fail
      refine (picked_at r.b ((k : Int) - (lo : Int) + 1) q' o2.1 o2.2 (by omega) (by omega) HQ _).mono ?_
      rintro e w' ⟨rfl, rfl⟩
      obtain ⟨fin, hfin⟩ : ∃ fin : Bool, ((hi_ : Int) == (k : Int)) = fin := ⟨_, rfl⟩
      have HFIN : Hid (fin = true ↔ hi_ = k) := by show _ ↔ _; rw [← hfin]; simp; omega
      obtain ⟨D, hD0⟩ : ∃ D : Option Addr, (if c = lo then T else Option.map (fun x : Addr => x.add lo) T) = D := ⟨_, rfl⟩
      have HDR := Lib.hid (show RdB W D ((t.drop lo).take (hi_ - lo)) from by
        have h := (RdB.cut (k := lo) (cap := c) (HT.out.below HB.out) (by rw [HTL.out]; omega) (by rw [HTL.out]; omega)).front (k := hi_ - lo) (by rw [List.length_drop, HTL.out]; omega)
        rw [← hD0]; exact h)
      have HDL : Hid (((t.drop lo).take (hi_ - lo)).length = hi_ - lo) := by show _ = _; rw [List.length_take, List.length_drop, HTL.out]; omega
      obtain ⟨f', hf'⟩ : ∃ f' : Int, (if fin then (lo : Int) + ((hi_ - lo : Nat) : Int) else f) = f' := ⟨_, rfl⟩
      have HF' : Hid (f' = -1 ∨ f' = (k : Int)) := by
        show _ ∨ _
        rw [← hf']
        cases hfb : fin with
        | true => right; have := HFIN.out.1 hfb; simp; omega
        | false => simp only [Bool.false_eq_true, if_false]; exact HV.out.fk
      have HFE := Lib.hid hf'
      clear hf'
      have hf1 : 0 ≤ f → (lo : Int) + ((hi_ - lo : Nat) : Int) ≤ f := fun h => by rcases HV.out.fk with h1 | h1 <;> omega
      have hf2 : 0 ≤ f → fin = true → (lo : Int) + ((hi_ - lo : Nat) : Int) = f := fun h h2 => by have := HFIN.out.1 h2; rcases HV.out.fk with h1 | h1 <;> omega
      have hf3 : fin = true → lastE (d : Int) (ps.map PD.pl) ≤ (lo : Int) + ((hi_ - lo : Nat) : Int) := fun h2 => by have := HFIN.out.1 h2; have := HV.out.last; omega
      have HF1 := Lib.hid hf1
      have HF2 := Lib.hid hf2
      have HF3 := Lib.hid hf3
      clear hf1 hf2 hf3
      have u0 : (0 : Int) ≤ (lo : Int) := by omega
      have u1 : (lo : Int) ≤ (hi_ : Int) := by omega
      have u2 : (hi_ : Int) ≤ (c : Int) := by omega
      have u3 : (0 : Int) ≤ (hi_ : Int) := by omega
      have u4 : (lo : Int) ≤ (c : Int) := by omega
      go_upto_region 9 with (fail)
      go_cut [15, 16] (fun s15 s16 wx => ∃ (g9 : Nat) (x0 x2 x3 : Int) (B : Option Addr) (m m' : Nat) (E : Int), s15 = .pointer (some ⟨g9, 0, none⟩) ∧ s16 = .int .i64 E ∧ W.heap.size ≤ g9 ∧ Blk wx g9 47 #[.int .i64 x0, .slice B m m', .int .i64 x2, .int .i64 x3] ∧ ((E = 0 ∧ x0 = (d : Int) ∧ x2 = f' ∧ x3 = 250 ∧ ∃ (o : List PD) (bs : Nat), W.heap.size ≤ bs ∧ GW wx (d : Int) f' 250 B m m' o ∧ OwnX pdc 2 wx bs 68 B m' o ∧ PDs wx bs (B.map (fun y : Addr => y.block)) o ∧ o.map PD.pl = mergeP (putL ((t.drop lo).take (hi_ - lo)) (lo : Int) (d : Int) (ps.map PD.pl))) ∨ E = 8) ∧ Below W.heap.size W wx)
      case first =>
        have hG := HG.out
        have FG := hG.facts4
        have n0 := World.new_ne W _ FG.2.1
        have n1 : ¬ W.heap.size + 1 = g := by omega
        have n2 : W.heap.size + 1 ≠ g := n1
        have n3 : ¬ W.heap.size = g := by omega
        go_region_held3 (fun w' => w'.cell? ⟨g, 0, none⟩ = some (.int .i64 (d : Int)) ∧ w'.cell? ⟨g, 1, none⟩ = some (.slice A n c') ∧ w'.cell? ⟨g, 2, none⟩ = some (.int .i64 f) ∧ w'.cell? ⟨g, 3, none⟩ = some (.int .i64 250)) (go_keep)
          (first
            | (go_at_call 25; refine (GW.put (HV.out.gw.below (by (repeat (first | with_reducible exact (Below.refl _ _) | with_reducible refine Below.drew ?_ | (with_reducible refine Below.set4 ?_ ?side _ _ _ _; case side => (first | omega | (simp; omega) | (simp; done))) | (with_reducible refine Below.setCell ?_ ?side _; case side => (first | omega | (simp; omega) | (simp; done))) | (with_reducible refine Below.alloc ?_ ?side _; case side => (first | omega | (simp; omega) | (simp; done))))))) (lo : Int) _ (hi_ - lo) _ ((t.drop lo).take (hi_ - lo)) fin HDL.out (by omega) (by omega) (HDR.out.below (by (repeat (first | with_reducible exact (Below.refl _ _) | with_reducible refine Below.drew ?_ | (with_reducible refine Below.set4 ?_ ?side _ _ _ _; case side => (first | omega | (simp; omega) | (simp; done))) | (with_reducible refine Below.setCell ?_ ?side _; case side => (first | omega | (simp; omega) | (simp; done))) | (with_reducible refine Below.alloc ?_ ?side _; case side => (first | omega | (simp; omega) | (simp; done))))))) (by omega) (by omega) HF1.out HF2.out HF3.out).mono ?_; rintro e wq ⟨x0, x2, x3, B, m, m', E, rfl, hE, hbq⟩; have hcq := cell_under hbq; have hfq := frozen_under hbq; have nq : ¬ wq.heap.size = g := (by have := hbq.size; first | omega | (simp at this; omega)); have k0 := hcq g 0 (by first | omega | (simp; omega)); have k1 := hcq g 1 (by first | omega | (simp; omega)); have k2 := hcq g 2 (by first | omega | (simp; omega)); have k3 := hcq g 3 (by first | omega | (simp; omega))))
        all_goals
          go_wp2_with fail
          go_meet
          have hsq : W.heap.size ≤ wq.heap.size := by have := hbq.size; first | omega | (simp at this; omega)
          rw [HFE.out] at hE
          refine ⟨_, x0, x2, x3, B, m, m', E, rfl, rfl, ?_, ?_, ?_, ?_⟩
          · first | exact Nat.le_refl _ | omega
          · first
              | with_reducible exact Blk.new _ _ _
              | (with_reducible refine Blk.set4 (x := .int .i64 0) (y := .slice none 0 0) (z := .int .i64 0) (r := .int .i64 0) ?_ _ _ _ _
                 refine Blk.carry ?_ hbq
                 repeat (first | with_reducible refine Blk.drew ?_ | (with_reducible refine blkH ?side; case side => (first | rfl | (simp; done))) | with_reducible refine Blk.alloc ?_ _))
          · rcases hE with ⟨e1, e2, e3, e4, o, bs, hbs, hW2, hO, hP, hmp⟩ | h
            · have fin2 : ∀ Z, (OwnX pdc 2 Z bs 68 B m' o ∧ PDs Z bs (B.map (fun y : Addr => y.block)) o) → GW Z (d : Int) f' 250 B m m' o ∧ OwnX pdc 2 Z bs 68 B m' o ∧ PDs Z bs (B.map (fun y : Addr => y.block)) o ∧ o.map PD.pl = mergeP (putL ((t.drop lo).take (hi_ - lo)) (lo : Int) (d : Int) (ps.map PD.pl)) := fun Z h => ⟨hW2.re (RdP.of_own h.1 h.2), h.1, h.2, hmp⟩
              have hbs1 : W.heap.size ≤ bs := by rw [hbs]; first | exact Nat.le_refl _ | (simp; done) | (simp; omega)
              refine .inl ⟨e1, e2, e3, e4, o, bs, hbs1, fin2 _ ?_⟩
              · first
                  | with_reducible exact ownAllA hO hP _
                  | (with_reducible refine ownAll4 hO hP ?_ _ _ _ _; rw [hbs]; first | (simp; done) | (simp; omega))
            · exact .inr h.1
          · (repeat (first | with_reducible exact (Below.refl _ _) | with_reducible refine Below.drew ?_ | (with_reducible refine Below.set4 ?_ ?side _ _ _ _; case side => (first | omega | (simp; omega) | (simp; done))) | (with_reducible refine Below.setCell ?_ ?side _; case side => (first | omega | (simp; omega) | (simp; done))) | (with_reducible refine Below.alloc ?_ ?side _; case side => (first | omega | (simp; omega) | (simp; done))) | (with_reducible refine Below.trans ?_ (Below.mono hbq ?side); case side => (first | omega | (simp; omega) | (simp; done)))))
      case rest =>
        obtain ⟨g9, x0, x2, x3, B, m, m', E, rfl, rfl, hg9, h9, hE, hbx⟩ := hcut
        refine (show ∀ (a : Act) (w : World), Code.wp _ _ _ a w → _ from by assumption) _ _ ?_
        rcases hE with ⟨rfl, rfl, rfl, rfl, o, bs, hbs, hGV, hO, hP, hmp⟩ | rfl
        · refine wp_world (fun w' => Blk w' g9 47 #[.int .i64 (d : Int), .slice B m m', .int .i64 x2, .int .i64 250] ∧ OwnX pdc 2 w' bs 68 B m' o ∧ PDs w' bs (B.map (fun y : Addr => y.block)) o ∧ Below W.heap.size W w') ⟨h9, hO, hP, hbx⟩ ?_
          have HV2 := Lib.hid (show ∀ Z, RdP Z B o → OwnB Z (g + 1) 5 GA gc (t.take d) → AllV Z g k t d x2 B m m' o GA gc from fun Z h1 h2 => by
            have hp := of_put t lo hi_ (d : Int) (ps.map PD.pl) HV.out.gw.gap (by omega) HV.out.tx (by rw [HTL.out]; exact HV.out.last) hlohi (by rw [HTL.out]; exact hhik)
            rw [← hmp] at hp
            exact ⟨hGV.re h1, hp.1, by have := hp.2; rw [HTL.out] at this; exact this, HF'.out, h2⟩)
          have HGOT := Lib.hid HV.out.got
          clear h9 hO hP hbx hGV hmp HFE HF1 HF2 HF3 HFIN HDR HDL hD0 hfin FK
          rintro wx ⟨h9, hO, hP, hbx⟩
          have F9 := h9.facts4
          have hG := HG.out.carry hbx
          have FG := hG.facts4
          have hGOT := own_carry HGOT.out hbx
          have HO := Lib.hid hO
          have HP := Lib.hid hP
          have HGT := Lib.hid (show OwnB wx (g + 1) 5 GA gc (t.take d) from hGOT)
          have HKX := Lib.hid (HK.out.carry hbx)
          have HBX := Lib.hid (HB.out.trans (hbx.mono HB.out.size))
          have hg9g : g9 ≠ g := by omega
          have hgbs : g < bs := by omega
          have htg : tb ≠ g := by omega
          clear h9 hO hP hGOT HV HG HK HB HGOT
          go_upto_region 12 with (fail)
          refine wp_world (fun w' => Blk w' g 47 #[.int .i64 (d : Int), .slice B m m', .int .i64 x2, .int .i64 250] ∧ AllV w' g k t d x2 B m m' o GA gc ∧ Blk w' tb 52 #[.int .i64 r.kind, .int .i64 r.a, .int .i64 r.b, .string r.text] ∧ Below w1.heap.size w1 w') ⟨by (apply Blk.as; (case h => (repeat (first | with_reducible exact hG | with_reducible apply Blk.drew | with_reducible apply Blk.set4 | with_reducible apply Blk.set_ | (with_reducible apply Blk.far4 (hne := ?side); case side => (first | omega | (simp; omega) | (simp; done))) | (with_reducible apply Blk.far (hp := ?side); case side => (first | omega | (simp; omega) | (simp; done))) | with_reducible apply Blk.alloc))); (case e => (first | with_reducible rfl | (simp; done) | rfl))), ?_, ?_, ?_⟩ ?_
          · refine HV2.out _ ?_ ?_
            · have h4 := fun v0 v1 v2 v3 => ownAll4 HO.out HP.out hgbs v0 v1 v2 v3
              with_reducible exact RdP.of_own (h4 _ _ _ _).1 (h4 _ _ _ _).2
            · have hO := HGT.out
              (repeat (first | with_reducible exact hO | (with_reducible refine OwnB.setB ?_ ?side _; case side => (first | omega | (simp; done) | (simp; omega))) | with_reducible refine OwnB.drewB ?_))
          · have hK := HKX.out
            (apply Blk.as; (case h => (repeat (first | with_reducible exact hK | with_reducible apply Blk.drew | with_reducible apply Blk.set4 | with_reducible apply Blk.set_ | (with_reducible apply Blk.far4 (hne := ?side); case side => (first | omega | (simp; omega) | (simp; done))) | (with_reducible apply Blk.far (hp := ?side); case side => (first | omega | (simp; omega) | (simp; done))) | with_reducible apply Blk.alloc))); (case e => (first | with_reducible rfl | (simp; done) | rfl)))
          · have hb := HBX.out
            (repeat (first | with_reducible exact hb | with_reducible refine Below.drew ?_ | (with_reducible refine Below.set4 ?_ ?side _ _ _ _; case side => (first | omega | (simp; omega) | (simp; done))) | (with_reducible refine Below.setCell ?_ ?side _; case side => (first | omega | (simp; omega) | (simp; done))) | (with_reducible refine Below.alloc ?_ ?side _; case side => (first | omega | (simp; omega) | (simp; done)))))
          clear F9 FG HO HP HGT HKX HBX HV2 hG hbx
          rintro y ⟨hG, hV, hK, hb⟩
          have FG := hG.facts4
          have HG := Lib.hid hG
          have HV := Lib.hid hV
          have HK := Lib.hid hK
          have HB := Lib.hid hb
          clear hG hV hK hb
          go_wp2_with fail
          refine (HV.out.gw.check).mono ?_
          rintro e y2 ⟨rfl, hb2⟩
          have hG := HG.out.carry hb2
          have hK := HK.out.carry hb2
          have HV2 := Lib.hid (HV.out.below hb2)
          have HB2 := Lib.hid (HB.out.trans (hb2.mono HB.out.size))
          have HG2 := Lib.hid hG
          have HK2 := Lib.hid hK
          clear FG HG HV HK HB hb2 hG
          have FK := hK.facts4
          clear hK
          obtain ⟨z, HZ, z0, z1⟩ := mod_ex r.kind 3 (by decide)
          go_wp2_with fail
          refine (picked_at r.kind 3 z o0.1 o0.2 (by decide) (by decide) HZ _).mono ?_
          rintro e w' ⟨rfl, rfl⟩
          clear FK
          have FG := HG2.out.facts4
          by_cases hz : z = 0
          · subst hz
            have hS : g < y2.heap.size := HG2.out.lt
            go_wp2_with fail
            refine (gTake_gen HV2.out.gw).mono ?_
            rintro e w8 ⟨d', A8, m8, c8, D8, dn, dc, o8, bs8, rfl, hd', hbl, hdc, hdm, hD, hGV, hAG, hcase, hb8⟩
            obtain ⟨dd, hdd⟩ : ∃ dd : Nat, dd = d + dn := ⟨_, rfl⟩
            obtain rfl : d' = (dd : Int) := by omega
            have hGB : ∀ q, GA.map (fun y : Addr => y.block) = some q → g + 1 ≤ q ∧ q < y2.heap.size := HV2.out.got.blk_lt
            have hnew : Of t (o8.map PD.pl) ∧ t.take d ++ bs8 = t.take dd ∧ lastE (dd : Int) (o8.map PD.pl) ≤ (k : Int) := by
              have hgap := HV2.out.gw.gap
              have htx := HV2.out.tx
              have hla := HV2.out.last
              rcases hcase with ⟨h1, h2, _⟩ | h1
              · subst h1
                obtain rfl : dn = 0 := by simpa using hbl.symm
                obtain rfl : dd = d := by omega
                rw [h2]
                exact ⟨htx, by simp, hla⟩
              · rw [h1] at hgap htx hla
                obtain ⟨g1, g2, _, _⟩ := hgap.tail
                simp only at g1 g2
                have := of_take t d bs8 _ hgap htx (by rw [HTL.out]; exact hdk)
                rw [hbl, ← hdd] at this
                rw [hbl, show (d : Int) + (dn : Int) = (dd : Int) by omega] at g2
                exact ⟨this.1, this.2, by rw [g2]; exact hla⟩
            have HNEW := Lib.hid hnew
            have HGV := Lib.hid hGV
            have HAG := Lib.hid hAG
            have HGBK := Lib.hid hGB
            have HFKK := Lib.hid HV2.out.fk
            have HDL8 := Lib.hid hbl
            have HTD : Hid ((t.take d).length = d) := by show _ = _; rw [List.length_take, HTL.out]; omega
            have h8s := hb8.size
            have hddk : dd ≤ k := by have := hGV.gap.last; have := hnew.2.2; omega
            have HDD := Lib.hid hdd
            clear hnew hcase hAG hGB hdd hd'
            go_upto_region 18 with (fail)
            refine wp_world (fun w' => Blk w' w8.heap.size 47 #[.int .i64 (dd : Int), .slice A8 m8 c8, .int .i64 x2, .int .i64 250] ∧ Blk w' g 47 #[.int .i64 (d : Int), .slice B m m', .int .i64 x2, .int .i64 250] ∧ OwnB w' (g + 1) 5 GA gc (t.take d) ∧ RdB w' D8 bs8 ∧ GW w' (dd : Int) x2 250 A8 m8 c8 o8 ∧ (∀ q, q < w8.heap.size → w'.heap[q]? = w8.heap[q]?) ∧ w'.heap.size = w8.heap.size + 1 ∧ Below w1.heap.size w1 w')
              ⟨Blk.new _ _ _, (HG2.out.carry hb8).alloc _, own_carry (own_carry HV2.out.got hb8) ((Below.refl _ _).alloc (Nat.le_refl _) _), Rd.alloc hD _, HGV.out.below ((Below.refl _ _).alloc (Nat.le_refl _) _), fun q hq => Below.heap_alloc _ _ _ hq, by simp, by have h1 := HB2.out.trans (hb8.mono HB2.out.size); exact h1.alloc h1.size _⟩ ?_
            clear FG HG2 HK2 HV2 HB2 HGV hGV hD hb8
            rintro w9 ⟨hN, hG, hO, hD, hGV, hAW, hSZ, hb⟩
            have FN := hN.facts4
            have FG := hG.facts4
            have HN := Lib.hid hN
            have HG := Lib.hid hG
            have HO := Lib.hid hO
            have HD := Lib.hid hD
            have HGV := Lib.hid hGV
            have HAW := Lib.hid hAW
            have HB := Lib.hid hb
            have hrow : some w8.heap.size ≠ GA.map (fun y : Addr => y.block) := fun e => by have := HGBK.out _ e.symm; omega
            clear hN hG hO hD hGV hAW hb
            have hgs9 : g + 1 ≤ w9.heap.size := by omega
            have hn8 : w8.heap.size ≠ g := by omega
            go_region_law ((refine step_appBG (by rfl) _ _ _ (by rfl) (g + 1) 5 Try.underlying43 u8_infoG GA d gc (t.take d) (by rfl) HTD.out (by first | exact HO.out | exact own_carry HO.out (Below.refl _ _).drew) D8 dn dc bs8 (by rfl) HDL8.out (by first | exact HD.out | exact Rd.drew HD.out) (t.take dd) HNEW.out.2.1 dd HDD.out.symm (by have := HDD.out; omega) (by first | exact hgs9 | (simp; omega)) ?_; intro A6 c6 w6 hO6 hc6 hm6 hb6 hgr6; have hN6 : Blk w6 w8.heap.size 47 #[.int .i64 (dd : Int), .slice A8 m8 c8, .int .i64 x2, .int .i64 250] := (by first | exact Blk.grown HN.out.drew hgr6 hrow | exact Blk.grown HN.out hgr6 hrow); have F6 := hN6.facts4; have hG6 : Blk w6 g 47 #[.int .i64 (d : Int), .slice B m m', .int .i64 x2, .int .i64 250] := (by first | exact Blk.below HG.out.drew hb6 (Nat.lt_succ_self _) | exact Blk.below HG.out hb6 (Nat.lt_succ_self _)); have FG6 := hG6.facts4))
            all_goals
              go_wp2_with fail
              go_roundw
              case rel =>
                have hb9 := HB.out
                have hz6 := hb6.size
                have hAGR : ∀ Z : World, (∀ q, q ≠ g → Z.heap[q]? = w6.heap[q]?) → RdP Z A8 o8 := fun Z hZ => HAG.out Z fun q q1 q2 => by
                  rw [hZ q (by omega), hgr6.block q (by simp; omega) (fun e => by have := HGBK.out q e.symm; omega)]
                  exact HAW.out q q2
                refine ⟨i + 1, dd, x2, A8, m8, c8, o8, A6, c6, by omega, by go_num, rfl, ?_, ⟨HGV.out.re (hAGR _ ?_), HNEW.out.1, HNEW.out.2.2, HFKK.out, ?_⟩, ?_⟩
                · (apply Blk.as; (case h => (repeat (first | with_reducible exact hG6 | with_reducible apply Blk.drew | with_reducible apply Blk.set4 | with_reducible apply Blk.set_ | (with_reducible apply Blk.far4 (hne := ?side); case side => (first | omega | (simp; omega) | (simp; done))) | (with_reducible apply Blk.far (hp := ?side); case side => (first | omega | (simp; omega) | (simp; done))) | with_reducible apply Blk.alloc))); (case e => (first | with_reducible rfl | (simp; done) | rfl)))
                · intro q hq
                  first
                    | exact heap4 hq _ _ _ _
                    | (refine (heap4 hq _ _ _ _).trans ?_; rfl)
                · (repeat (first | with_reducible exact hO6 | (with_reducible refine OwnB.setB ?_ ?side _; case side => (first | omega | (simp; done) | (simp; omega))) | with_reducible refine OwnB.drewB ?_))
                · have hb10 : Below w1.heap.size w1 w6 := by first | exact hb9.trans (hb6.mono (by omega)) | exact hb9.drew.trans (hb6.mono (by omega))
                  (repeat (first | with_reducible exact hb10 | with_reducible refine Below.drew ?_ | (with_reducible refine Below.set4 ?_ ?side _ _ _ _; case side => (first | omega | (simp; omega) | (simp; done))) | (with_reducible refine Below.setCell ?_ ?side _; case side => (first | omega | (simp; omega) | (simp; done))) | (with_reducible refine Below.alloc ?_ ?side _; case side => (first | omega | (simp; omega) | (simp; done)))))
              case measure => simp [intOf]; omega
          · have hzb : (z == 0) = false := by simpa using hz
            go_wp2_with fail
            go_roundw
            case rel => exact ⟨i + 1, d, x2, B, m, m', o, GA, gc, by omega, by go_num, rfl, HG2.out, HV2.out, HB2.out⟩
            case measure => simp [intOf]; omega
        · refine wp_world (fun w' => Blk w' g 47 #[.int .i64 (d : Int), .slice A n c', .int .i64 f, .int .i64 250] ∧ AllV w' g k t d f A n c' ps GA gc ∧ Blk w' tb 52 #[.int .i64 r.kind, .int .i64 r.a, .int .i64 r.b, .string r.text] ∧ Below w1.heap.size w1 w') ⟨HG.out.carry hbx, HV.out.below hbx, HK.out.carry hbx, HB.out.trans (hbx.mono HB.out.size)⟩ ?_
          clear h9 hbx HFE HF1 HF2 HF3 HFIN HDR HDL hD0 hfin FK HV HG HK HB
          rintro y ⟨hG, hV, hK, hb⟩
          go_upto_region 12 with (fail)
          have FG := hG.facts4
          have HG := Lib.hid hG
          have HV := Lib.hid hV
          have HK := Lib.hid hK
          have HB := Lib.hid hb
          clear hG hV hK hb
          go_wp2_with fail
          refine (HV.out.gw.check).mono ?_
          rintro e y2 ⟨rfl, hb2⟩
          have hG := HG.out.carry hb2
          have hK := HK.out.carry hb2
          have HV2 := Lib.hid (HV.out.below hb2)
          have HB2 := Lib.hid (HB.out.trans (hb2.mono HB.out.size))
          have HG2 := Lib.hid hG
          have HK2 := Lib.hid hK
          clear FG HG HV HK HB hb2 hG
          have FK := hK.facts4
          clear hK
          obtain ⟨z, HZ, z0, z1⟩ := mod_ex r.kind 3 (by decide)
          go_wp2_with fail
          refine (picked_at r.kind 3 z o0.1 o0.2 (by decide) (by decide) HZ _).mono ?_
          rintro e w' ⟨rfl, rfl⟩
          clear FK
          have FG := HG2.out.facts4
          by_cases hz : z = 0
          · subst hz
            have hS : g < y2.heap.size := HG2.out.lt
            go_wp2_with fail
            refine (gTake_gen HV2.out.gw).mono ?_
            rintro e w8 ⟨d', A8, m8, c8, D8, dn, dc, o8, bs8, rfl, hd', hbl, hdc, hdm, hD, hGV, hAG, hcase, hb8⟩
            obtain ⟨dd, hdd⟩ : ∃ dd : Nat, dd = d + dn := ⟨_, rfl⟩
            obtain rfl : d' = (dd : Int) := by omega
            have hGB : ∀ q, GA.map (fun y : Addr => y.block) = some q → g + 1 ≤ q ∧ q < y2.heap.size := HV2.out.got.blk_lt
            have hnew : Of t (o8.map PD.pl) ∧ t.take d ++ bs8 = t.take dd ∧ lastE (dd : Int) (o8.map PD.pl) ≤ (k : Int) := by
              have hgap := HV2.out.gw.gap
              have htx := HV2.out.tx
              have hla := HV2.out.last
              rcases hcase with ⟨h1, h2, _⟩ | h1
              · subst h1
                obtain rfl : dn = 0 := by simpa using hbl.symm
                obtain rfl : dd = d := by omega
                rw [h2]
                exact ⟨htx, by simp, hla⟩
              · rw [h1] at hgap htx hla
                obtain ⟨g1, g2, _, _⟩ := hgap.tail
                simp only at g1 g2
                have := of_take t d bs8 _ hgap htx (by rw [HTL.out]; exact hdk)
                rw [hbl, ← hdd] at this
                rw [hbl, show (d : Int) + (dn : Int) = (dd : Int) by omega] at g2
                exact ⟨this.1, this.2, by rw [g2]; exact hla⟩
            have HNEW := Lib.hid hnew
            have HGV := Lib.hid hGV
            have HAG := Lib.hid hAG
            have HGBK := Lib.hid hGB
            have HFKK := Lib.hid HV2.out.fk
            have HDL8 := Lib.hid hbl
            have HTD : Hid ((t.take d).length = d) := by show _ = _; rw [List.length_take, HTL.out]; omega
            have h8s := hb8.size
            have hddk : dd ≤ k := by have := hGV.gap.last; have := hnew.2.2; omega
            have HDD := Lib.hid hdd
            clear hnew hcase hAG hGB hdd hd'
            go_upto_region 18 with (fail)
            refine wp_world (fun w' => Blk w' w8.heap.size 47 #[.int .i64 (dd : Int), .slice A8 m8 c8, .int .i64 f, .int .i64 250] ∧ Blk w' g 47 #[.int .i64 (d : Int), .slice A n c', .int .i64 f, .int .i64 250] ∧ OwnB w' (g + 1) 5 GA gc (t.take d) ∧ RdB w' D8 bs8 ∧ GW w' (dd : Int) f 250 A8 m8 c8 o8 ∧ (∀ q, q < w8.heap.size → w'.heap[q]? = w8.heap[q]?) ∧ w'.heap.size = w8.heap.size + 1 ∧ Below w1.heap.size w1 w')
              ⟨Blk.new _ _ _, (HG2.out.carry hb8).alloc _, own_carry (own_carry HV2.out.got hb8) ((Below.refl _ _).alloc (Nat.le_refl _) _), Rd.alloc hD _, HGV.out.below ((Below.refl _ _).alloc (Nat.le_refl _) _), fun q hq => Below.heap_alloc _ _ _ hq, by simp, by have h1 := HB2.out.trans (hb8.mono HB2.out.size); exact h1.alloc h1.size _⟩ ?_
            clear FG HG2 HK2 HV2 HB2 HGV hGV hD hb8
            rintro w9 ⟨hN, hG, hO, hD, hGV, hAW, hSZ, hb⟩
            have FN := hN.facts4
            have FG := hG.facts4
            have HN := Lib.hid hN
            have HG := Lib.hid hG
            have HO := Lib.hid hO
            have HD := Lib.hid hD
            have HGV := Lib.hid hGV
            have HAW := Lib.hid hAW
            have HB := Lib.hid hb
            have hrow : some w8.heap.size ≠ GA.map (fun y : Addr => y.block) := fun e => by have := HGBK.out _ e.symm; omega
            clear hN hG hO hD hGV hAW hb
            have hgs9 : g + 1 ≤ w9.heap.size := by omega
            have hn8 : w8.heap.size ≠ g := by omega
            go_region_law ((refine step_appBG (by rfl) _ _ _ (by rfl) (g + 1) 5 Try.underlying43 u8_infoG GA d gc (t.take d) (by rfl) HTD.out (by first | exact HO.out | exact own_carry HO.out (Below.refl _ _).drew) D8 dn dc bs8 (by rfl) HDL8.out (by first | exact HD.out | exact Rd.drew HD.out) (t.take dd) HNEW.out.2.1 dd HDD.out.symm (by have := HDD.out; omega) (by first | exact hgs9 | (simp; omega)) ?_; intro A6 c6 w6 hO6 hc6 hm6 hb6 hgr6; have hN6 : Blk w6 w8.heap.size 47 #[.int .i64 (dd : Int), .slice A8 m8 c8, .int .i64 f, .int .i64 250] := (by first | exact Blk.grown HN.out.drew hgr6 hrow | exact Blk.grown HN.out hgr6 hrow); have F6 := hN6.facts4; have hG6 : Blk w6 g 47 #[.int .i64 (d : Int), .slice A n c', .int .i64 f, .int .i64 250] := (by first | exact Blk.below HG.out.drew hb6 (Nat.lt_succ_self _) | exact Blk.below HG.out hb6 (Nat.lt_succ_self _)); have FG6 := hG6.facts4))
            all_goals
              go_wp2_with fail
              go_roundw
              case rel =>
                have hb9 := HB.out
                have hz6 := hb6.size
                have hAGR : ∀ Z : World, (∀ q, q ≠ g → Z.heap[q]? = w6.heap[q]?) → RdP Z A8 o8 := fun Z hZ => HAG.out Z fun q q1 q2 => by
                  rw [hZ q (by omega), hgr6.block q (by simp; omega) (fun e => by have := HGBK.out q e.symm; omega)]
                  exact HAW.out q q2
                refine ⟨i + 1, dd, f, A8, m8, c8, o8, A6, c6, by omega, by go_num, rfl, ?_, ⟨HGV.out.re (hAGR _ ?_), HNEW.out.1, HNEW.out.2.2, HFKK.out, ?_⟩, ?_⟩
                · (apply Blk.as; (case h => (repeat (first | with_reducible exact hG6 | with_reducible apply Blk.drew | with_reducible apply Blk.set4 | with_reducible apply Blk.set_ | (with_reducible apply Blk.far4 (hne := ?side); case side => (first | omega | (simp; omega) | (simp; done))) | (with_reducible apply Blk.far (hp := ?side); case side => (first | omega | (simp; omega) | (simp; done))) | with_reducible apply Blk.alloc))); (case e => (first | with_reducible rfl | (simp; done) | rfl)))
                · intro q hq
                  first
                    | exact heap4 hq _ _ _ _
                    | (refine (heap4 hq _ _ _ _).trans ?_; rfl)
                · (repeat (first | with_reducible exact hO6 | (with_reducible refine OwnB.setB ?_ ?side _; case side => (first | omega | (simp; done) | (simp; omega))) | with_reducible refine OwnB.drewB ?_))
                · have hb10 : Below w1.heap.size w1 w6 := by first | exact hb9.trans (hb6.mono (by omega)) | exact hb9.drew.trans (hb6.mono (by omega))
                  (repeat (first | with_reducible exact hb10 | with_reducible refine Below.drew ?_ | (with_reducible refine Below.set4 ?_ ?side _ _ _ _; case side => (first | omega | (simp; omega) | (simp; done))) | (with_reducible refine Below.setCell ?_ ?side _; case side => (first | omega | (simp; omega) | (simp; done))) | (with_reducible refine Below.alloc ?_ ?side _; case side => (first | omega | (simp; omega) | (simp; done)))))
              case measure => simp [intOf]; omega
          · have hzb : (z == 0) = false := by simpa using hz
            go_wp2_with fail
            go_roundw
            case rel => exact ⟨i + 1, d, f, A, n, c', ps, GA, gc, by omega, by go_num, rfl, HG2.out, HV2.out, HB2.out⟩
            case measure => simp [intOf]; omega
    · obtain rfl : i = K := by omega
      have HG := Lib.hid hG
      have HV := Lib.hid hV
      have HB := Lib.hid hb
      have FG := hG.facts4
      have hgr : g < wr.heap.size := hG.lt
      clear hG hV hb HRS
      have hm1 : (if (d : Int) < (k : Int) then (d : Int) else (k : Int)) = (d : Int) := by split <;> omega
      have hm2 : (if (k : Int) < (d : Int) then (k : Int) else (d : Int)) = (d : Int) := by split <;> omega
      obtain ⟨D, hD0⟩ : ∃ D : Option Addr, (if c = d then T else Option.map (fun x : Addr => x.add d) T) = D := ⟨_, rfl⟩
      have HDR := Lib.hid (show RdB wr D (t.drop d) from by
        have h := RdB.cut (k := d) (cap := c) (HT.out.below HB.out) (by rw [HTL.out]; omega) (by rw [HTL.out]; omega)
        rw [← hD0]; exact h)
      have HDL : Hid ((t.drop d).length = k - d) := by show _ = _; rw [List.length_drop, HTL.out]
      have HLA := Lib.hid (of_last t d (ps.map PD.pl) HV.out.gw.gap HV.out.tx (by rw [HTL.out]; exact HV.out.last))
      have HFIT : Hid ((mergeP (putL (t.drop d) (d : Int) (d : Int) (ps.map PD.pl))).length ≤ 4) := by
        show _ ≤ _
        rcases HLA.out with ⟨_, h⟩ | ⟨_, h⟩ <;> rw [h] <;> simp
      have hf1 : 0 ≤ f → (d : Int) + ((k - d : Nat) : Int) ≤ f := fun h => by rcases HV.out.fk with h1 | h1 <;> omega
      have hf2 : 0 ≤ f → (d : Int) + ((k - d : Nat) : Int) = f := fun h => by rcases HV.out.fk with h1 | h1 <;> omega
      have hf3 : lastE (d : Int) (ps.map PD.pl) ≤ (d : Int) + ((k - d : Nat) : Int) := by have := HV.out.last; omega
      have HF1 := Lib.hid hf1
      have HF2 := Lib.hid hf2
      have HF3 := Lib.hid hf3
      clear hf1 hf2 hf3
      have HFE : Hid ((if true = true then (d : Int) + ((k - d : Nat) : Int) else f) = (k : Int)) := by show _ = _; rw [if_pos rfl]; omega
      have u0 : (0 : Int) ≤ (d : Int) := by omega
      have u1 : (d : Int) ≤ (k : Int) := by omega
      have u4 : (d : Int) ≤ (c : Int) := by omega
      go_upto_region 21 with (fail)
      go_cut [22] (fun s wx => s = .int .i64 0 ∧ ∃ (B : Option Addr) (m m' : Nat) (o : List PD), Blk wx g 47 #[.int .i64 (d : Int), .slice B m m', .int .i64 (k : Int), .int .i64 250] ∧ GW wx (d : Int) (k : Int) 250 B m m' o ∧ o.map PD.pl = mergeP (putL (t.drop d) (d : Int) (d : Int) (ps.map PD.pl)) ∧ OwnB wx (g + 1) 5 GA gc (t.take d) ∧ Below w1.heap.size w1 wx)
      case first =>
        have hG := HG.out
        have FG := hG.facts4
        have n0 := World.new_ne wr _ FG.2.1
        have n3 : ¬ wr.heap.size = g := by omega
        go_region_with
          (first
            | (go_at_call 25; refine (GW.put_ok (HV.out.gw.below (by (repeat (first | with_reducible exact (Below.refl _ _) | with_reducible refine Below.drew ?_ | (with_reducible refine Below.set4 ?_ ?side _ _ _ _; case side => (first | omega | (simp; omega) | (simp; done))) | (with_reducible refine Below.setCell ?_ ?side _; case side => (first | omega | (simp; omega) | (simp; done))) | (with_reducible refine Below.alloc ?_ ?side _; case side => (first | omega | (simp; omega) | (simp; done))))))) (d : Int) _ (k - d) _ (t.drop d) true (k : Int) HFE.out HDL.out (by omega) (by omega) (HDR.out.below (by (repeat (first | with_reducible exact (Below.refl _ _) | with_reducible refine Below.drew ?_ | (with_reducible refine Below.set4 ?_ ?side _ _ _ _; case side => (first | omega | (simp; omega) | (simp; done))) | (with_reducible refine Below.setCell ?_ ?side _; case side => (first | omega | (simp; omega) | (simp; done))) | (with_reducible refine Below.alloc ?_ ?side _; case side => (first | omega | (simp; omega) | (simp; done))))))) (by omega) (by omega) HF1.out (fun h _ => HF2.out h) (fun _ => HF3.out) HFIT.out).mono ?_; rintro e wq ⟨B, m, m', o, rfl, hGW, hOW, hPW, hMP, hbq⟩; have hcq := cell_under hbq; have hfq := frozen_under hbq; have nq : ¬ wq.heap.size = g := (by have := hbq.size; first | omega | (simp at this; omega)); have k0 := hcq g 0 (by first | omega | (simp; omega)); have k1 := hcq g 1 (by first | omega | (simp; omega)); have k2 := hcq g 2 (by first | omega | (simp; omega)); have k3 := hcq g 3 (by first | omega | (simp; omega)); have q0 := hfq g 0 (by first | omega | (simp; omega)); have q1 := hfq g 1 (by first | omega | (simp; omega)); have q2 := hfq g 2 (by first | omega | (simp; omega)); have q3 := hfq g 3 (by first | omega | (simp; omega))))
        all_goals
          go_wp2_with fail
          go_meet
          have hb := HB.out
          have hG := HG.out
          have hs4 := hb.size
          have hO2 : OwnB wq (g + 1) 5 GA gc (t.take d) := own_carry HV.out.got (by first | exact hbq | exact (Below.refl _ _).drew.trans hbq)
          refine ⟨rfl, B, m, m', o, ?_, ?_, hMP, ?_, ?_⟩
          · (apply Blk.as; (case h => (repeat (first | with_reducible exact hG | with_reducible apply Blk.drew | with_reducible apply Blk.set4 | with_reducible apply Blk.set_ | (with_reducible apply Blk.far4 (hne := ?side); case side => (first | omega | (simp; omega) | (simp; done))) | (with_reducible apply Blk.far (hp := ?side); case side => (first | omega | (simp; omega) | (simp; done))) | with_reducible apply Blk.alloc | (with_reducible apply Blk.below (hb := hbq) (hg := ?side); case side => (first | omega | (simp; omega) | (simp; done)))))); (case e => (first | with_reducible rfl | (simp; done) | rfl)))
          · refine hGW.re ?_
            have h4 := fun v0 v1 v2 v3 => ownAll4 hOW hPW (g := g) (by first | exact hgr | (simp; done) | (simp; omega)) v0 v1 v2 v3
            with_reducible exact RdP.of_own (h4 _ _ _ _).1 (h4 _ _ _ _).2
          · (repeat (first | with_reducible exact hO2 | (with_reducible refine OwnB.setB ?_ ?side _; case side => (first | omega | (simp; done) | (simp; omega))) | with_reducible refine OwnB.drewB ?_))
          · (repeat (first | with_reducible exact hb | with_reducible refine Below.drew ?_ | (with_reducible refine Below.set4 ?_ ?side _ _ _ _; case side => (first | omega | (simp; omega) | (simp; done))) | (with_reducible refine Below.setCell ?_ ?side _; case side => (first | omega | (simp; omega) | (simp; done))) | (with_reducible refine Below.alloc ?_ ?side _; case side => (first | omega | (simp; omega) | (simp; done))) | (with_reducible refine Below.trans ?_ (Below.mono hbq ?side); case side => (first | omega | (simp; omega) | (simp; done)))))
      case rest =>
        obtain ⟨rfl, B, m, m', o, hG, hGW, hMP, hO, hb⟩ := hcut
        refine (show ∀ (a : Act) (w : World), Code.wp _ _ _ a w → _ from by assumption) _ _ ?_
        refine wp_world (fun w' => Blk w' g 47 #[.int .i64 (d : Int), .slice B m m', .int .i64 (k : Int), .int .i64 250] ∧ GW w' (d : Int) (k : Int) 250 B m m' o ∧ OwnB w' (g + 1) 5 GA gc (t.take d) ∧ Below w1.heap.size w1 w') ⟨hG, hGW, hO, hb⟩ ?_
        have HMP := Lib.hid hMP
        clear hG hGW hO hb hMP HFE HF1 HF2 HF3 HFIT HDR HDL hD0 FG HV HG HB hm1 hm2
        rintro y ⟨hG, hGW, hO, hb⟩
        have FG := hG.facts4
        have HGW := Lib.hid hGW
        have HO := Lib.hid hO
        have HB := Lib.hid hb
        have hgy := hG.lt
        clear hG hGW hO hb
        go_wp2_with fail
        refine (gTake_gen HGW.out).mono ?_
        rintro e w8 ⟨d', A8, m8, c8, D8, dn, dc, o8, bs8, rfl, hd', hbl, hdc, hdm, hD, _, _, hcase, hb8⟩
        have hnew : dn = k - d ∧ t.take d ++ bs8 = t := by
          rcases HLA.out with ⟨e1, e2⟩ | ⟨e1, e2⟩
          · rw [HMP.out, e2] at hcase
            rcases hcase with ⟨h1, _, _⟩ | h1
            · subst h1
              have : dn = 0 := by simpa using hbl.symm
              refine ⟨by rw [HTL.out] at e1; omega, ?_⟩
              rw [e1, List.append_nil, List.take_of_length_le (Nat.le_refl _)]
            · cases h1
          · rw [HMP.out, e2] at hcase
            rcases hcase with ⟨_, _, h1⟩ | h1
            · exact absurd rfl (h1 _ _ rfl)
            · injection h1 with h1 _
              injection h1 with _ h1
              subst h1
              refine ⟨by rw [← hbl, List.length_drop, HTL.out], List.take_append_drop _ _⟩
        obtain ⟨hdn, heq⟩ := hnew
        obtain rfl : d' = (k : Int) := by omega
        subst hdn
        have HEQ := Lib.hid heq
        have HBL := Lib.hid hbl
        have HD := Lib.hid hD
        have HO8 := Lib.hid (own_carry HO.out hb8)
        have HB8 := Lib.hid (HB.out.trans (hb8.mono HB.out.size))
        have HTD : Hid ((t.take d).length = d) := by show _ = _; rw [List.length_take, HTL.out]; omega
        have hg8 : g < w8.heap.size := by have := hb8.size; omega
        clear hd' hbl hD hcase heq HMP HLA HGW HO HB FG hb8
        go_upto_region 23 with (fail)
        refine wp_world (fun w' => OwnB w' (g + 1) 5 GA gc (t.take d) ∧ RdB w' D8 bs8 ∧ g < w'.heap.size ∧ Below w1.heap.size w1 w') ⟨own_carry HO8.out ((Below.refl _ _).alloc (Nat.le_refl _) _), Rd.alloc HD.out _, by simp; omega, HB8.out.alloc HB8.out.size _⟩ ?_
        clear HD HO8 HB8
        rintro w9 ⟨hO, hD, hg9, hb⟩
        have HO := Lib.hid hO
        have HD := Lib.hid hD
        have HB := Lib.hid hb
        clear hO hD hb
        have hs9 : w1.heap.size ≤ g + 1 := by omega
        go_wp2_with (at_builtin
                     refine wpList_appB _ rfl (.tmp 124) (.tmp 125) _ rfl (g + 1) 5 Try.underlying43 u8_infoG GA d gc (t.take d) rfl HTD.out HO.out D8 (k - d) dc bs8 rfl HBL.out HD.out t HEQ.out k (by omega) (by omega) (by omega) ?_
                     intro A6 c6 w6 hO6 hc6 hm6 hb6)
        have hb10 : Below w1.heap.size w1 w6 := HB.out.trans (hb6.mono hs9)
        refine (gatherTells_any _).mono ?_
        rintro e w7 ⟨rfl, hb7⟩
        have hb11 : Below w1.heap.size w1 w7 := hb10.trans (hb7.mono hb10.size)
        have hst1 : (convert 43 9 (.slice A6 k c6)).run Try.prog w7 = .ok (.string (byt t)) w7 := str2 ((RdB.of_own hO6).below hb7) HTL.out
        have hst2 : (convert 43 9 (.slice T k c)).run Try.prog w7 = .ok (.string (byt t)) w7 := str2 (HT.out.below hb11) HTL.out
        clear hO6 hb6
        go_wp2_with fail
        go_ret
        exact ⟨by first | rfl | simp, HB01.out.trans (hb11.mono HB01.out.size)⟩
end Go.Proofs.Ytolhlgalhhdkmab
