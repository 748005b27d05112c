/- The contract of fields.Apply, of a beginning of what was told ahead. -/
import Derived.Test.YtdmonacekjcedaaEncSt
import Derived.Test.YtdmonacekjcedaaFDec
import Derived.Test.YtdmonacekjcedaaFEnc1
import Derived.Test.YtdmonacekjcedaaResizeOwn
import Derived.Test.YtdmonacekjcedaaInsertWalk
namespace Go.Proofs.Ytdmonacekjcedaa
open Go.ChangeShapes Go.WideShapes Go.ChangeAt Go.RowKit
set_option linter.unusedVariables false

theorem fitsN_zero (gs : List Fld) : fitsN gs 0 = 0 := by
  cases gs with
  | nil => rfl
  | cons f gs => have := tellF_len f; unfold fitsN; rw [if_neg (by omega)]
theorem OwnX.only {w w' : World} {base : Nat} {A : Option Addr} {c : Nat} {xs : List Fld} {g : Nat} {t : TypeId} {cs : Array Value} (h : OwnX fcells 2 w base 39 A c xs) (ho : Only g w w') (hq : Blk w g t cs) (ht : t ≠ 39) : OwnX fcells 2 w' base 39 A c xs := by
  refine ⟨h.1, ?_⟩
  rcases h.2 with h2 | ⟨k, cap, cur, hv, hk, hh, r⟩
  · exact .inl h2
  · have hne : k ≠ g := own_type h (k := k) (by rw [hv]; rfl) (show w.heap[g]? = some (.cells cs t (0, 0)) from hq) ht
    exact .inr ⟨k, cap, cur, hv, hk, (ho.block k (Array.getElem?_eq_some_iff.1 hh).1 hne).trans hh, r⟩
theorem EyeF.blk {w0 w : World} {g : Nat} {y : YeD} (h : EyeF w0 w g y) : ∃ cs, Blk w g 74 cs := by
  obtain ⟨A, n, c, _, _, _, hB, _⟩ := h.ex
  exact ⟨_, hB⟩
def eyeLen (w : World) (g : Nat) : Nat := match w.cell? ⟨g, 0, none⟩ with | some (.slice _ n _) => n | _ => 0
theorem EyeF.elen {w0 w : World} {g : Nat} {y : YeD} (h : EyeF w0 w g y) : eyeLen w g = y.b.length := by
  obtain ⟨A, n, c, hn, _, _, hB, _⟩ := h.ex
  unfold eyeLen
  rw [hB.facts2E.2.1, hn]
/-- The state of Apply's loop. -/
structure AppT (W wr : World) (gY : Nat) (r : Nat) (put : Int) (rows : List Fld) (A : Option Addr) (n c : Nat) (y : YeD) : Prop where
  hT : Blk wr W.heap.size 25 #[.int .i64 (r : Int), .int .i64 put, .slice A n c]
  hZ : Blk wr (W.heap.size + 1) 25 #[.int .i64 0, .int .i64 0, .slice none 0 0]
  hR : OwnX fcells 2 wr W.heap.size 39 A c rows
  hY : EyeF W wr gY y
  hn : rows.length = n
  g1 : W.heap.size + 1 < gY
section
variable {W w w' : World} {gY : Nat} {r : Nat} {put : Int} {rows : List Fld} {A : Option Addr} {n c : Nat} {y : YeD}
theorem AppT.carry (h : AppT W w gY r put rows A n c y) (hb : Below w.heap.size w w') : AppT W w' gY r put rows A n c y :=
  ⟨h.hT.carry hb, h.hZ.carry hb, h.hR.carry hb, h.hY.carry hb, h.hn, h.g1⟩
theorem AppT.alloc (h : AppT W w gY r put rows A n c y) (o : Obj) : AppT W (w.alloc o) gY r put rows A n c y := h.carry ((Below.refl _ _).alloc (Nat.le_refl _) _)
theorem AppT.eye {y' : YeD} (h : AppT W w gY r put rows A n c y) (hY : EyeF W w' gY y') (ho : Only gY w w') : AppT W w' gY r put rows A n c y' := by
  obtain ⟨cs, hc⟩ := h.hY.blk
  exact ⟨ho.blk (by have := h.g1; omega) h.hT, ho.blk (by have := h.g1; omega) h.hZ, h.hR.only ho hc (by decide), hY, h.hn, h.g1⟩
/-- A block that is none of the state's is written. -/
theorem AppT.far (h : AppT W w gY r put rows A n c y) (q i : Nat) (u : Value) (h1 : gY < q) (h2 : ∀ k, A.map (·.block) = some k → k ≠ q) : AppT W (w.setCell ⟨q, i, none⟩ u) gY r put rows A n c y :=
  ⟨h.hT.far (p := ⟨q, i, none⟩) (by show W.heap.size ≠ q; have := h.g1; omega) _, h.hZ.far (p := ⟨q, i, none⟩) (by show W.heap.size + 1 ≠ q; have := h.g1; omega) _,
   own_far h.hR (p := ⟨q, i, none⟩) (fun k hk => h2 k (by rw [blk_of] at hk; exact hk)) u, h.hY.set (p := ⟨q, i, none⟩) (by show gY ≠ q; omega) (by show W.heap.size ≤ q; have := h.g1; omega) u, h.hn, h.g1⟩
theorem AppT.setT (h : AppT W w gY r put rows A n c y) {rows' : List Fld} {A' : Option Addr} {n' c' : Nat} {b : Nat} (hR : OwnX fcells 2 w b 39 A' c' rows') (hb : W.heap.size ≤ b) (hn' : rows'.length = n') (put' : Int) :
    AppT W (((w.setCell ⟨W.heap.size, 0, none⟩ (.int .i64 (r : Int))).setCell ⟨W.heap.size, 1, none⟩ (.int .i64 put')).setCell ⟨W.heap.size, 2, none⟩ (.slice A' n' c')) gY r put' rows' A' n' c' y := by
  have g1 := h.g1
  have t1 := h.hT.set_ 0 (.int .i64 (r : Int))
  have t2 := t1.set_ 1 (.int .i64 put')
  refine ⟨(t2.set_ 2 (.slice A' n' c')).as (by rfl), ?_, ?_, ?_, hn', g1⟩
  · exact ((h.hZ.far (p := ⟨W.heap.size, 0, none⟩) (by show W.heap.size + 1 ≠ W.heap.size; omega) _).far (p := ⟨W.heap.size, 1, none⟩) (by show W.heap.size + 1 ≠ W.heap.size; omega) _).far (p := ⟨W.heap.size, 2, none⟩) (by show W.heap.size + 1 ≠ W.heap.size; omega) _
  · exact KeepO.set t2 (by decide) 2 _ _ _ _ _ (KeepO.set t1 (by decide) 1 _ _ _ _ _ (KeepO.set h.hT (by decide) 0 _ _ _ _ _ (hR.mono hb)))
  · exact ((h.hY.set (p := ⟨W.heap.size, 0, none⟩) (by show gY ≠ W.heap.size; omega) (Nat.le_refl _) _).set (p := ⟨W.heap.size, 1, none⟩) (by show gY ≠ W.heap.size; omega) (Nat.le_refl _) _).set (p := ⟨W.heap.size, 2, none⟩) (by show gY ≠ W.heap.size; omega) (Nat.le_refl _) _
theorem AppT.tab (h : AppT W w gY r put rows A n c y) (h1 : r ≤ 160) (h2 : (rows.length : Int) ≤ put) (h3 : put ≤ 4611686018427387903) (hf : ∀ f ∈ rows, FOk f) (hs : tsz rows ≤ r) : TabV w (r : Int) put A n c rows where
  hn := h.hn
  hnc := by have := h.hR.cap; rw [h.hn] at this; exact this.1
  hcm := h.hR.cap.2
  h0 := by omega
  h1 := by omega
  h2 := by rw [← h.hn]; exact h2
  h3 := h3
  hf := hf
  hs := by omega
  hr := h.hR.rd
end
/-- What Apply answers. -/
def FAppOut (w : World) (r : Nat) (put : Int) (R gs : List Fld) (m : Nat) (e' : Ending) (w' : World) : Prop :=
  ∃ (A : Option Addr) (n c : Nat), e' = .returned (.tuple #[.agg #[.int .i64 (r : Int), .int .i64 (put + m), .slice A n c], .int .i64 (((tellB (gs.take m)).length : Nat) : Int), .int .i64 0]) ∧ TabV w' (r : Int) (put + m) A n c (R ++ gs.take m) ∧ Below w.heap.size w w'

set_option maxRecDepth 100000 in
set_option maxHeartbeats 16000000 in
theorem fApply_any (w : World) (r : Nat) (put : Int) (TA : Option Addr) (tn tc : Nat) (R : List Fld) (hV : TabV w (r : Int) put TA tn tc R) (gs : List Fld) (hg : ∀ f ∈ gs, FOk f) (hs : tsz (R ++ gs) ≤ r) (hp : put + gs.length ≤ 4611686018427387903)
    (k : Nat) (hk : k ≤ (tellB gs).length) (B : Option Addr) (nb cb : Nat) (hB : BV w B nb cb ((tellB gs).take k)) (m : Nat) (hm : fitsN gs k = m) :
    Calls Try.prog 19 #[.agg #[.int .i64 (r : Int), .int .i64 put, .slice TA tn tc], .slice B nb cb] w (FAppOut w r put R gs m) := by
  have hr : r ≤ 160 := by have := hV.h1; omega
  have hnb : nb = k := by have h := hB.hn; rw [List.length_take] at h; omega
  subst hnb
  have HV := Lib.hid hV
  have HG := Lib.hid hg
  have HS := Lib.hid hs
  have HPT := Lib.hid hp
  have HK := Lib.hid hk
  have HB := Lib.hid hB
  have HM := Lib.hid hm
  have hcb := hB.hnc
  have hcm := hB.hcm
  clear hV hg hs hp hk hB hm
  go_enter Try.func19, Try.ntmps19
  go_upto_region 1 with (fail)
  refine wp_world (fun w' => Blk w' w.heap.size 25 #[.int .i64 (r : Int), .int .i64 put, .slice TA tn tc] ∧ Blk w' (w.heap.size + 1) 25 #[.int .i64 0, .int .i64 0, .slice none 0 0] ∧ Below w.heap.size w w') ⟨(Blk.new _ _ _).alloc _, Blk.new1 _ _ _ _, ((Below.refl _ _).alloc (Nat.le_refl _) _).alloc (by simp) _⟩ ?_
  rintro w1 ⟨hT1, hZ1, hb1⟩
  have FT := hT1.facts3
  go_wp2_with fail
  refine (tResize_own r put TA tn tc R HV.out.hn HV.out.hnc HV.out.hcm hr HV.out.h2 HV.out.h3 HV.out.hf (by have := HV.out.hs; omega) r hr R tn (fitR_same _ _ (by have := HV.out.hs; omega)) HV.out.hn _ (HV.out.below hb1).hr).mono ?_
  rintro e w4 ⟨A4, c4, rfl, hc4, hc4', hR4, hb4⟩
  have hT4 := hT1.carry hb4
  have hZ4 := hZ1.carry hb4
  have hb14 := hb1.trans (hb4.mono hb1.size)
  have hz1 : w.heap.size + 1 < w1.heap.size := hZ1.lt
  have hz4 : w1.heap.size ≤ w4.heap.size := hb4.size
  clear FT hT1 hZ1 hb1 hb4
  have FT := hT4.facts3
  go_upto_region 5 with (fail)
  obtain ⟨gY, hgY⟩ : ∃ q, w4.heap.size = q := ⟨_, rfl⟩
  refine wp_world (fun w' => AppT w w' gY r put R A4 tn c4 ⟨(tellB gs).take nb, 0⟩) ⟨?f1, ?f2, ?f3, ⟨⟨B, nb, cb, HB.out.hn, hcb, hcm, ?f4, HB.out.rd⟩, ?f5, ?f6⟩, HV.out.hn, ?f7⟩ ?_
  case f1 => exact ((((hT4.set_ 0 _).set_ 1 _).set_ 2 _).as (by rfl)).alloc _
  case f2 => exact (((hZ4.far (p := ⟨w.heap.size, 0, none⟩) (by show w.heap.size + 1 ≠ w.heap.size; omega) _).far (p := ⟨w.heap.size, 1, none⟩) (by show w.heap.size + 1 ≠ w.heap.size; omega) _).far (p := ⟨w.heap.size, 2, none⟩) (by show w.heap.size + 1 ≠ w.heap.size; omega) _).alloc _
  case f3 => exact (KeepO.set ((hT4.set_ 0 _).set_ 1 _) (by decide) 2 _ _ _ _ _ (KeepO.set (hT4.set_ 0 _) (by decide) 1 _ _ _ _ _ (KeepO.set hT4 (by decide) 0 _ _ _ _ _ (hR4.mono (by omega))))).alloc _
  case f4 => exact Blk.newQ (by simpa using hgY)
  case f5 => omega
  case f6 =>
    have h := hb14
    (repeat (first | with_reducible exact h | with_reducible refine Below.drew ?_ | (with_reducible refine Below.set4 ?_ ?side _ _ _ _; case side => (first | omega | (simp; omega) | (simp; done))) | (with_reducible refine Below.setCell ?_ ?side _; case side => (first | omega | (simp; omega) | (simp; done))) | (with_reducible refine Below.alloc ?_ ?side _; case side => (first | omega | (simp; omega) | (simp; done)))))
  case f7 => omega
  try rw [hgY]
  rintro w5 hE5
  have HE5 := Lib.hid hE5
  clear FT hT4 hZ4 hb14 hE5 hR4 hgY hz1 hz4
  go_loopw [7] (fun s7 wr => ∃ (g1 g2 : List Fld) (k2 : Nat) (A : Option Addr) (n c : Nat), s7 = .int .i64 0 ∧ gs = g1 ++ g2 ∧ (tellB g1).length + k2 = nb ∧ k2 ≤ (tellB g2).length ∧ m = g1.length + fitsN g2 k2 ∧ AppT w wr gY r (put + g1.length) (R ++ g1) A n c ⟨(tellB g2).take k2, 0⟩) (fun _ wr => eyeLen wr gY)
  case atStart => exact ⟨[], gs, nb, A4, tn, c4, rfl, rfl, by simp [tellB], HK.out, by simpa using HM.out.symm, by simpa using HE5.out⟩
  case round =>
    obtain ⟨g1, g2, k2, A, n, c, rfl, hgs, hk1, hk2, hmm, hE⟩ := hrel
    have HE := Lib.hid hE
    have HGS := Lib.hid hgs
    have HK1 := Lib.hid hk1
    have HMM := Lib.hid hmm
    have hg1 : ∀ f ∈ R ++ g1, FOk f := fun f hf => by
      rcases List.mem_append.1 hf with h1 | h1
      · exact HV.out.hf f h1
      · exact HG.out f (by rw [hgs]; exact List.mem_append_left _ h1)
    have hts : tsz (R ++ g1) ≤ r ∧ put + ((g1.length : Nat) : Int) ≤ 4611686018427387903 := by
      have h1 := HS.out
      have h2 := HPT.out
      rw [hgs] at h1 h2
      rw [← List.append_assoc, tsz_append] at h1
      rw [List.length_append] at h2
      push_cast at h2
      omega
    have hput : ((R ++ g1).length : Int) ≤ put + ((g1.length : Nat) : Int) := by rw [List.length_append]; push_cast; have := HV.out.h2; have := HV.out.hn; omega
    have HTAB : Hid (∀ w', AppT w w' gY r (put + g1.length) (R ++ g1) A n c ⟨(tellB g2).take k2, 0⟩ → TabV w' (r : Int) (put + g1.length) A n c (R ++ g1)) := Lib.hid (fun w' h => h.tab hr hput hts.2 hg1 hts.1)
    have hylen : ((tellB g2).take k2).length = k2 := by rw [List.length_take]; omega
    obtain ⟨BY, ny, cy, q1, q2, q3, hBY, hry⟩ := hE.hY.ex
    dsimp only at q1 hBY hry
    have hny : ny = k2 := by omega
    subst hny
    have FE := hBY.facts2E
    have HYR := Lib.hid hry
    have HEB := Lib.hid hE.hY.hb
    have hyl := hE.hY.elen
    rw [show (⟨(tellB g2).take ny, 0⟩ : YeD).b.length = ny from hylen] at hyl
    have HYL := Lib.hid hyl
    clear hE hgs hg1 hmm hry hBY HE5 HM hyl
    by_cases h0 : ny = 0
    ·
      -- [[fin
      subst h0
      have hm : m = g1.length := by have := HMM.out; rw [fitsN_zero] at this; omega
      have FT := HE.out.hT.facts3
      have FZ := HE.out.hZ.facts3
      clear hylen q1 HYR
      go_wp2_with fail
      subst hm
      have htk : gs.take g1.length = g1 := by rw [HGS.out, List.take_left]
      refine bodyPost_ret (v := .tuple #[.agg #[.int .i64 (r : Int), .int .i64 (put + (g1.length : Nat)), .slice A n c], .int .i64 (nb : Int), .int .i64 0]) ?_ rfl ⟨A, n, c, ?_, ?_, ?_⟩
      · simp [results, Try.results19, go_sem, FZ] <;> rfl
      · rw [htk, show (tellB g1).length = nb by omega]
      · rw [htk]
        have h := HTAB.out _ HE.out
        refine ⟨h.hn, h.hnc, h.hcm, h.h0, h.h1, h.h2, h.h3, h.hf, h.hs, ?_⟩
        exact (KeepO.set3 HE.out.hZ (by decide) _ _ _ _ _ _ _ HE.out.hR).rd
      · have h := HEB.out
        (repeat (first | with_reducible exact h | with_reducible refine Below.drew ?_ | (with_reducible refine Below.set4 ?_ ?side _ _ _ _; case side => (first | omega | (simp; omega) | (simp; done))) | (with_reducible refine Below.setCell ?_ ?side _; case side => (first | omega | (simp; omega) | (simp; done))) | (with_reducible refine Below.alloc ?_ ?side _; case side => (first | omega | (simp; omega) | (simp; done)))))
      -- ]]fin
    ·
      -- [[step
      obtain ⟨f, g3, rfl⟩ : ∃ f g3, g2 = f :: g3 := by
        cases g2 with
        | nil => simp [tellB] at hk2; omega
        | cons f g3 => exact ⟨f, g3, rfl⟩
      have hfok : FOk f := HG.out f (by rw [HGS.out]; simp)
      obtain ⟨ab, ao, hBY, hcell⟩ := (HYR.out.below HEB.out).cell (by omega)
      obtain ⟨bs, hbs⟩ : ∃ bs, (tellB (f :: g3)).take ny = bs := ⟨_, rfl⟩
      obtain ⟨ci, hci⟩ : ∃ ci : Nat, (bs.getD 0 0).toNat = ci := ⟨_, rfl⟩
      have hc0 := hcell 0 (by omega)
      rw [hbs, hci, Nat.add_zero] at hc0
      obtain ⟨x1, y1, hy1⟩ : ∃ x1 y1, yText 5 ⟨bs, 0⟩ = (x1, y1) := ⟨_, _, rfl⟩
      obtain ⟨x2, y2, hy2⟩ : ∃ x2 y2, yText 7 y1 = (x2, y2) := ⟨_, _, rfl⟩
      have key : (y2 = ⟨(tellB g3).take (ny - (tellF f).length), 0⟩ ∧ x1 = f.1 ∧ x2 = f.2 ∧ (tellF f).length ≤ ny) ∨ (y2.e = 4 ∧ ny < (tellF f).length) := by
        by_cases hw : (tellF f).length ≤ ny
        · left
          rw [tellB_cons, List.take_append, List.take_of_length_le hw] at hbs
          rw [← hbs, tellF_whole1 f hfok] at hy1
          injection hy1 with e1 e2
          rw [← e2, tellF_whole2 f hfok] at hy2
          injection hy2 with e3 e4
          exact ⟨e4.symm, e1.symm, e3.symm, hw⟩
        · right
          rw [tellB_cons, List.take_append_of_le_length (by omega)] at hbs
          have h := tellF_short f hfok ny (by omega)
          rw [hbs, hy1] at h
          dsimp only at h
          rw [hy2] at h
          exact ⟨h, by omega⟩
      have hrange : 64 ≤ ci ∧ ci < 96 := by
        rw [← hci, ← hbs]
        by_cases hw : (tellF f).length ≤ ny
        · rw [tellB_cons, List.take_append, List.take_of_length_le hw]
          exact tellF_head f _
        · rw [tellB_cons, List.take_append_of_le_length (by omega)]
          exact tellF_head_cut f ny (by omega)
      have HFOK := Lib.hid hfok
      have HKEY := Lib.hid key
      have HY1 := Lib.hid hy1
      have HY2 := Lib.hid hy2
      have hE1 := HE.out
      rw [hbs] at hE1
      have HE1 := Lib.hid hE1
      subst hBY
      have hn1 : (0 : Int) < (ny : Int) := by omega
      have hn2 : 0 < ny := by omega
      have d1 : decide ((64 : Int) ≤ (ci : Int)) = true := decide_eq_true (by omega)
      have d1' : decide (64 ≤ ci) = true := decide_eq_true hrange.1
      have d2 : decide ((ci : Int) < 96) = true := decide_eq_true (by omega)
      have d2' : decide (ci < 96) = true := decide_eq_true hrange.2
      have hnb : ny ≤ nb := by omega
      clear hcell hci hy1 hy2 key hfok hE1 HE hbs hylen q1 HYR
      go_upto_region 8 with (fail)
      clear hc0
      go_upto_region 11 with (fail)
      obtain ⟨gF, hgF⟩ : ∃ q, wr.heap.size = q := ⟨_, rfl⟩
      have hAlt : ∀ k, A.map (·.block) = some k → k < gF := fun k hk => by have := (HE1.out.hR.lt (n := n) k (by rw [blk_of]; exact hk)).2; omega
      have HALT := Lib.hid hAlt
      have hord : w.heap.size + 1 < gY ∧ gY < gF := ⟨HE1.out.g1, by have := HE1.out.hY.lt; omega⟩
      have hE2 := HE1.out.alloc (.cells #[.string ByteArray.empty, .string ByteArray.empty] 39)
      refine wp_world (fun w' => Blk w' gF 39 #[.string ByteArray.empty, .string ByteArray.empty] ∧ AppT w w' gY r (put + g1.length) (R ++ g1) A n c ⟨bs, 0⟩) ⟨?q1, ?q2⟩ ?_
      case q1 => exact Blk.newQ hgF
      case q2 => exact hE2
      try rw [hgF]
      clear hE2 hAlt hgF FE HE1
      rintro w6 ⟨hF6, hE6⟩
      have HF6 := Lib.hid hF6
      have HE6 := Lib.hid hE6
      clear hF6 hE6
      go_wp2_with fail
      refine (fText_any 5 (by decide) (by decide) w _ gY _ HE6.out.hY).mono ?_
      rw [HY1.out]
      rintro e w7 ⟨rfl, hY7, ho7⟩
      have hF7 := ho7.blk (by omega) HF6.out
      have HE7 := Lib.hid (HE6.out.eye hY7 ho7)
      have HF7 := Lib.hid hF7
      have FF := hF7.two
      clear HF6 HE6 hY7 ho7 hF7
      go_upto_region 12 with (fail)
      refine wp_world (fun w' => Blk w' gF 39 #[.string x1, .string ByteArray.empty] ∧ AppT w w' gY r (put + g1.length) (R ++ g1) A n c y1) ⟨(HF7.out.set_ 0 _).as (by rfl), HE7.out.far gF 0 _ hord.2 (fun k hk => by have := HALT.out k hk; omega)⟩ ?_
      rintro w8 ⟨hF8, hE8⟩
      have HF8 := Lib.hid hF8
      have HE8 := Lib.hid hE8
      clear hF8 hE8 HF7 HE7 FF
      go_wp2_with fail
      refine (fText_any 7 (by decide) (by decide) w _ gY _ HE8.out.hY).mono ?_
      rw [HY2.out]
      rintro e w9 ⟨rfl, hY9, ho9⟩
      have hF9 := ho9.blk (by omega) HF8.out
      have HE9 := Lib.hid (HE8.out.eye hY9 ho9)
      have HF9 := Lib.hid hF9
      have FF := hF9.two
      clear HF8 HE8 hY9 ho9 hF9
      go_upto_region 15 with (fail)
      refine wp_world (fun w' => Blk w' gF 39 #[.string x1, .string x2] ∧ AppT w w' gY r (put + g1.length) (R ++ g1) A n c y2) ⟨(HF9.out.set_ 1 _).as (by rfl), HE9.out.far gF 1 _ hord.2 (fun k hk => by have := HALT.out k hk; omega)⟩ ?_
      rintro w10 ⟨hF10, hE10⟩
      have HF10 := Lib.hid hF10
      have HE10 := Lib.hid hE10
      clear hF10 hE10 HF9 HE9 FF
      obtain ⟨AY, ny2, cy2, p1, p2, p3, hBY2, _⟩ := HE10.out.hY.ex
      have FE2 := hBY2.facts2E
      clear hBY2
      obtain ⟨b2, e2⟩ := y2
      rcases HKEY.out with ⟨k1, rfl, rfl, k4⟩ | ⟨k1, k2⟩
      ·
        -- [[whole
        injection k1 with k1 k5
        subst k1 k5
        dsimp only at FE2 p1
        have FF := HF10.out.two
        have FT := HE10.out.hT.facts3
        go_upto_region 22 with (fail)
        obtain ⟨gN, hgN⟩ : ∃ q, w10.heap.size = q := ⟨_, rfl⟩
        have hgFN : gF < gN := by have := HF10.out.lt; omega
        refine wp_world (fun w' => Blk w' gF 39 #[.string f.1, .string f.2] ∧ Blk w' gN 25 #[.int .i64 (r : Int), .int .i64 (put + (g1.length : Int)), .slice A n c] ∧ AppT w w' gY r (put + g1.length) (R ++ g1) A n c ⟨(tellB g3).take (ny - (tellF f).length), 0⟩) ⟨HF10.out.alloc _, Blk.newQ hgN, HE10.out.alloc _⟩ ?_
        try rw [hgN]
        clear HF10 HE10 FE2 FF FT hgN
        rintro w11 ⟨hF11, hN11, hE11⟩
        have HN11 := Lib.hid hN11
        have HE11 := Lib.hid hE11
        have FF := hF11.two
        have FT := hE11.hT.facts3
        have hTV := hE11.tab hr hput hts.2 (fun g hg => by
          rcases List.mem_append.1 hg with h1 | h1
          · exact HV.out.hf g h1
          · exact HG.out g (by rw [HGS.out]; exact List.mem_append_left _ h1)) hts.1
        have HTV := Lib.hid hTV
        have hsz := HS.out
        rw [HGS.out, ← List.append_assoc, tsz_append] at hsz
        have hfs : fsz f + tsz g3 = tsz (f :: g3) := rfl
        obtain ⟨p, hp⟩ : ∃ p, f.1.size + f.2.size + 32 = p := ⟨_, rfl⟩
        have hfp : fsz f = p := hp
        have HPS := Lib.hid hp
        have hpm : put + (g1.length : Int) < 4611686018427387903 := by
          have h2 := HPT.out
          rw [HGS.out, List.length_append, List.length_cons] at h2
          push_cast at h2
          omega
        have hfit : tsz (R ++ g1) + p ≤ r := by omega
        have HFIT := Lib.hid hfit
        clear hF11 hN11 hE11 hTV hsz hfs hp hfp hfit
        go_wp2_with fail
        refine (tInsert_own r (put + g1.length) A n c (R ++ g1) HTV.out.hn HTV.out.hnc HTV.out.hcm hr HTV.out.h2 hpm HTV.out.hf (by have := HTV.out.hs; omega) f.1 f.2 HFOK.out.1 HFOK.out.2.1 HFOK.out.2.2 p HPS.out (by have := HFIT.out; omega) (R ++ g1 ++ [f]) (n + 1) (by rw [fitR_same _ _ (by have := HFIT.out; omega)]) (by rw [List.length_append, HTV.out.hn]; rfl) _ HTV.out.hr).mono ?_
        rintro e w12 ⟨A12, c12, rfl, hc12, hc12', hO12, hb12⟩
        have HE12 := Lib.hid (HE11.out.carry hb12)
        have HO12 := Lib.hid hO12
        have hN12 := HN11.out.carry hb12
        have HN12 := Lib.hid hN12
        have hz11 : w.heap.size ≤ w11.heap.size := by have := HE11.out.hT.lt; omega
        have hn12 : (R ++ g1 ++ [f]).length = n + 1 := by rw [List.length_append, HTV.out.hn]; rfl
        have HN2 := Lib.hid hn12
        have FN := hN12.facts3
        clear HE11 HN11 FF FT HTV hO12 hb12 hN12 hn12
        go_upto_region 25 with (fail)
        refine wp_world (fun w' => Blk w' gN 25 #[.int .i64 (r : Int), .int .i64 (put + (g1.length : Int) + 1), .slice A12 (n + 1) c12] ∧ OwnX fcells 2 w' w11.heap.size 39 A12 c12 (R ++ g1 ++ [f]) ∧ AppT w w' gY r (put + g1.length) (R ++ g1) A n c ⟨(tellB g3).take (ny - (tellF f).length), 0⟩) ⟨?q1, ?q2, ?q3⟩ ?_
        case q1 => exact (((HN12.out.set_ 0 _).set_ 1 _).set_ 2 _).as (by rfl)
        case q2 => exact KeepO.set3 HN12.out (by decide) _ _ _ _ _ _ _ HO12.out
        case q3 => exact ((HE12.out.far gN 0 _ (by omega) (fun k hk => by have := HALT.out k hk; omega)).far gN 1 _ (by omega) (fun k hk => by have := HALT.out k hk; omega)).far gN 2 _ (by omega) (fun k hk => by have := HALT.out k hk; omega)
        rintro w13 ⟨hN13, hO13, hE13⟩
        have FN := hN13.facts3
        have FT := hE13.hT.facts3
        have HO13 := Lib.hid hO13
        have HE13 := Lib.hid hE13
        clear HE12 HO12 HN12 hN13 hO13 hE13
        go_wp2_with fail
        go_roundw
        case rel =>
          refine ⟨g1 ++ [f], g3, ny - (tellF f).length, A12, n + 1, c12, rfl, by rw [HGS.out]; simp, ?_, ?_, ?_, ?_⟩
          · rw [tellB_snoc, List.length_append]; have := HK1.out; omega
          · rw [tellB_cons, List.length_append] at hk2; omega
          · have h := HMM.out
            unfold fitsN at h
            rw [if_pos k4] at h
            rw [List.length_append, List.length_singleton]; omega
          · have h := HE13.out.setT HO13.out hz11 HN2.out (put + g1.length + 1)
            have e1 : (((g1 ++ [f]).length : Nat) : Int) = g1.length + 1 := by rw [List.length_append]; push_cast; rfl
            rw [e1, ← Int.add_assoc, ← List.append_assoc]
            exact h
        case measure =>
          have h := (HE13.out.setT HO13.out hz11 HN2.out (put + g1.length + 1)).hY.elen
          have h2 : eyeLen wr gY = ny := HYL.out
          have h3 := tellF_len f
          rw [h2]
          refine Nat.lt_of_le_of_lt (Nat.le_of_eq h) ?_
          simp only [List.length_take]
          omega
        -- ]]whole
      ·
        -- [[short
        dsimp only at k1
        subst k1
        dsimp only at FE2 p1
        have hm : m = g1.length := by have h := HMM.out; unfold fitsN at h; rw [if_neg (by omega)] at h; omega
        have FT := HE10.out.hT.facts3
        have FZ := HE10.out.hZ.facts3
        go_wp2_with fail
        subst hm
        have htk : gs.take g1.length = g1 := by rw [HGS.out, List.take_left]
        refine bodyPost_ret (v := .tuple #[.agg #[.int .i64 (r : Int), .int .i64 (put + (g1.length : Nat)), .slice A n c], .int .i64 (((tellB g1).length : Nat) : Int), .int .i64 0]) ?_ rfl ⟨A, n, c, ?_, ?_, ?_⟩
        · simp [results, Try.results19, go_sem, FZ] <;> omega
        · rw [htk]
        · rw [htk]
          have h := HE10.out.tab hr hput hts.2 (fun g hg => by
            rcases List.mem_append.1 hg with h1 | h1
            · exact HV.out.hf g h1
            · exact HG.out g (by rw [HGS.out]; exact List.mem_append_left _ h1)) hts.1
          refine ⟨h.hn, h.hnc, h.hcm, h.h0, h.h1, h.h2, h.h3, h.hf, h.hs, ?_⟩
          exact (KeepO.set3 HE10.out.hZ (by decide) _ _ _ _ _ _ _ HE10.out.hR).rd
        · have h := HE10.out.hY.hb
          (repeat (first | with_reducible exact h | with_reducible refine Below.drew ?_ | (with_reducible refine Below.set4 ?_ ?side _ _ _ _; case side => (first | omega | (simp; omega) | (simp; done))) | (with_reducible refine Below.setCell ?_ ?side _; case side => (first | omega | (simp; omega) | (simp; done))) | (with_reducible refine Below.alloc ?_ ?side _; case side => (first | omega | (simp; omega) | (simp; done)))))
        -- ]]short
      -- ]]step
end Go.Proofs.Ytdmonacekjcedaa
