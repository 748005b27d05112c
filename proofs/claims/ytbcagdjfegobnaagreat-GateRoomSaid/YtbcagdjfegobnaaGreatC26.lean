/- Texts of the proof, laid together: FrameRows FrameAllWalk. -/
import Derived.Test.YtbcagdjfegobnaaGreatC16
import Derived.Test.YtbcagdjfegobnaaGreatC25
/- Frames in rows; all frames of bytes (plain). -/
namespace Go.Proofs.YtbcagdjfegobnaaGreat
open Go.RowKit
set_option linter.unusedVariables false

/-- A frame as_v it lies in memory. -/
structure FrM where
  f : FrD
  A : Option Addr
  c : Nat
  B : Option Addr
  d : Nat
def fmc (x : FrM) : List Value := [.int .i64 x.f.kind, .int .i64 x.f.id, .int .i64 x.f.off, .bool x.f.fin, .int .i64 x.f.code, .slice x.A x.f.rngs.length x.c, .slice x.B x.f.data.length x.d]
def fmn : FrM := ⟨fnil, none, 0, none, 0⟩
theorem fmc_len (x : FrM) : (fmc x).length = 7 := rfl
theorem fmc_one (x : FrM) : ∀ u ∈ fmc x, u.oneCell' = true := by
  intro u hu
  simp only [fmc, List.mem_cons, List.not_mem_nil, or_false] at hu
  rcases hu with rfl | rfl | rfl | rfl | rfl | rfl | rfl <;> rfl
/-- Its ranges and data. -/
def FrX (w : World) (x : FrM) : Prop := RdX rcells 2 w x.A x.f.rngs ∧ RdB w x.B x.f.data ∧ x.f.rngs.length ≤ x.c ∧ x.c ≤ 9223372036854775807 ∧ x.f.data.length ≤ x.d ∧ x.d ≤ 9223372036854775807
theorem FrX.below {w w' : World} {x : FrM} (h : FrX w x) (hb : Below w.heap.size w w') : FrX w' x := ⟨RdX.below h.1 hb, h.2.1.below hb, h.2.2⟩
/-- A row of frames of the call's own. -/
def FrRow (w : World) (base : Nat) (A : Option Addr) (c : Nat) (xs : List FrM) : Prop := OwnX fmc 7 w base 68 A c xs ∧ ∀ x ∈ xs, FrX w x ∧ InOff w (A.map (·.block)) x.A ∧ InOff w (A.map (·.block)) x.B
theorem FrRow.nil (w : World) (base : Nat) : FrRow w base none 0 [] := ⟨OwnX.nil _ _ _, fun x hx => absurd hx List.not_mem_nil⟩
theorem FrRow.below {w w' : World} {base : Nat} {A : Option Addr} {c : Nat} {xs : List FrM} (h : FrRow w base A c xs) (hb : Below w.heap.size w w') : FrRow w' base A c xs :=
  ⟨h.1.carry hb, fun x hx => ⟨(h.2 x hx).1.below hb, (h.2 x hx).2.1.keep hb.size, (h.2 x hx).2.2.keep hb.size⟩⟩
theorem FrRow.snoc {w w' : World} {base : Nat} {A : Option Addr} {c g cap : Nat} {xs : List FrM} {x : FrM} (h : FrRow w base A c xs) (hx : FrX w x) (hA : InOff w (A.map (·.block)) x.A) (hB : InOff w (A.map (·.block)) x.B)
    (ho : OwnX fmc 7 w' base 68 (some ⟨g, 0, none⟩) cap (xs ++ [x])) (hg : w.grownBy w' (A.map (·.block))) (hl : A.map (·.block) = some g ∨ g = w.heap.size) (hs : w.heap.size ≤ w'.heap.size) : FrRow w' base (some ⟨g, 0, none⟩) cap (xs ++ [x]) := by
  refine ⟨ho, fun y hy => ?_⟩
  have hb : ∀ k, (some (⟨g, 0, none⟩ : Addr)).map (·.block) = some k → A.map (·.block) = some k ∨ w.heap.size ≤ k := fun k hk => by
    have hk : g = k := Option.some.inj hk
    subst hk
    rcases hl with h1 | h1
    · exact .inl h1
    · exact .inr (by omega)
  have hy' : FrX w y ∧ InOff w (A.map (·.block)) y.A ∧ InOff w (A.map (·.block)) y.B := by
    rcases List.mem_append.1 hy with h1 | h1
    · exact h.2 y h1
    · rw [List.mem_singleton.1 h1]; exact ⟨hx, hA, hB⟩
  obtain ⟨⟨a1, a2, a3⟩, b1, b2⟩ := hy'
  exact ⟨⟨Rd.grown a1 b1 hg, Rd.grown a2 b2 hg, a3⟩, b1.grow hs hb, b2.grow hs hb⟩
/-- A row of frames that is read. -/
def FrRd (w : World) (A : Option Addr) (xs : List FrM) : Prop := RdX fmc 7 w A xs ∧ ∀ x ∈ xs, FrX w x
theorem FrRow.rd {w : World} {base : Nat} {A : Option Addr} {c : Nat} {xs : List FrM} (h : FrRow w base A c xs) : FrRd w A xs := ⟨h.1.rd, fun x hx => (h.2 x hx).1⟩
theorem FrRd.below {w w' : World} {A : Option Addr} {xs : List FrM} (h : FrRd w A xs) (hb : Below w.heap.size w w') : FrRd w' A xs := ⟨RdX.below h.1 hb, fun x hx => (h.2 x hx).below hb⟩
theorem FrRd.at_ {w : World} {A : Option Addr} {xs : List FrM} (h : FrRd w A xs) (hn : 0 < xs.length) : ∃ b off, A = some ⟨b, off, none⟩ ∧ ∀ k, k < xs.length → ∀ j v, j < 7 → (fmc (xs.getD k fmn))[j]? = some v → w.cell? ⟨b, off + k * 7 + j, none⟩ = some v := RdX.at_ fmc_len h.1 fmn hn

/-! ### all frames of bytes -/
def fallN : Nat → List FrD → List UInt8 → List FrD × Int
  | 0, acc, _ => (acc, 0)
  | k + 1, acc, bs =>
    if bs = [] then (acc, 0) else if acc.length = 12 then ([], 8) else if (fdec bs).2.2 ≠ 0 then ([], (fdec bs).2.2) else fallN k (acc ++ [(fdec bs).1]) (bs.drop (fdec bs).2.1)
/-- All frames of bytes, and what is wrong. -/
def fall (bs : List UInt8) : List FrD × Int := fallN 13 [] bs
theorem fenc_ne (f : FrD) (ok : FrOk f) : fenc f ≠ [] := by
  have h := (encB_le8 (fkind f) (by have := (fkind_cases f ok).1; omega)).2
  intro e
  have h2 : (fenc f).length = 0 := by rw [e]; rfl
  unfold fenc at h2
  simp only [List.length_append] at h2; omega
theorem fallN_back (k : Nat) (acc fs : List FrD) (hk : acc.length + k = 13) (ok : ∀ f ∈ fs, FrOk f) : fallN k acc (fs.flatMap fenc) = if acc.length + fs.length ≤ 12 then (acc ++ fs, 0) else if k = 0 then (acc, 0) else ([], 8) := by
  induction k generalizing acc fs with
  | zero => rw [if_neg (by omega)]; rfl
  | succ k ih =>
    cases fs with
    | nil => rw [if_pos (by simp; omega)]; simp [fallN]
    | cons f fs =>
      have h1 := fenc_ne f (ok f List.mem_cons_self)
      have h2 : (f :: fs).flatMap fenc ≠ [] := by
        rw [List.flatMap_cons]; intro e; exact h1 (List.append_eq_nil_iff.1 e).1
      rw [fallN, if_neg h2]
      by_cases h12 : acc.length = 12
      · rw [if_pos h12, if_neg (by simp; omega), if_neg (by omega)]
      · rw [if_neg h12]
        have hd := fdec_back f (ok f List.mem_cons_self) (fs.flatMap fenc)
        rw [List.flatMap_cons, hd]
        simp only [ne_eq, not_true_eq_false, if_false, List.drop_left]
        rw [ih (acc ++ [f]) fs (by simp; omega) (fun g hg => ok g (List.mem_cons_of_mem _ hg))]
        simp only [List.length_append, List.length_cons, List.length_nil, List.append_assoc, List.cons_append, List.nil_append]
        by_cases h : acc.length + (0 + 1) + fs.length ≤ 12
        · rw [if_pos h, if_pos (by omega)]
        · rw [if_neg h, if_neg (by omega), if_neg (show ¬ k + 1 = 0 by omega), if_neg (by omega)]
/-- Frames one behind the other are read so, up to twelve. -/
theorem fall_back (fs : List FrD) (ok : ∀ f ∈ fs, FrOk f) : fall (fs.flatMap fenc) = if fs.length ≤ 12 then (fs, 0) else ([], 8) := by
  have h := fallN_back 13 [] fs rfl ok
  simpa [fall] using h
end Go.Proofs.YtbcagdjfegobnaaGreat
/- The contract of frame.All. -/
namespace Go.Proofs.YtbcagdjfegobnaaGreat
open Go.ChangeShapes Go.WideShapes Go.ChangeAt Go.RowKit
set_option linter.unusedVariables false

theorem frInfo : (Tryz.prog.info? 68).map (fun i => (i.zero, i.size, i.bytes)) = some (some (.agg #[.int .i64 0, .int .i64 0, .int .i64 0, .bool false, .int .i64 0, .slice none 0 0, .slice none 0 0]), 7, 88) := by kernel_rfl
def sliceLen : Value → Nat
  | .slice _ n _ => n
  | _ => 0
/-- What All answers. -/
def AllOut (w : World) (fs : List FrD) (E : Int) (e : Ending) (w' : World) : Prop := ∃ (A : Option Addr) (k c : Nat) (xs : List FrM), e = .returned (.tuple #[.slice A k c, .int .i64 E]) ∧ xs.map (·.f) = fs ∧ xs.length = k ∧ FrRow w' w.heap.size A c xs ∧ Below w.heap.size w w'

set_option maxRecDepth 100000 in
set_option maxHeartbeats 4000000 in
theorem fAll_any (A : Option Addr) (bs : List UInt8) (n c : Nat) (w : World) (hn : bs.length = n) (hr : RdB w A bs) (hnc : n ≤ c) (hcm : c ≤ 9223372036854775807) (hN : n ≤ 140737488355328) :
    Calls Tryz.prog 67 #[.slice A n c] w (AllOut w (fall bs).1 (fall bs).2) := by
  have HNB := Lib.hid hn
  have HRB := Lib.hid hr
  clear hn hr
  go_enter Tryz.func67, Tryz.ntmps67
  go_wp2_with fail
  go_loopw [0, 4] (fun s0 s4 wr => ∃ (i : Nat) (D : Option Addr) (m d : Nat) (ds : List UInt8) (Ao : Option Addr) (co : Nat) (xs : List FrM), s0 = .slice D m d ∧ s4 = .slice Ao i co ∧ ds.length = m ∧ m ≤ d ∧ d ≤ 9223372036854775807 ∧ m ≤ 140737488355328 ∧ RdB w D ds ∧ FrRow wr w.heap.size Ao co xs ∧ xs.length = i ∧ i ≤ 12 ∧ Below w.heap.size w wr ∧ fallN (13 - i) (xs.map (·.f)) ds = fall bs) (fun _ s4 _ => 13 - sliceLen s4)
  case atStart => exact ⟨0, A, n, c, bs, none, 0, [], rfl, rfl, HNB.out, hnc, hcm, hN, HRB.out, FrRow.nil _ _, rfl, by decide, Below.refl _ _, rfl⟩
  case round =>
    obtain ⟨i, D, m, d, ds, Ao, co, xs, rfl, rfl, hm, hmd, hdm, hmN, hrd, hrow, hxl, hi, hb, hfl⟩ := hrel
    have HM := Lib.hid hm
    have HRD := Lib.hid hrd
    have HROW := Lib.hid hrow
    have HXL := Lib.hid hxl
    have HB := Lib.hid hb
    have HFL := Lib.hid hfl
    have hxm : (xs.map (·.f)).length = i := by rw [List.length_map, hxl]
    have HXM := Lib.hid hxm
    clear hm hrd hrow hxl hb hfl hxm
    by_cases h0 : m = 0
    · subst h0
      have hds : ds = [] := List.eq_nil_of_length_eq_zero HM.out
      have hf : fall bs = (xs.map (·.f), 0) := by
        rw [← HFL.out, hds, show 13 - i = (12 - i) + 1 by omega, fallN, if_pos rfl]
      have HF := Lib.hid hf
      clear hds hf
      go_wp2_with fail
      go_ret2
      rw [HF.out]
      exact ⟨Ao, i, co, xs, rfl, rfl, HXL.out, HROW.out, HB.out⟩
    · have hm0 : (0 : Int) < (m : Int) := by omega
      have hdne : ds ≠ [] := by intro e; have := HM.out; rw [e] at this; exact h0 this.symm
      have HDNE := Lib.hid hdne
      clear hdne h0
      by_cases h12 : i = 12
      · have hf : fall bs = ([], 8) := by
          rw [← HFL.out, show 13 - i = (12 - i) + 1 by omega, fallN, if_neg HDNE.out, if_pos (by rw [HXM.out]; exact h12)]
        have HF := Lib.hid hf
        subst h12
        clear hf
        go_wp2_with fail
        go_ret2
        rw [HF.out]
        exact ⟨none, 0, 0, [], rfl, rfl, rfl, FrRow.nil _ _, HB.out⟩
      · have hne12 : ((i : Int) == 12) = false := by simp; omega
        have hi12 : i + 1 ≤ 12 := by omega
        have hfs : fallN (13 - i) (xs.map (·.f)) ds = if (fdec ds).2.2 ≠ 0 then ([], (fdec ds).2.2) else fallN (13 - (i + 1)) (xs.map (·.f) ++ [(fdec ds).1]) (ds.drop (fdec ds).2.1) := by
          rw [show 13 - i = (13 - (i + 1)) + 1 by omega, fallN, if_neg HDNE.out, if_neg (by rw [HXM.out]; exact h12)]
        rw [HFL.out] at hfs
        have HFS := Lib.hid hfs
        have hok := @fdec_ok ds
        have hdc := fDec_in D ds m d
        obtain ⟨⟨f, u, E⟩, hfd⟩ : ∃ r, fdec ds = r := ⟨_, rfl⟩
        rw [hfd] at HFS hok
        simp only [hfd] at hdc
        simp only at HFS hok
        have HOK := Lib.hid hok
        have HDC := Lib.hid (fun W (hW : Below w.heap.size w W) => hdc W HM.out (HRD.out.below hW) hmd hdm hmN)
        clear hfs hok hdc hfd HFL HDNE h12
        go_wp2_with fail
        refine (HDC.out _ HB.out).mono ?_
        rintro e w5 ⟨A5, c5, B5, d5, rfl, hA5, hB5, hc5, hcm5, hd5, hdm5, hb5, hiA, hiB⟩
        simp only [frcells]
        have hlt := fun k hk => (HROW.out.1.lt (n := i) k (by rw [blk_of]; exact hk)).2
        have hzb := hb5.size
        go_upto_region 6 with (fail)
        refine wp_world (fun w' => Blk w' w5.heap.size 68 #[.int .i64 f.kind, .int .i64 f.id, .int .i64 f.off, .bool f.fin, .int .i64 f.code, .slice A5 f.rngs.length c5, .slice B5 f.data.length d5] ∧ FrX w' ⟨f, A5, c5, B5, d5⟩ ∧ InOff w' (Ao.map (·.block)) A5 ∧ InOff w' (Ao.map (·.block)) B5 ∧ FrRow w' w.heap.size Ao co xs ∧ Below w.heap.size w w')
          ⟨Blk.new _ _ _, ⟨Rd.alloc hA5 _, Rd.alloc hB5 _, hc5, hcm5, hd5, hdm5⟩, (InOff.fresh hiA hlt).keep (by simp), (InOff.fresh hiB hlt).keep (by simp), (HROW.out.below hb5).below ((Below.refl _ _).alloc (Nat.le_refl _) _), (HB.out.trans (hb5.mono HB.out.size)).alloc (HB.out.trans (hb5.mono HB.out.size)).size _⟩ ?_
        generalize w5.heap.size = g5 at *
        clear hA5 hB5 hc5 hcm5 hd5 hdm5 hb5 hiA hiB hlt hzb HROW HB HDC
        rintro w6 ⟨hG, hX, hIA, hIB, hrow, hb⟩
        have FG := Blk.factsD hG
        have HX := Lib.hid hX
        have HIA := Lib.hid hIA
        have HIB := Lib.hid hIB
        have HROW := Lib.hid hrow
        have HB := Lib.hid hb
        clear hG hX hIA hIB hrow hb
        by_cases hE : E = 0
        · subst hE
          have hfs := HFS.out
          rw [if_neg (by decide)] at hfs
          have HFS2 := Lib.hid hfs
          obtain ⟨_, hu1, hu2⟩ := HOK.out rfl
          rw [HM.out] at hu2
          have hu0 : (0 : Int) ≤ (u : Int) := by omega
          have hum : (u : Int) ≤ (m : Int) := by omega
          have hud : (u : Int) ≤ (d : Int) := by omega
          obtain ⟨D2, hD2⟩ : ∃ D2, (if d = u then D else Option.map (fun x => x.add u) D) = D2 := ⟨_, rfl⟩
          have hcut := RdB.cut (k := u) (cap := d) HRD.out (by rw [HM.out]; exact hu2) (by rw [HM.out]; exact hmd)
          have HCUT : Hid (RdB w D2 (ds.drop u)) := by rw [← hD2]; exact hcut
          have hz := HB.out.size
          clear hfs hu1 hcut HFS HOK HRD
          go_wp2_with (at_builtin
                       refine wpList_addN fmc 7 88 fmc_len fmc_one rfl (.tmp 23) (.tmp 25) _ rfl 68 _ Tryz.underlying41 frInfo rfl (by decide) (by decide) w.heap.size Ao i co xs HXL.out rfl (HROW.out.1.alloc _) ⟨f, A5, c5, B5, d5⟩ w6.heap.size 1 rfl (Rd.new _ _ _ 7 rfl) (i + 1) rfl (by omega) (by simp; omega) ?_
                       intro g8 c8 w8 hO8 hc8 hm8 hb8 hg8 hl8 hz8)
          go_roundw
          case rel =>
            refine ⟨i + 1, D2, m - u, d - u, ds.drop u, some ⟨g8, 0, none⟩, c8, xs ++ [⟨f, A5, c5, B5, d5⟩], by first | rfl | (congr 1; omega), rfl, by rw [List.length_drop, HM.out], by omega, by omega, by omega, HCUT.out, ?_, by rw [List.length_append, HXL.out]; rfl, by omega, (HB.out.alloc hz _).trans hb8, ?_⟩
            · have hal : ∀ o, Below w6.heap.size w6 (w6.alloc o) := fun o => (Below.refl _ _).alloc (Nat.le_refl _) _
              exact (HROW.out.below (hal _)).snoc (HX.out.below (hal _)) (HIA.out.keep (hal _).size) (HIB.out.keep (hal _).size) hO8 hg8 hl8 hb8.size
            · rw [HFS2.out, List.map_append]; rfl
          case measure => simp [sliceLen]; omega
        · have hne : (E == 0) = false := by simp [hE]
          have hfs := HFS.out
          rw [if_pos hE] at hfs
          have HF := Lib.hid hfs
          clear hfs hE HFS HOK
          go_wp2_with fail
          go_ret2
          rw [HF.out]
          exact ⟨none, 0, 0, [], rfl, rfl, rfl, FrRow.nil _ _, HB.out⟩
end Go.Proofs.YtbcagdjfegobnaaGreat
