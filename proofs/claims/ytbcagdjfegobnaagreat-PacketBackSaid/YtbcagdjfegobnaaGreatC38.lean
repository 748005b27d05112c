/- Texts of the proof, laid together: Gate8a Gate8 Gate9. -/
import Derived.Test.YtbcagdjfegobnaaGreatC36
import Derived.Test.YtbcagdjfegobnaaGreatC37
/- Gates whose connections have just begun: what desk.first needs. -/
namespace Go.Proofs.YtbcagdjfegobnaaGreat
open Go.ChangeShapes Go.WideShapes Go.ChangeAt Go.RowKit
set_option linter.unusedVariables false

theorem beB8_len (y : Nat) : (beB 8 y).length = 8 := beB_length _ _
/-- The frame of a greeting, as_v it lies in memory. -/
def hfm (y : Nat) (D : Option Addr) (dc : Nat) : FrM := ⟨helloFr y, none, 0, D, dc⟩
def hfc (D : Option Addr) (dc : Nat) : Array Value := #[.int .i64 6, .int .i64 0, .int .i64 0, .bool false, .int .i64 0, .slice none 0 0, .slice D 8 dc]
theorem hfc_eq (y : Nat) (D : Option Addr) (dc : Nat) : fmc (hfm y D dc) = (hfc D dc).toList := by
  simp [fmc, hfm, hfc, helloFr, beB_length]
theorem RdX.oneF (w : World) (E : TypeId) (y : Nat) (D : Option Addr) (dc : Nat) : RdX fmc 7 (w.alloc (.cells (hfc D dc) E)) (some ⟨w.heap.size, 0, none⟩) [hfm y D dc] := by
  have hB := Blk.new w E (hfc D dc)
  refine ⟨by simp [fmc_len], fun _ => ⟨w.heap.size, 0, rfl, fun j u hu => ?_⟩⟩
  rw [hB.cell, Nat.zero_add]
  simp only [List.flatMap_cons, List.flatMap_nil, List.append_nil, hfc_eq] at hu
  simpa using hu
theorem RdB.blk {w : World} {g : Nat} {t : TypeId} {bs : List UInt8} (h : Blk w g t (u8s bs).toArray) : RdB w (some ⟨g, 0, none⟩) bs := by
  refine ⟨by simp [u8s], fun _ => ⟨g, 0, rfl, fun j u hu => ?_⟩⟩
  rw [h.cell, Nat.zero_add]
  simpa using hu
/-- The packet of a greeting. -/
theorem greet_any (key : Int) (hk0 : 0 ≤ key) (hk1 : key < 18446744073709551616) (t f : Nat) (ht : t ≤ 255) (hf : f ≤ 255) (T : Option Addr) (tn tc : Nat) (tok : List UInt8) (htn : tok.length = tn) (htk : tn ≤ 63) (y : Nat) (D : Option Addr) (dc : Nat) (h8 : 8 ≤ dc) (hd : dc ≤ 9223372036854775807) (L : Option Addr) (w : World)
    (hT : RdB w T tok) (hL : RdX fmc 7 w L [hfm y D dc]) (hD : RdB w D (beB 8 y)) :
    Calls Tryz.prog 23 #[.int .u64 key, .agg #[.int .i64 (0 : Nat), .int .i64 t, .int .i64 f, .slice T tn tc, .int .i64 0, .int .i64 0], .int .i64 (0 : Nat), .int .i64 (-1), .slice L 1 1] w fun e w' =>
      ∃ A c, e = .returned (.tuple #[.slice A (24 + tn) c, .int .i64 0]) ∧ OwnX u8c 1 w' w.heap.size 5 A c (greetB key t f tok y) ∧ Below w.heap.size w w' := by
  have h := packet_any key hk0 hk1 ⟨0, t, f, tok, 0, 0⟩ (greet_head t f tok ht hf (by omega)) T tn tc htn 0 0 0 (by decide) (-1) (by decide) (by decide) (by decide) L 1 1 [hfm y D dc] rfl (by decide) (by decide) (by decide) (fun x hx => by rw [List.mem_singleton.1 hx]; exact helloFr_ok y) w hT
    ⟨hL, fun x hx => by rw [List.mem_singleton.1 hx]; exact ⟨Rd.nil, hD, by simp [hfm, helloFr], by simp [hfm], by simp [hfm, helloFr, beB_length]; exact h8, hd⟩⟩
  have hl := greetB_len key t f tok y (by omega)
  refine h.mono ?_
  rintro e w' ⟨(⟨h1, _⟩ | ⟨_, A, k, c, rfl, hk, hO⟩), hb⟩
  · exfalso
    have : (greetB key t f tok y).length > 400 := h1
    omega
  · have hk : (greetB key t f tok y).length = k := hk
    obtain rfl : k = 24 + tn := by omega
    exact ⟨A, c, rfl, hO.x, hb⟩
section
variable {w w' : World} {base gd : Nat} {g : GtD} {A : Option Addr} {n c : Nat} {xs : List NtB} {O : Option Addr} {m co : Nat} {ms : List MlB}
/-- .. when one note more is written. -/
theorem DkV.note (h : DkV w base gd g A n c xs O m co ms) {A' : Option Addr} {c' : Nat} {y : NtB} (hO : OwnX ntc 29 w' base 53 A' c' (xs ++ [y])) (hg : w.grownBy w' (A.map (·.block)))
    {w2 : World} (hB : Blk w2 gd 133 (dkc g A' (n + 1) c' O m co)) (hw : Wr gd w' w2) : DkV w2 base gd g A' (n + 1) c' (xs ++ [y]) O m co ms := by
  have hgd : some gd ≠ A.map (·.block) := fun e => by
    cases hO' : A with
    | none => rw [hO'] at e; cases e
    | some a => rw [hO'] at e; exact own_ne h.nt h.d (by decide) a hO' (Option.some.inj e).symm
  have hd : Blk w' gd 133 (dkc g A n c O m co) := h.d.grown hg hgd
  have hm := h.ml.grown hg (own_apartE h.ml h.nt (by decide))
  refine ⟨by rw [List.length_append, h.hn]; rfl, h.hm, h.hg, hB, hO.wr hw (own_ne hO hd (by decide)), hm.wr hw (own_ne hm hd (by decide)), fun y hy => ?_⟩
  have h1 := h.dat y hy
  have h2 := h1.1.grown hg (own_apartE h1.1 h.nt (by decide))
  exact ⟨h2.wr hw (own_ne h2 hd (by decide)), h1.2⟩
theorem DkV.gd_ne (h : DkV w base gd g A n c xs O m co ms) : some gd ≠ A.map (·.block) := fun e => by
  cases hO' : A with
  | none => rw [hO'] at e; cases e
  | some a => rw [hO'] at e; exact own_ne h.nt h.d (by decide) a hO' (Option.some.inj e).symm
end
end Go.Proofs.YtbcagdjfegobnaaGreat
/- Gates whose connections have just begun: the contract of desk.first where no token is asked for. -/
namespace Go.Proofs.YtbcagdjfegobnaaGreat
open Go.ChangeShapes Go.WideShapes Go.ChangeAt Go.RowKit
set_option linter.unusedVariables false

theorem getD_end {α : Type} (xs : List α) (y d : α) (n : Nat) (h : xs.length = n) : (xs ++ [y]).getD n d = y := by subst h; simp [List.getD]
theorem nta_id (x : NtB) : (nta x)[0]? = some (.int .i64 x.id) := by
  unfold nta
  rw [Array.getElem?_append_left (by simp)]
  rfl
theorem Blk.two2 {w : World} {q : Nat} {E : TypeId} {a b c d e f : Value} (h : Blk w q E #[a, b, c, d, e, f]) : w.cell? ⟨q, 2, none⟩ = some c := by rw [h.cell]; rfl
theorem Blk.one0 {w : World} {q : Nat} {E : TypeId} {a : Value} (h : Blk w q E #[a]) : w.cell? ⟨q, 0, none⟩ = some a := by rw [h.cell]; rfl
theorem Blk.ne {w : World} {q g : Nat} {E t : TypeId} {cs ds : Array Value} (h : Blk w q E cs) (k : Blk w g t ds) (hne : E ≠ t) : q ≠ g := fun e => by
  subst e
  have h1 : some (Obj.cells cs E (0, 0)) = some (Obj.cells ds t (0, 0)) := (show w.heap[q]? = _ from h).symm.trans k
  injection h1 with h1; injection h1 with h1 h2; exact hne h2
theorem own_apartB {α : Type} {f : α → List Value} {m base : Nat} {E t : TypeId} {w : World} {A : Option Addr} {c : Nat} {xs : List α} {g : Nat} {cs : Array Value} (h : OwnX f m w base E A c xs) (hg : Blk w g t cs) (hne : E ≠ t) : some g ≠ A.map (·.block) := fun e => by
  cases hO' : A with
  | none => rw [hO'] at e; cases e
  | some a => rw [hO'] at e; exact own_ne h hg hne a hO' (Option.some.inj e).symm
/-- The note of who greets. -/
def newN (g : GtD) (f p x : Nat) (cA : Option Addr) (cc : Nat) (cB : Option Addr) (cd : Nat) : NtB :=
  ⟨g.next, f, p, sessI x (keyI g.secret g.next), false, g.now, bg0 false cA cc cB cd g.now 0 4, rfl, bg0_one _ _ _ _ _ _ _ _⟩
def GtD.up (g : GtD) : GtD := { g with next := g.next + 1 }

set_option maxRecDepth 100000 in
set_option maxHeartbeats 2000000 in
theorem first_new (p : Nat) (hp : p < 4) (t f x : Nat) (ht : t ≤ 255) (hf : f ≤ 255) (hx : x < 18446744073709551616) (T : Option Addr) (tn tc : Nat) (tok : List UInt8) (htn : tok.length = tn) (htk : tn ≤ 63) (U : Nat) (hU : (pktHd ⟨0, t, f, tok, 0, 0⟩ 1 0).length = U)
    (B : Option Addr) (bc : Nat) (hbc : 24 + tn ≤ bc) (hbm : bc ≤ 9223372036854775807) (base gd : Nat) (g : GtD) (A : Option Addr) (n c : Nat) (xs : List NtB) (O : Option Addr) (m co : Nat) (hm10 : m ≤ 100) (ms : List MlB)
    (ok : TlyOk (g.t p)) (h1 : (g.t p).2.1 ≤ 1099511627376) (h3 : (g.t p).2.2 ≤ 1099511627376) (h5 : (g.t p).1 = true ∨ (g.t p).2.2 + 24 ≤ 3 * (g.t p).2.1)
    (s0 : 0 ≤ g.secret) (s1 : g.secret < 18446744073709551616) (n0 : 0 ≤ g.now) (n1 : g.now ≤ 1099511627776) (nx : Nat) (hnx : g.next = nx) (hnx5 : nx ≤ 255) (hn : n ≤ 1) (hret : g.retry = false) (hnot : xs.any (fun x => decide (x.peer = p) && decide (x.from_ = f)) = false)
    (w : World) (h : DkV w base gd g A n c xs O m co ms) (hbase : base ≤ w.heap.size) (hB : RdB w B (greetB (keyI 1 f) t f tok x)) :
    Calls Tryz.prog 60 #[.pointer (some ⟨gd, 0, none⟩), .int .i64 p, .agg #[.int .i64 (0 : Nat), .int .i64 t, .int .i64 f, .slice T tn tc, .int .i64 (0 : Nat), .int .i64 (1 : Nat)], .int .i64 (U : Nat), .slice B (24 + tn) bc] w fun e w' => e = .returned (.int .i64 0) ∧
      (∃ A' c' O' co' D dc cA cc cB cd, cc ≤ 9223372036854775807 ∧ cd ≤ 9223372036854775807 ∧ DkV w' base gd (g.up.set p ((g.t p).1, (g.t p).2.1, (g.t p).2.2 + 24)) A' (n + 1) c' (xs ++ [newN g f p x cA cc cB cd]) O' (m + 1) co' (ms ++ [⟨p, D, 24, dc, greetB (keyI 1 f) f nx [] (keyI g.secret nx).toNat⟩])) ∧ Below base w w' := by
  have hn2 : (24 + tn ≤ 100) := by omega
  have hBL := greetB_len (keyI 1 f) t f tok x (by omega)
  rw [htn] at hBL
  have hb0 : B = none → bc = 0 := fun e => by
    obtain ⟨b, off, e2⟩ := Blk.noneF hB hBL (by omega)
    rw [e2] at e; cases e
  have hUl : U ≤ 100000 := by
    have : (greetB (keyI 1 f) t f tok x).length = (pktHd ⟨0, t, f, tok, 0, 0⟩ 1 0).length + (sealB (keyI 1 f) (0 : Nat) (pktHd ⟨0, t, f, tok, 0, 0⟩ 1 0) ([helloFr x].flatMap fenc)).length := by unfold greetB pktB; rw [List.length_append]
    omega
  have HUN := Lib.hid (fun W hW => unpack_any (keyI 1 f) (keyI_range _ _).1 (keyI_range _ _).2 0 t f T tn tc 0 1 U (by decide) (by decide) (-1) (by decide) (by decide) hUl B (24 + tn) bc _ hBL hbc hbm (by omega) hb0 W hW)
  rw [← hU, greetB_unpack, hU] at HUN
  have HV := Lib.hid h
  have HB := Lib.hid hB
  have HOK := Lib.hid ok
  have HNOT := Lib.hid hnot
  have hgl := h.d.lt
  clear h hB ok hb0 hBL hnot
  go_enter Tryz.func60, Tryz.ntmps60
  -- [[p1
  go_upto_region 1 with (fail)
  refine wp_world (fun w' => Blk w' w.heap.size 3 #[.int .i64 p] ∧ Blk w' (w.heap.size + 1) 61 #[.int .i64 (0 : Nat), .int .i64 t, .int .i64 f, .slice T tn tc, .int .i64 (0 : Nat), .int .i64 (1 : Nat)] ∧ Below w.heap.size w w') ⟨(Blk.new _ _ _).alloc _, Blk.new1 _ _ _ _, ((Below.refl _ _).alloc (Nat.le_refl _) _).alloc (by simp) _⟩ ?_
  rintro w1 ⟨hP, hH, hb1⟩
  obtain ⟨q, hq⟩ : ∃ q, w.heap.size = q := ⟨_, rfl⟩
  obtain ⟨q1, hq1⟩ : ∃ q1, w.heap.size + 1 = q1 := ⟨_, rfl⟩
  rw [hq1] at hH ⊢
  rw [hq] at hP ⊢
  have HP := Lib.hid hP
  have HH := Lib.hid hH
  have HV1 := Lib.hid (HV.out.carry hb1)
  have HB1 := Lib.hid (hb1.mono hbase)
  have hs1 := hb1.size
  have HB := Lib.hid (HB.out.below hb1)
  clear hP hH hb1 HV hq hq1
  refine wp_flow (fun k => decide (k < 11)) (fun k => k == 2 || k == 6) 227 [0, 1, 2, 3, 4, 5, 6, 7, 8, 9, 10] (fun w' => Below w1.heap.size w1 w') (fun k a v w' => (k = 2 → v = .int .u64 (keyI 1 f)) ∧ (k = 6 → ∃ L lc ys, v = .tuple #[.int .i64 0, .slice L 1 lc, .int .i64 0] ∧ ys.map (·.f) = [helloFr x] ∧ FrRd w' L ys ∧ 1 ≤ lc ∧ lc ≤ 9223372036854775807)) (by kernel_rfl) ?hflB ?hpuB ?hksB (fun _ _ _ _ _ h => h) rfl ?hst ?hC ?_
  case hflB => kernel_rfl
  case hpuB => kernel_rfl
  case hksB => kernel_rfl
  case hst => exact ⟨fun w0 w1 h1 hb => h1.trans (hb.mono h1.size), fun k a v w0 w1 hW hb => ⟨fun e => (fun hp => hp) (hW.1 e), fun e => (fun hp => by obtain ⟨L, lc, ys, e1, e2, e3, e4⟩ := hp; exact ⟨L, lc, ys, e1, e2, e3.below hb, e4⟩) (hW.2 e)⟩, fun k a b v w0 _ h => h⟩
  case hC => exact (Below.refl _ _).drew
  refine fq 22 (.pointer (some ⟨q1, 2, none⟩)) (by kernel_rfl) (by kernel_rfl) (by kernel_rfl) (by kernel_rfl) (fun w => (by kernel_rfl)) ?_
  refine fq1 23 (.int .i64 f) 3 (.tmp 22) q1 2 _ (by kernel_rfl) (by kernel_rfl) (by kernel_rfl) (by kernel_rfl) (by kernel_rfl) (by kernel_rfl) Tryz.underlying3 rfl (fun w hw => cell_on hw.1 HH.out.lt HH.out.two2) ?_
  refine fcall 24 24 #[.int .i64 f] (by kernel_rfl) (by kernel_rfl) (by kernel_rfl) (by kernel_rfl) (fun w => (by kernel_rfl)) (fun w hw => (first_any f w).mono ?hx2_24) ?_
  case hx2_24 =>
    rintro e w' ⟨rfl, rfl⟩
    exact ⟨_, rfl, ⟨fun _ => rfl, fun e => absurd e (by decide)⟩, hw.1, Below.refl _ _⟩
  rintro v ⟨w', hw', hW⟩
  obtain rfl := hW.1 rfl
  clear  hW hw' w'
  refine fqR 25 #[.int .i64 (0 : Nat), .int .i64 t, .int .i64 f, .slice T tn tc, .int .i64 (0 : Nat), .int .i64 (1 : Nat)] 61 (.tmp 7) q1 0 _ (by kernel_rfl) (by kernel_rfl) (by kernel_rfl) (by kernel_rfl) (by kernel_rfl) (by kernel_rfl) Tryz.underlying61 rfl (by kernel_rfl) (fun w hw => (HH.out.carry hw.1).whole) ?_
  refine fq 26 (.int .i64 (U : Nat)) (by kernel_rfl) (by kernel_rfl) (by kernel_rfl) (by kernel_rfl) (fun w => (by kernel_rfl)) ?_
  refine fq 27 (.slice B (24 + tn) bc) (by kernel_rfl) (by kernel_rfl) (by kernel_rfl) (by kernel_rfl) (fun w => (by kernel_rfl)) ?_
  refine fcall 28 32 #[.int .u64 (keyI 1 f), .agg #[.int .i64 (0 : Nat), .int .i64 t, .int .i64 f, .slice T tn tc, .int .i64 (0 : Nat), .int .i64 (1 : Nat)], .int .i64 (U : Nat), .int .i64 (-1), .slice B (24 + tn) bc] (by kernel_rfl) (by kernel_rfl) (by kernel_rfl) (by kernel_rfl) (fun w => (by kernel_rfl)) (fun w hw => (HUN.out w (HB.out.below hw.1)).mono ?hx6_28) ?_
  case hx6_28 =>
    rintro e w' ⟨L, k, lc, ys, rfl, hys, hk, hrow, hb⟩
    obtain rfl : k = 1 := by rw [← hk]; have := congrArg List.length hys; simpa using this
    exact ⟨_, rfl, ⟨fun e => absurd e (by decide), fun _ => ⟨L, lc, ys, rfl, hys, hrow.rd, by have := hrow.1.cap; omega, hrow.1.cap.2⟩⟩, hw.1.trans (hb.mono hw.1.size), hb⟩
  rintro v ⟨w', hw', hW⟩
  obtain ⟨L, lc, ys, rfl, hys, h4, hlc1, hlc2⟩ := hW.2 rfl
  clear h4 hW hw' w'
  refine fq 21 (.tuple #[.int .i64 0, .slice L 1 lc, .int .i64 0]) (by kernel_rfl) (by kernel_rfl) (by kernel_rfl) (by kernel_rfl) (fun w => (by kernel_rfl)) ?_
  refine fq 29 (.int .i64 0) (by kernel_rfl) (by kernel_rfl) (by kernel_rfl) (by kernel_rfl) (fun w => (by kernel_rfl)) ?_
  refine fq 30 (.slice L 1 lc) (by kernel_rfl) (by kernel_rfl) (by kernel_rfl) (by kernel_rfl) (fun w => (by kernel_rfl)) ?_
  refine fq 31 (.int .i64 0) (by kernel_rfl) (by kernel_rfl) (by kernel_rfl) (by kernel_rfl) (fun w => (by kernel_rfl)) ?_
  refine fend [11, 12, 13] (by kernel_rfl) (by kernel_rfl) ?_
  intro w2 hw2 hF
  obtain ⟨L2, lc2, ys2, e2, hys2, hL, _, _⟩ := (hF _ List.mem_cons_self).2 rfl
  obtain ⟨rfl, rfl⟩ : L = L2 ∧ lc = lc2 := by injection e2 with e2; simpa using e2
  clear hF e2 hys ys
  refine tval (some 11) (.int .i64 0) w2 (by kernel_rfl) (by kernel_rfl) (by kernel_rfl) ?_
  refine tval (some 12) (.slice L 1 lc) w2 (by kernel_rfl) (by kernel_rfl) (by kernel_rfl) ?_
  refine tval (some 13) (.int .i64 0) w2 (by kernel_rfl) (by kernel_rfl) (by kernel_rfl) ?_
  refine tend ?_
  go_simp
  refine (show ∀ (a : Act) (w : World), Code.wp _ _ _ a w → _ from by assumption) _ _ ?_
  refine wp_world (fun w' => FrRd w' L ys2 ∧ Below w1.heap.size w1 w') ⟨hL, hw2⟩ ?_
  clear hL hw2 HUN HB
  rintro w3 ⟨hL, hw3⟩
  have HV3 := Lib.hid (HV1.out.carry hw3)
  have HP3 := Lib.hid (HP.out.carry hw3)
  have HH3 := Lib.hid (HH.out.carry hw3)
  have HB3 := Lib.hid (HB1.out.trans (hw3.mono (by have := HB1.out.size; omega)))
  have HL := Lib.hid hL
  clear hL hw3 HV1 HP HH HB1
  have HE := hello_any L 1 lc ys2 (by have := congrArg List.length hys2; simpa using this) (by decide) hlc1 hlc2 w3 HL.out
  rw [hys2, helloF_hello x hx] at HE
  have HE := Lib.hid HE
  go_wp2_with fail
  refine HE.out.mono ?_
  rintro e w4 ⟨rfl, hb4⟩
  have HV4 := Lib.hid (HV3.out.carry hb4)
  have HP4 := Lib.hid (HP3.out.carry hb4)
  have HH4 := Lib.hid (HH3.out.carry hb4)
  have HB4 := Lib.hid (HB3.out.trans (hb4.mono (by have := HB3.out.size; omega)))
  clear hb4 HE HL HV3 HP3 HH3 HB3
  have f3 : w4.cell? ⟨gd, 3, none⟩ = some (.slice A n c) := by rw [HV4.out.d.cell]; rfl
  have HNT := Lib.hid (note_first (.pointer (some ⟨q, 0, none⟩)) (.pointer (some ⟨q1, 0, none⟩)) gd A n c xs HV4.out.hn (by have := HV4.out.nt.cap; rw [HV4.out.hn] at this; exact this.1) (by have := HV4.out.nt.cap; exact this.2) (by omega) (fun x => decide (x.peer = p) && decide (x.from_ = f)) w4 HV4.out.nt.rd f3 HV4.out.d.lt
    (fun W hW x hx => ask_first x p f q q1 W (HP4.out.carry hW).one0 (HH4.out.carry hW).two2 (HP4.out.carry hW).lt (HH4.out.carry hW).lt))
  have HNA := Lib.hid (noteAt_none (A := A) HNOT.out)
  clear f3
  go_wp2_with fail
  refine HNT.out.mono ?_
  rintro e w5 ⟨rfl, hb5⟩
  rw [HNA.out]
  have HV5 := Lib.hid (HV4.out.carry hb5)
  have HP5 := Lib.hid (HP4.out.carry hb5)
  have HH5 := Lib.hid (HH4.out.carry hb5)
  have HB5 := Lib.hid (HB4.out.trans (hb5.mono (by have := HB4.out.size; omega)))
  clear hb5 HNT HNA HV4 HP4 HH4 HB4
  have f1 : w5.cell? ⟨gd, 1, none⟩ = some (.int .i64 g.now) := by rw [HV5.out.d.cell]; rfl
  have f2 : w5.cell? ⟨gd, 2, none⟩ = some (.int .i64 g.next) := by rw [HV5.out.d.cell]; rfl
  have f3 : w5.cell? ⟨gd, 3, none⟩ = some (.slice A n c) := by rw [HV5.out.d.cell]; rfl
  have f16 : w5.cell? ⟨gd, 16, none⟩ = some (.bool false) := by rw [HV5.out.d.cell, ← hret]; rfl
  have hgl5 := HV5.out.d.lt
  have c2 : ((n : Int) == 2) = false := by simp; omega
  have c3 : ((n : Int) == 3) = false := by simp; omega
  have c4 : (g.next == 256) = false := by simp; omega
  have HNX := Lib.hid hnx
  clear hnx
  go_wp2_with fail
  refine (connBegin_BgR g.now n0 n1 _).mono ?_
  rintro e w6 ⟨cs, rfl, ⟨cA, cc, cB, cd, hcc, hcd, rfl, _, _⟩, hb6⟩
  unfold bg0
  have HV6 := Lib.hid (HV5.out.carry hb6)
  have HP6 := Lib.hid (HP5.out.carry hb6)
  have HH6 := Lib.hid (HH5.out.carry hb6)
  have HB6 := Lib.hid (HB5.out.trans (hb6.mono (by have := HB5.out.size; omega)))
  clear hb6 HV5 HP5 HH5 HB5 f1 f2 f3 f16
  -- [[p2
  go_upto_region 21 with (first
    | (refine wpList_storeP rfl 43 (.tmp 18) (.tmp 132) rfl w6.heap.size 0 rfl (bg0 false cA cc cB cd g.now 0 4) rfl 43 _ (Blk.new _ _ _) (by kernel_rfl) (by simp [bg0]) (bg0_one _ _ _ _ _ _ _ _) _ (splice_all _ _ (by simp [bg0])) ?_
       intro w7 hB7 hw7
       have hb7 : Below w6.heap.size w6 w7 := hw7.trans_below ((Below.refl _ _).alloc (Nat.le_refl _) _) (Nat.le_refl _)))
  obtain ⟨gC, hgC⟩ : ∃ q, w6.heap.size = q := ⟨_, rfl⟩
  refine wp_world (fun w' => Blk w' gC 43 (bg0 false cA cc cB cd g.now 0 4) ∧ DkV w' base gd g A n c xs O m co ms ∧ Blk w' q 3 #[.int .i64 p] ∧ Blk w' q1 61 #[.int .i64 (0 : Nat), .int .i64 t, .int .i64 f, .slice T tn tc, .int .i64 (0 : Nat), .int .i64 (1 : Nat)] ∧ Below base w w') ⟨by rw [← hgC]; exact hB7, HV6.out.carry hb7, HP6.out.carry hb7, HH6.out.carry hb7, HB6.out.trans (hb7.mono (by have := HB6.out.size; omega))⟩ ?_
  rw [hgC]
  clear hgC hb7 hw7 hB7 HV6 HP6 HH6 HB6 w6 w7
  rintro w5 ⟨hC, hV, hP, hH, hb⟩
  have HC5 := Lib.hid hC
  have HV5 := Lib.hid hV
  have HP5 := Lib.hid hP
  have HH5 := Lib.hid hH
  have HB5 := Lib.hid hb
  have f0 : w5.cell? ⟨gd, 0, none⟩ = some (.int .u64 g.secret) := by rw [hV.d.cell]; rfl
  have f2 : w5.cell? ⟨gd, 2, none⟩ = some (.int .i64 g.next) := by rw [hV.d.cell]; rfl
  have f3 : w5.cell? ⟨gd, 3, none⟩ = some (.slice A n c) := by rw [hV.d.cell]; rfl
  have hgd : base ≤ gd := hV.hg
  have hxn : xs.length = n := hV.hn
  clear hC hV hP hH hb
  -- [[p3
  refine wp_flow (fun k => decide (k < 30)) (fun k => k == 25 || k == 26 || k == 29) 227 [0, 1, 2, 3, 4, 5, 6, 7, 8, 9, 10, 11, 12, 13, 14, 15, 16, 17, 18, 19, 20, 21, 22, 23, 24, 25, 26, 27, 28, 29] (fun w' => Below w5.heap.size w5 w') (fun k a v w' => (k = 25 → v = .int .u64 (keyI g.secret g.next)) ∧ (k = 26 → v = .int .u64 (sessI x (keyI g.secret g.next))) ∧ (k = 29 → ∃ gN, v = .slice (some ⟨gN, 0, none⟩) 1 1 ∧ RdX ntc 29 w' (some ⟨gN, 0, none⟩) [newN g f p x cA cc cB cd])) (by kernel_rfl) ?hflB ?hpuB ?hksB (fun _ _ _ _ _ h => h) rfl ?hst ?hC ?_
  case hflB => kernel_rfl
  case hpuB => kernel_rfl
  case hksB => kernel_rfl
  case hst => exact ⟨fun w0 w1 h1 hb => h1.trans (hb.mono h1.size), fun k a v w0 w1 hW hb => ⟨fun e => (fun hp => hp) (hW.1 e), fun e => (fun hp => hp) (hW.2.1 e), fun e => (fun hp => by obtain ⟨gN, e1, e2⟩ := hp; exact ⟨gN, e1, RdX.below e2 hb⟩) (hW.2.2 e)⟩, fun k a b v w0 _ h => h⟩
  case hC => exact (Below.refl _ _).drew
  refine fq 137 (.pointer (some ⟨gd, 0, none⟩)) (by kernel_rfl) (by kernel_rfl) (by kernel_rfl) (by kernel_rfl) (fun w => (by kernel_rfl)) ?_
  refine fq 138 (.pointer (some ⟨gd, 0, none⟩)) (by kernel_rfl) (by kernel_rfl) (by kernel_rfl) (by kernel_rfl) (fun w => (by kernel_rfl)) ?_
  refine fq 139 (.pointer (some ⟨gd, 0, none⟩)) (by kernel_rfl) (by kernel_rfl) (by kernel_rfl) (by kernel_rfl) (fun w => (by kernel_rfl)) ?_
  refine fq 140 (.pointer (some ⟨gd, 0, none⟩)) (by kernel_rfl) (by kernel_rfl) (by kernel_rfl) (by kernel_rfl) (fun w => (by kernel_rfl)) ?_
  refine fq 141 (.pointer (some ⟨gd, 3, none⟩)) (by kernel_rfl) (by kernel_rfl) (by kernel_rfl) (by kernel_rfl) (fun w => (by kernel_rfl)) ?_
  refine fq1 142 (.slice A n c) 24 (.tmp 141) gd 3 _ (by kernel_rfl) (by kernel_rfl) (by kernel_rfl) (by kernel_rfl) (by kernel_rfl) (by kernel_rfl) Tryz.underlying24 rfl (fun w hw => cell_on hw.1 HV5.out.d.lt f3) ?_
  refine fq 143 (.pointer (some ⟨gd, 0, none⟩)) (by kernel_rfl) (by kernel_rfl) (by kernel_rfl) (by kernel_rfl) (fun w => (by kernel_rfl)) ?_
  refine fq 144 (.pointer (some ⟨gd, 0, none⟩)) (by kernel_rfl) (by kernel_rfl) (by kernel_rfl) (by kernel_rfl) (fun w => (by kernel_rfl)) ?_
  refine fq 145 (.pointer (some ⟨gd, 0, none⟩)) (by kernel_rfl) (by kernel_rfl) (by kernel_rfl) (by kernel_rfl) (fun w => (by kernel_rfl)) ?_
  refine fq 146 (.pointer (some ⟨gd, 2, none⟩)) (by kernel_rfl) (by kernel_rfl) (by kernel_rfl) (by kernel_rfl) (fun w => (by kernel_rfl)) ?_
  refine fq1 147 (.int .i64 g.next) 3 (.tmp 146) gd 2 _ (by kernel_rfl) (by kernel_rfl) (by kernel_rfl) (by kernel_rfl) (by kernel_rfl) (by kernel_rfl) Tryz.underlying3 rfl (fun w hw => cell_on hw.1 HV5.out.d.lt f2) ?_
  refine fq 148 (.pointer (some ⟨q1, 2, none⟩)) (by kernel_rfl) (by kernel_rfl) (by kernel_rfl) (by kernel_rfl) (fun w => (by kernel_rfl)) ?_
  refine fq1 149 (.int .i64 f) 3 (.tmp 148) q1 2 _ (by kernel_rfl) (by kernel_rfl) (by kernel_rfl) (by kernel_rfl) (by kernel_rfl) (by kernel_rfl) Tryz.underlying3 rfl (fun w hw => cell_on hw.1 HH5.out.lt HH5.out.two2) ?_
  refine fq1 150 (.int .i64 p) 3 (.tmp 6) q 0 _ (by kernel_rfl) (by kernel_rfl) (by kernel_rfl) (by kernel_rfl) (by kernel_rfl) (by kernel_rfl) Tryz.underlying3 rfl (fun w hw => cell_on hw.1 HP5.out.lt HP5.out.one0) ?_
  refine fq 151 (.int .u64 (x : Nat)) (by kernel_rfl) (by kernel_rfl) (by kernel_rfl) (by kernel_rfl) (fun w => (by kernel_rfl)) ?_
  refine fq 152 (.pointer (some ⟨gd, 0, none⟩)) (by kernel_rfl) (by kernel_rfl) (by kernel_rfl) (by kernel_rfl) (fun w => (by kernel_rfl)) ?_
  refine fq 153 (.pointer (some ⟨gd, 0, none⟩)) (by kernel_rfl) (by kernel_rfl) (by kernel_rfl) (by kernel_rfl) (fun w => (by kernel_rfl)) ?_
  refine fq 154 (.pointer (some ⟨gd, 0, none⟩)) (by kernel_rfl) (by kernel_rfl) (by kernel_rfl) (by kernel_rfl) (fun w => (by kernel_rfl)) ?_
  refine fq 155 (.pointer (some ⟨gd, 0, none⟩)) (by kernel_rfl) (by kernel_rfl) (by kernel_rfl) (by kernel_rfl) (fun w => (by kernel_rfl)) ?_
  refine fq1 156 (.int .u64 g.secret) 23 (.tmp 155) gd 0 _ (by kernel_rfl) (by kernel_rfl) (by kernel_rfl) (by kernel_rfl) (by kernel_rfl) (by kernel_rfl) Tryz.underlying23 rfl (fun w hw => cell_on hw.1 HV5.out.d.lt f0) ?_
  refine fq 157 (.pointer (some ⟨gd, 0, none⟩)) (by kernel_rfl) (by kernel_rfl) (by kernel_rfl) (by kernel_rfl) (fun w => (by kernel_rfl)) ?_
  refine fq 158 (.pointer (some ⟨gd, 0, none⟩)) (by kernel_rfl) (by kernel_rfl) (by kernel_rfl) (by kernel_rfl) (fun w => (by kernel_rfl)) ?_
  refine fq 159 (.pointer (some ⟨gd, 0, none⟩)) (by kernel_rfl) (by kernel_rfl) (by kernel_rfl) (by kernel_rfl) (fun w => (by kernel_rfl)) ?_
  refine fq 160 (.pointer (some ⟨gd, 2, none⟩)) (by kernel_rfl) (by kernel_rfl) (by kernel_rfl) (by kernel_rfl) (fun w => (by kernel_rfl)) ?_
  refine fq1 161 (.int .i64 g.next) 3 (.tmp 160) gd 2 _ (by kernel_rfl) (by kernel_rfl) (by kernel_rfl) (by kernel_rfl) (by kernel_rfl) (by kernel_rfl) Tryz.underlying3 rfl (fun w hw => cell_on hw.1 HV5.out.d.lt f2) ?_
  refine fcall 162 55 #[.int .u64 g.secret, .int .i64 g.next] (by kernel_rfl) (by kernel_rfl) (by kernel_rfl) (by kernel_rfl) (fun w => (by kernel_rfl)) (fun w hw => (key_any g.secret g.next s0 s1 w).mono ?hx25_162) ?_
  case hx25_162 =>
    rintro e w' ⟨rfl, rfl⟩
    exact ⟨_, rfl, ⟨fun _ => rfl, fun e => absurd e (by decide), fun e => absurd e (by decide)⟩, hw.1, Below.refl _ _⟩
  rintro v ⟨w', hw', hW⟩
  obtain rfl := hW.1 rfl
  clear  hW hw' w'
  refine fcall 163 100 #[.int .u64 (x : Nat), .int .u64 (keyI g.secret g.next)] (by kernel_rfl) (by kernel_rfl) (by kernel_rfl) (by kernel_rfl) (fun w => (by kernel_rfl)) (fun w hw => (session_any x (keyI g.secret g.next) (by omega) (by omega) (keyI_range _ _).1 (keyI_range _ _).2 w).mono ?hx26_163) ?_
  case hx26_163 =>
    rintro e w' ⟨rfl, rfl⟩
    exact ⟨_, rfl, ⟨fun e => absurd e (by decide), fun _ => rfl, fun e => absurd e (by decide)⟩, hw.1, Below.refl _ _⟩
  rintro v ⟨w', hw', hW⟩
  obtain rfl := hW.2.1 rfl
  clear  hW hw' w'
  refine fqR 164 (bg0 false cA cc cB cd g.now 0 4) 43 (.tmp 18) gC 0 _ (by kernel_rfl) (by kernel_rfl) (by kernel_rfl) (by kernel_rfl) (by kernel_rfl) (by kernel_rfl) Tryz.underlying43 rfl (by kernel_rfl) (fun w hw => (HC5.out.carry hw.1).whole) ?_
  refine fq 165 (.agg (nta (newN g f p x cA cc cB cd))) (by kernel_rfl) (by kernel_rfl) (by kernel_rfl) (by kernel_rfl) (fun w => (by kernel_rfl)) ?_
  refine fnew 166 (fun w => .slice (some ⟨w.heap.size, 0, none⟩) 1 1) (fun w => w.alloc (.cells (nta (newN g f p x cA cc cB cd)) 53)) (by kernel_rfl) (by kernel_rfl) (by kernel_rfl) (by kernel_rfl) (fun w => (by kernel_rfl)) (fun w hw => ⟨⟨fun e => absurd e (by decide), fun e => absurd e (by decide), fun _ => ⟨w.heap.size, rfl, RdX.oneN _ _ (newN g f p x cA cc cB cd)⟩⟩, hw.1.alloc hw.1.size _, (Below.refl _ _).alloc (Nat.le_refl _) _⟩) ?_
  rintro v ⟨w', hw', hW⟩
  obtain ⟨gN, rfl, h4⟩ := hW.2.2 rfl
  clear h4 hW hw' w'
  refine fend [30, 31, 32, 33, 34] (by kernel_rfl) (by kernel_rfl) ?_
  -- [[p5
  intro w6 hw6 hF
  obtain ⟨gN2, e2, hRN⟩ := (hF _ List.mem_cons_self).2.2 rfl
  obtain rfl : gN = gN2 := by injection e2 with e2; simpa using e2
  clear hF e2
  have hV6 := HV5.out.carry hw6
  refine tapp 167 ntc 29 ntc_one (.tmp 142) (.tmp 166) _ (by kernel_rfl) (by kernel_rfl) (by kernel_rfl) base 53 _ 312 Tryz.underlying24 ntInfo (nta_size _) (by decide) (by decide) A n c xs (by kernel_rfl) hV6.hn hV6.nt (some ⟨gN, 0, none⟩) 1 1 [newN g f p x cA cc cB cd] (by kernel_rfl) rfl hRN (xs ++ [newN g f p x cA cc cB cd]) rfl (n + 1) rfl (by omega) (by have := HB5.out.size; have := hw6.size; omega) ?_
  intro A7 c7 w7 hO7 hc7 hm7 hb7 hg7 ha7
  have hD7 := hV6.d.grown hg7 hV6.gd_ne
  refine tval (some 168) (.pointer (some ⟨gd, 0, none⟩)) w7 (by kernel_rfl) (by kernel_rfl) (by kernel_rfl) ?_
  refine tval (some 169) (.pointer (some ⟨gd, 0, none⟩)) w7 (by kernel_rfl) (by kernel_rfl) (by kernel_rfl) ?_
  refine tval (some 170) (.pointer (some ⟨gd, 3, none⟩)) w7 (by kernel_rfl) (by kernel_rfl) (by kernel_rfl) ?_
  -- [[p6
  refine tstore1 (by kernel_rfl) (by kernel_rfl) 24 (.tmp 170) (.tmp 167) (by kernel_rfl) gd 3 (by kernel_rfl) (.slice A7 (n + 1) c7) (by kernel_rfl) rfl rfl 133 _ hD7 (by kernel_rfl) (by simp [dkc]) ?_
  intro w8 hB8 hw8
  have hV8 := hV6.note hO7 hg7 (hB8.as (by rfl)) hw8
  have hb8 := hw8.trans_below ((HB5.out.trans (hw6.mono (by have := HB5.out.size; omega))).trans hb7) hV6.hg
  have hP8 := ((HP5.out.carry hw6).grown hg7 (own_apartB hV6.nt (HP5.out.carry hw6) (by decide))).wr hw8 (Blk.ne ((HP5.out.carry hw6).grown hg7 (own_apartB hV6.nt (HP5.out.carry hw6) (by decide))) hD7 (by decide))
  have hH8 := ((HH5.out.carry hw6).grown hg7 (own_apartB hV6.nt (HH5.out.carry hw6) (by decide))).wr hw8 (Blk.ne ((HH5.out.carry hw6).grown hg7 (own_apartB hV6.nt (HH5.out.carry hw6) (by decide))) hD7 (by decide))
  refine tend ?_
  go_simp
  refine (show ∀ (a : Act) (w : World), Code.wp _ _ _ a w → _ from by assumption) _ _ ?_
  refine wp_world (fun w' => DkV w' base gd g A7 (n + 1) c7 (xs ++ [newN g f p x cA cc cB cd]) O m co ms ∧ Blk w' q 3 #[.int .i64 p] ∧ Blk w' q1 61 #[.int .i64 (0 : Nat), .int .i64 t, .int .i64 f, .slice T tn tc, .int .i64 (0 : Nat), .int .i64 (1 : Nat)] ∧ Below base w w') ⟨hV8, hP8, hH8, hb8⟩ ?_
  clear hV8 hP8 hH8 hb8 hw8 hB8 hD7 ha7 hg7 hb7 hm7 hc7 hO7 hRN hV6 HC5 HV5 HP5 HH5 HB5 f0 f2 f3 hw6
  rintro w9 ⟨hV9, hP9, hH9, hb9⟩
  obtain ⟨b2, o2, rfl, hcell⟩ := hV9.nt.rd.nt (by simp)
  have HV9 := Lib.hid hV9
  have HP9 := Lib.hid hP9
  have HH9 := Lib.hid hH9
  have HB9 := Lib.hid hb9
  have f3 : w9.cell? ⟨gd, 3, none⟩ = some (.slice (some ⟨b2, o2, none⟩) (n + 1) c7) := by rw [hV9.d.cell]; rfl
  clear hcell hV9 hP9 hH9 hb9
  -- [[p7
  go_upto_region 22 with (fail)
  refine wp_flow (fun k => decide (k < 13)) (fun k => false) 227 [0, 1, 2, 3, 4, 5, 6, 7, 8, 9, 10, 11, 12] (fun w' => Below w9.heap.size w9 w') (fun k a v w' => True) (by kernel_rfl) ?hflB ?hpuB ?hksB (fun _ _ _ _ _ h => h) rfl ?hst ?hC ?_
  case hflB => kernel_rfl
  case hpuB => kernel_rfl
  case hksB => kernel_rfl
  case hst => exact ⟨fun w0 w1 h1 hb => h1.trans (hb.mono h1.size), fun k a v w0 w1 hW hb => hW, fun k a b v w0 _ h => h⟩
  case hC => exact (Below.refl _ _).drew
  refine fq 171 (.pointer (some ⟨gd, 0, none⟩)) (by kernel_rfl) (by kernel_rfl) (by kernel_rfl) (by kernel_rfl) (fun w => (by kernel_rfl)) ?_
  refine fq 172 (.pointer (some ⟨gd, 0, none⟩)) (by kernel_rfl) (by kernel_rfl) (by kernel_rfl) (by kernel_rfl) (fun w => (by kernel_rfl)) ?_
  refine fq 173 (.pointer (some ⟨gd, 0, none⟩)) (by kernel_rfl) (by kernel_rfl) (by kernel_rfl) (by kernel_rfl) (fun w => (by kernel_rfl)) ?_
  refine fq 174 (.pointer (some ⟨gd, 3, none⟩)) (by kernel_rfl) (by kernel_rfl) (by kernel_rfl) (by kernel_rfl) (fun w => (by kernel_rfl)) ?_
  refine fq1 175 (.slice (some ⟨b2, o2, none⟩) (n + 1) c7) 24 (.tmp 174) gd 3 _ (by kernel_rfl) (by kernel_rfl) (by kernel_rfl) (by kernel_rfl) (by kernel_rfl) (by kernel_rfl) Tryz.underlying24 rfl (fun w hw => cell_on hw.1 HV9.out.d.lt f3) ?_
  refine fq 176 (.pointer (some ⟨gd, 0, none⟩)) (by kernel_rfl) (by kernel_rfl) (by kernel_rfl) (by kernel_rfl) (fun w => (by kernel_rfl)) ?_
  refine fq 177 (.pointer (some ⟨gd, 0, none⟩)) (by kernel_rfl) (by kernel_rfl) (by kernel_rfl) (by kernel_rfl) (fun w => (by kernel_rfl)) ?_
  refine fq 178 (.pointer (some ⟨gd, 0, none⟩)) (by kernel_rfl) (by kernel_rfl) (by kernel_rfl) (by kernel_rfl) (fun w => (by kernel_rfl)) ?_
  refine fq 179 (.pointer (some ⟨gd, 3, none⟩)) (by kernel_rfl) (by kernel_rfl) (by kernel_rfl) (by kernel_rfl) (fun w => (by kernel_rfl)) ?_
  refine fq1 180 (.slice (some ⟨b2, o2, none⟩) (n + 1) c7) 24 (.tmp 179) gd 3 _ (by kernel_rfl) (by kernel_rfl) (by kernel_rfl) (by kernel_rfl) (by kernel_rfl) (by kernel_rfl) Tryz.underlying24 rfl (fun w hw => cell_on hw.1 HV9.out.d.lt f3) ?_
  refine fq 181 (.int .i64 ((n + 1 : Nat) : Int)) (by kernel_rfl) (by kernel_rfl) (by kernel_rfl) (by kernel_rfl) (fun w => (by kernel_rfl)) ?_
  refine fqe 182 (.int .i64 (IntKind.i64.wrap (((n + 1 : Nat) : Int) - 1))) (.int .i64 (n : Nat)) (by rw [IntKind.wrap_i64]; congr 1; omega) (by kernel_rfl) (by kernel_rfl) (by kernel_rfl) (by kernel_rfl) (fun w => (by kernel_rfl)) ?_
  refine fidx 183 24 (.tmp 175) (.tmp 182) b2 o2 (n + 1) c7 .i64 (n : Nat) 29 (o2 + n * 29) (by kernel_rfl) (by kernel_rfl) (by kernel_rfl) (by kernel_rfl) (by kernel_rfl) (by kernel_rfl) (by kernel_rfl) Tryz.underlying24 (fun w => (by kernel_rfl)) (by omega) (by omega) (by simp) ?_
  refine fend [13] (by kernel_rfl) (by kernel_rfl) ?_
  intro w10 hw10 _
  refine tval (some 16) (.pointer (some ⟨b2, o2 + n * 29, none⟩)) w10 (by kernel_rfl) (by kernel_rfl) (by kernel_rfl) ?_
  refine tend ?_
  go_simp
  refine (show ∀ (a : Act) (w : World), Code.wp _ _ _ a w → _ from by assumption) _ _ ?_
  refine wp_world (fun w' => Below w9.heap.size w9 w') hw10 ?_
  clear hw10 f3
  rintro w10 hw10
  have HV10 := Lib.hid (HV9.out.carry hw10)
  have HP10 := Lib.hid (HP9.out.carry hw10)
  have HH10 := Lib.hid (HH9.out.carry hw10)
  have HB10 := Lib.hid (HB9.out.trans (hw10.mono (by have := HB9.out.size; omega)))
  have f2 : w10.cell? ⟨gd, 2, none⟩ = some (.int .i64 g.next) := by rw [HV10.out.d.cell]; rfl
  have z2 := HV10.out.d.zs 2
  have hgl10 := HV10.out.d.lt
  have hwr : IntKind.i64.wrap (g.next + 1) = g.next + 1 := by have := HNX.out; rw [IntKind.wrap_i64]; omega
  clear hw10 HV9 HP9 HH9 HB9
  go_upto_region 24 with (fail)
  refine wp_world (fun w' => DkV w' base gd g.up (some ⟨b2, o2, none⟩) (n + 1) c7 (xs ++ [newN g f p x cA cc cB cd]) O m co ms ∧ Blk w' q 3 #[.int .i64 p] ∧ Blk w' q1 61 #[.int .i64 (0 : Nat), .int .i64 t, .int .i64 f, .slice T tn tc, .int .i64 (0 : Nat), .int .i64 (1 : Nat)] ∧ Below base w w')
    ⟨HV10.out.wr ((HV10.out.d.set_ 2 _).as (by rfl)) (Wr.set _ gd 2 _), HP10.out.wr (Wr.set _ gd 2 _) (Blk.ne HP10.out HV10.out.d (by decide)), HH10.out.wr (Wr.set _ gd 2 _) (Blk.ne HH10.out HV10.out.d (by decide)), (Wr.set _ gd 2 _).trans_below HB10.out hgd⟩ ?_
  clear HV10 HP10 HH10 HB10 f2 z2 hgl10 hwr
  rintro w11 ⟨hV11, hP11, hH11, hb11⟩
  have HV11 := Lib.hid hV11
  have HP11 := Lib.hid hP11
  have HH11 := Lib.hid hH11
  have HB11 := Lib.hid hb11
  have f0 : w11.cell? ⟨gd, 0, none⟩ = some (.int .u64 g.secret) := by rw [hV11.d.cell]; rfl
  have HID := Lib.hid (show ∀ W, Below w11.heap.size w11 W → W.cell? ⟨b2, o2 + n * 29, none⟩ = some (.int .i64 nx) from fun W hW => by
    obtain ⟨b3, o3, e3, hcell⟩ := (HV11.out.carry hW).nt.rd.nt (by simp)
    obtain ⟨rfl, rfl⟩ : b2 = b3 ∧ o2 = o3 := by injection e3 with e3; simpa using e3
    have := hcell n (by simp [hxn]) 0 (.int .i64 g.next) (by rw [getD_end _ _ _ _ hxn]; exact nta_id _)
    rw [HNX.out] at this
    exact this)
  clear hV11 hP11 hH11 hb11
  -- [[p4
  refine wp_flow (fun k => decide (k < 27)) (fun k => k == 2 || k == 19 || k == 20 || k == 22 || k == 23) 227 [0, 1, 2, 3, 4, 5, 6, 7, 8, 9, 10, 11, 12, 13, 14, 15, 16, 17, 18, 19, 20, 21, 22, 23, 24, 25, 26] (fun w' => Below w11.heap.size w11 w') (fun k a v w' => (k = 2 → v = .int .u64 (keyI 1 f)) ∧ (k = 19 → v = .int .u64 (keyI g.secret nx)) ∧ (k = 20 → ∃ gE, v = .slice (some ⟨gE, 0, none⟩) 8 8 ∧ RdB w' (some ⟨gE, 0, none⟩) (beB 8 (keyI g.secret nx).toNat)) ∧ (k = 22 → ∃ gF gE, v = .slice (some ⟨gF, 0, none⟩) 1 1 ∧ RdX fmc 7 w' (some ⟨gF, 0, none⟩) [hfm (keyI g.secret nx).toNat (some ⟨gE, 0, none⟩) 8] ∧ RdB w' (some ⟨gE, 0, none⟩) (beB 8 (keyI g.secret nx).toNat)) ∧ (k = 23 → ∃ D dc, v = .tuple #[.slice D 24 dc, .int .i64 0] ∧ OwnX u8c 1 w' 0 5 D dc (greetB (keyI 1 f) f nx [] (keyI g.secret nx).toNat))) (by kernel_rfl) ?hflB ?hpuB ?hksB (fun _ _ _ _ _ h => h) rfl ?hst ?hC ?_
  case hflB => kernel_rfl
  case hpuB => kernel_rfl
  case hksB => kernel_rfl
  case hst => exact ⟨fun w0 w1 h1 hb => h1.trans (hb.mono h1.size), fun k a v w0 w1 hW hb => ⟨fun e => (fun hp => hp) (hW.1 e), fun e => (fun hp => hp) (hW.2.1 e), fun e => (fun hp => by obtain ⟨gE, e1, e2⟩ := hp; exact ⟨gE, e1, e2.below hb⟩) (hW.2.2.1 e), fun e => (fun hp => by obtain ⟨gF, gE, e1, e2, e3⟩ := hp; exact ⟨gF, gE, e1, RdX.below e2 hb, e3.below hb⟩) (hW.2.2.2.1 e), fun e => (fun hp => by obtain ⟨D, dc, e1, e2⟩ := hp; exact ⟨D, dc, e1, e2.carry hb⟩) (hW.2.2.2.2 e)⟩, fun k a b v w0 _ h => h⟩
  case hC => exact (Below.refl _ _).drew
  refine fq 194 (.pointer (some ⟨q1, 2, none⟩)) (by kernel_rfl) (by kernel_rfl) (by kernel_rfl) (by kernel_rfl) (fun w => (by kernel_rfl)) ?_
  refine fq1 195 (.int .i64 f) 3 (.tmp 194) q1 2 _ (by kernel_rfl) (by kernel_rfl) (by kernel_rfl) (by kernel_rfl) (by kernel_rfl) (by kernel_rfl) Tryz.underlying3 rfl (fun w hw => cell_on hw.1 HH11.out.lt HH11.out.two2) ?_
  refine fcall 196 24 #[.int .i64 f] (by kernel_rfl) (by kernel_rfl) (by kernel_rfl) (by kernel_rfl) (fun w => (by kernel_rfl)) (fun w hw => (first_any f w).mono ?hx2_196) ?_
  case hx2_196 =>
    rintro e w' ⟨rfl, rfl⟩
    exact ⟨_, rfl, ⟨fun _ => rfl, fun e => absurd e (by decide), fun e => absurd e (by decide), fun e => absurd e (by decide), fun e => absurd e (by decide)⟩, hw.1, Below.refl _ _⟩
  rintro v ⟨w', hw', hW⟩
  obtain rfl := hW.1 rfl
  clear  hW hw' w'
  refine fq 197 (.pointer (some ⟨q1, 2, none⟩)) (by kernel_rfl) (by kernel_rfl) (by kernel_rfl) (by kernel_rfl) (fun w => (by kernel_rfl)) ?_
  refine fq1 198 (.int .i64 f) 3 (.tmp 197) q1 2 _ (by kernel_rfl) (by kernel_rfl) (by kernel_rfl) (by kernel_rfl) (by kernel_rfl) (by kernel_rfl) Tryz.underlying3 rfl (fun w hw => cell_on hw.1 HH11.out.lt HH11.out.two2) ?_
  refine fq 199 (.pointer (some ⟨b2, o2 + n * 29, none⟩)) (by kernel_rfl) (by kernel_rfl) (by kernel_rfl) (by kernel_rfl) (fun w => (by kernel_rfl)) ?_
  refine fq 200 (.pointer (some ⟨b2, o2 + n * 29, none⟩)) (by kernel_rfl) (by kernel_rfl) (by kernel_rfl) (by kernel_rfl) (fun w => (by kernel_rfl)) ?_
  refine fq 201 (.pointer (some ⟨b2, o2 + n * 29, none⟩)) (by kernel_rfl) (by kernel_rfl) (by kernel_rfl) (by kernel_rfl) (fun w => (by kernel_rfl)) ?_
  refine fq1 202 (.int .i64 nx) 3 (.tmp 201) b2 (o2 + n * 29) _ (by kernel_rfl) (by kernel_rfl) (by kernel_rfl) (by kernel_rfl) (by kernel_rfl) (by kernel_rfl) Tryz.underlying3 rfl (fun w hw => HID.out w hw.1) ?_
  refine fq 203 (.agg #[.int .i64 (0 : Nat), .int .i64 f, .int .i64 nx, .slice none 0 0, .int .i64 0, .int .i64 0]) (by kernel_rfl) (by kernel_rfl) (by kernel_rfl) (by kernel_rfl) (fun w => (by kernel_rfl)) ?_
  refine fq 204 (.pointer (some ⟨gd, 0, none⟩)) (by kernel_rfl) (by kernel_rfl) (by kernel_rfl) (by kernel_rfl) (fun w => (by kernel_rfl)) ?_
  refine fq 205 (.pointer (some ⟨gd, 0, none⟩)) (by kernel_rfl) (by kernel_rfl) (by kernel_rfl) (by kernel_rfl) (fun w => (by kernel_rfl)) ?_
  refine fq 206 (.pointer (some ⟨gd, 0, none⟩)) (by kernel_rfl) (by kernel_rfl) (by kernel_rfl) (by kernel_rfl) (fun w => (by kernel_rfl)) ?_
  refine fq 207 (.pointer (some ⟨gd, 0, none⟩)) (by kernel_rfl) (by kernel_rfl) (by kernel_rfl) (by kernel_rfl) (fun w => (by kernel_rfl)) ?_
  refine fq1 208 (.int .u64 g.secret) 23 (.tmp 207) gd 0 _ (by kernel_rfl) (by kernel_rfl) (by kernel_rfl) (by kernel_rfl) (by kernel_rfl) (by kernel_rfl) Tryz.underlying23 rfl (fun w hw => cell_on hw.1 HV11.out.d.lt f0) ?_
  refine fq 209 (.pointer (some ⟨b2, o2 + n * 29, none⟩)) (by kernel_rfl) (by kernel_rfl) (by kernel_rfl) (by kernel_rfl) (fun w => (by kernel_rfl)) ?_
  refine fq 210 (.pointer (some ⟨b2, o2 + n * 29, none⟩)) (by kernel_rfl) (by kernel_rfl) (by kernel_rfl) (by kernel_rfl) (fun w => (by kernel_rfl)) ?_
  refine fq 211 (.pointer (some ⟨b2, o2 + n * 29, none⟩)) (by kernel_rfl) (by kernel_rfl) (by kernel_rfl) (by kernel_rfl) (fun w => (by kernel_rfl)) ?_
  refine fq1 212 (.int .i64 nx) 3 (.tmp 211) b2 (o2 + n * 29) _ (by kernel_rfl) (by kernel_rfl) (by kernel_rfl) (by kernel_rfl) (by kernel_rfl) (by kernel_rfl) Tryz.underlying3 rfl (fun w hw => HID.out w hw.1) ?_
  refine fcall 213 55 #[.int .u64 g.secret, .int .i64 nx] (by kernel_rfl) (by kernel_rfl) (by kernel_rfl) (by kernel_rfl) (fun w => (by kernel_rfl)) (fun w hw => (key_any g.secret nx s0 s1 w).mono ?hx19_213) ?_
  case hx19_213 =>
    rintro e w' ⟨rfl, rfl⟩
    exact ⟨_, rfl, ⟨fun e => absurd e (by decide), fun _ => rfl, fun e => absurd e (by decide), fun e => absurd e (by decide), fun e => absurd e (by decide)⟩, hw.1, Below.refl _ _⟩
  rintro v ⟨w', hw', hW⟩
  obtain rfl := hW.2.1 rfl
  clear  hW hw' w'
  refine fcall 214 101 #[.int .u64 (keyI g.secret nx)] (by kernel_rfl) (by kernel_rfl) (by kernel_rfl) (by kernel_rfl) (fun w => (by kernel_rfl)) (fun w hw => (gEight_any (keyI g.secret nx) (keyI_range _ _).1 (keyI_range _ _).2 w).mono ?hx20_214) ?_
  case hx20_214 =>
    rintro e w' ⟨rfl, hE, hb⟩
    exact ⟨_, rfl, ⟨fun e => absurd e (by decide), fun e => absurd e (by decide), fun _ => ⟨w.heap.size, rfl, RdB.blk hE⟩, fun e => absurd e (by decide), fun e => absurd e (by decide)⟩, hw.1.trans (hb.mono hw.1.size), hb⟩
  rintro v ⟨w', hw', hW⟩
  obtain ⟨gE, rfl, h4⟩ := hW.2.2.1 rfl
  clear h4 hW hw' w'
  refine fq 215 (.agg (hfc (some ⟨gE, 0, none⟩) 8)) (by kernel_rfl) (by kernel_rfl) (by kernel_rfl) (by kernel_rfl) (fun w => (by kernel_rfl)) ?_
  refine fnew 216 (fun w => .slice (some ⟨w.heap.size, 0, none⟩) 1 1) (fun w => w.alloc (.cells (hfc (some ⟨gE, 0, none⟩) 8) 68)) (by kernel_rfl) (by kernel_rfl) (by kernel_rfl) (by kernel_rfl) (fun w => (by kernel_rfl)) (fun w hw => ⟨⟨fun e => absurd e (by decide), fun e => absurd e (by decide), fun e => absurd e (by decide), fun _ => ⟨w.heap.size, gE, rfl, RdX.oneF _ _ _ _ _, (by obtain ⟨gE2, e1, e2⟩ := (hw.2 _ List.mem_cons_self (by kernel_rfl)).2.2.1 rfl; obtain rfl : gE = gE2 := (by injection e1 with e1; simpa using e1); exact e2.below ((Below.refl _ _).alloc (Nat.le_refl _) _))⟩, fun e => absurd e (by decide)⟩, hw.1.alloc hw.1.size _, (Below.refl _ _).alloc (Nat.le_refl _) _⟩) ?_
  rintro v ⟨w', hw', hW⟩
  obtain ⟨gF, gE2, rfl, h4, h5⟩ := hW.2.2.2.1 rfl
  clear h4 h5 hW hw' w'
  refine fcall 217 23 #[.int .u64 (keyI 1 f), .agg #[.int .i64 (0 : Nat), .int .i64 f, .int .i64 nx, .slice none 0 0, .int .i64 0, .int .i64 0], .int .i64 (0 : Nat), .int .i64 (-1), .slice (some ⟨gF, 0, none⟩) 1 1] (by kernel_rfl) (by kernel_rfl) (by kernel_rfl) (by kernel_rfl) (fun w => (by kernel_rfl)) (fun w hw => ?hx23_217) ?_
  case hx23_217 =>
    obtain ⟨gF2, gE2, e1, e2, e3⟩ := (hw.2 _ List.mem_cons_self (by kernel_rfl)).2.2.2.1 rfl
    obtain rfl : gF = gF2 := by injection e1 with e1; simpa using e1
    refine (greet_any (keyI 1 f) (keyI_range _ _).1 (keyI_range _ _).2 f nx hf hnx5 none 0 0 [] rfl (by decide) (keyI g.secret nx).toNat (some ⟨gE2, 0, none⟩) 8 (by decide) (by decide) (some ⟨gF, 0, none⟩) w Rd.nil e2 e3).mono ?_
    rintro e w' ⟨D, dc, rfl, hD, hb⟩
    exact ⟨_, rfl, ⟨fun e => absurd e (by decide), fun e => absurd e (by decide), fun e => absurd e (by decide), fun e => absurd e (by decide), fun _ => ⟨D, dc, rfl, hD.mono (Nat.zero_le _)⟩⟩, hw.1.trans (hb.mono hw.1.size), hb⟩
  rintro v ⟨w', hw', hW⟩
  obtain ⟨D, dc, rfl, h4⟩ := hW.2.2.2.2 rfl
  clear h4 hW hw' w'
  refine fq 193 (.tuple #[.slice D 24 dc, .int .i64 0]) (by kernel_rfl) (by kernel_rfl) (by kernel_rfl) (by kernel_rfl) (fun w => (by kernel_rfl)) ?_
  refine fq 218 (.slice D 24 dc) (by kernel_rfl) (by kernel_rfl) (by kernel_rfl) (by kernel_rfl) (fun w => (by kernel_rfl)) ?_
  refine fq 219 (.int .i64 0) (by kernel_rfl) (by kernel_rfl) (by kernel_rfl) (by kernel_rfl) (fun w => (by kernel_rfl)) ?_
  refine fend [27, 28] (by kernel_rfl) (by kernel_rfl) ?_
  intro w12 hw12 hF
  obtain ⟨D2, dc2, e2, hOD⟩ := (hF _ List.mem_cons_self).2.2.2.2 rfl
  obtain ⟨rfl, rfl⟩ : D = D2 ∧ dc = dc2 := by injection e2 with e2; simpa using e2
  clear hF e2
  refine tval (some 20) (.slice D 24 dc) w12 (by kernel_rfl) (by kernel_rfl) (by kernel_rfl) ?_
  refine tval (some 13) (.int .i64 0) w12 (by kernel_rfl) (by kernel_rfl) (by kernel_rfl) ?_
  refine tend ?_
  go_simp
  refine (show ∀ (a : Act) (w : World), Code.wp _ _ _ a w → _ from by assumption) _ _ ?_
  refine wp_world (fun w' => OwnX u8c 1 w' 0 5 D dc (greetB (keyI 1 f) f nx [] (keyI g.secret nx).toNat) ∧ Below w11.heap.size w11 w') ⟨hOD, hw12⟩ ?_
  clear hOD hw12 HID f0
  rintro w13 ⟨hOD, hw13⟩
  have HV13 := Lib.hid (HV11.out.carry hw13)
  have f6 : w13.cell? ⟨q, 0, none⟩ = some (.int .i64 p) := (HP11.out.carry hw13).one0
  have hql : q < w13.heap.size := (HP11.out.carry hw13).lt
  have HB13 := Lib.hid (HB11.out.trans (hw13.mono (by have := HB11.out.size; omega)))
  have HOD := Lib.hid hOD
  have hGL : (greetB (keyI 1 f) f nx [] (keyI g.secret nx).toNat).length = 24 := greetB_len _ _ _ [] _ (by decide)
  have HGL := Lib.hid hGL
  clear hOD hw13 HV11 HP11 HH11 HB11 hGL
  go_wp2_with fail
  refine (send_yes p hp D 24 dc (greetB (keyI 1 f) f nx [] (keyI g.secret nx).toNat) HGL.out (by decide) base gd g.up (some ⟨b2, o2, none⟩) (n + 1) c7 (xs ++ [newN g f p x cA cc cB cd]) O m co hm10 ms HOK.out h1 h3 h5 w13 HV13.out HOD.out (by have := HB13.out.size; omega)).mono ?_
  rintro e w14 ⟨rfl, ⟨O', co', hV14⟩, hb14⟩
  go_wp2_with fail
  go_ret
  exact ⟨rfl, ⟨_, _, O', co', D, dc, cA, cc, cB, cd, hcc, hcd, hV14⟩, HB13.out.trans hb14⟩
  -- ]]p4
  -- ]]p7
  -- ]]p6
  -- ]]p5
  -- ]]p3
  -- ]]p2
  -- ]]p1
end Go.Proofs.YtbcagdjfegobnaaGreat
/- Gates whose connections have just begun: the contract of desk.first where a token is asked for. -/
namespace Go.Proofs.YtbcagdjfegobnaaGreat
open Go.ChangeShapes Go.WideShapes Go.ChangeAt Go.RowKit
set_option linter.unusedVariables false

def tl3 (t : Tly) : Array Value := #[.bool t.1, .int .i64 t.2.1, .int .i64 t.2.2]
theorem tl3_one (t : Tly) : ∀ u ∈ (tl3 t).toList, u.oneCell' = true := by
  intro u hu
  simp only [tl3, List.mem_cons, List.not_mem_nil, or_false] at hu
  rcases hu with rfl | rfl | rfl <;> rfl
theorem tly_part (g : GtD) (A : Option Addr) (n c : Nat) (O : Option Addr) (m co : Nat) (p : Nat) (hp : p < 4) : ∀ j v, (tl3 (g.t p))[j]? = some v → (dkc g A n c O m co)[4 + p * 3 + j]? = some v := by
  intro j v hv
  have hj : j < 3 := (Array.getElem?_eq_some_iff.1 hv).1
  rcases (show p = 0 ∨ p = 1 ∨ p = 2 ∨ p = 3 by omega) with rfl | rfl | rfl | rfl <;> rcases (show j = 0 ∨ j = 1 ∨ j = 2 by omega) with rfl | rfl | rfl <;> exact hv
theorem tly_at {w : World} {gd : Nat} {g : GtD} {A : Option Addr} {n c : Nat} {O : Option Addr} {m co : Nat} (h : Blk w gd 133 (dkc g A n c O m co)) (p : Nat) (hp : p < 4) : ∀ j v, (tl3 (g.t p))[j]? = some v → w.cell? ⟨gd, 4 + p * 3 + j, none⟩ = some v :=
  h.part (4 + p * 3) (tl3 (g.t p)) (tly_part g A n c O m co p hp)
theorem tly_put (g : GtD) (A : Option Addr) (n c : Nat) (O : Option Addr) (m co : Nat) (p : Nat) (hp : p < 4) (v : Tly) :
    ((dkc g A n c O m co).toList.take (4 + p * 3) ++ (tl3 v).toList ++ (dkc g A n c O m co).toList.drop (4 + p * 3 + (tl3 v).size)).toArray = dkc (g.set p v) A n c O m co := by
  rcases (show p = 0 ∨ p = 1 ∨ p = 2 ∨ p = 3 by omega) with rfl | rfl | rfl | rfl <;> simp [dkc, tl3, GtD.set, upd]

set_option maxRecDepth 100000 in
set_option maxHeartbeats 8000000 in
theorem first_refuses (p : Nat) (hp : p < 4) (t f x : Nat) (ht : t ≤ 255) (hf : f ≤ 255) (hx : x < 18446744073709551616) (T : Option Addr) (tn tc : Nat) (tok : List UInt8) (htn : tok.length = tn) (htk : tn ≤ 63) (U : Nat) (hU : (pktHd ⟨0, t, f, tok, 0, 0⟩ 1 0).length = U)
    (B : Option Addr) (bc : Nat) (hbc : 24 + tn ≤ bc) (hbm : bc ≤ 9223372036854775807) (base gd : Nat) (g : GtD) (A : Option Addr) (n c : Nat) (xs : List NtB) (O : Option Addr) (m co : Nat) (hm10 : m ≤ 100) (ms : List MlB)
    (ok : TlyOk (g.t p)) (h1 : (g.t p).2.1 ≤ 1099511627376) (h3 : (g.t p).2.2 ≤ 1099511627376) (h5 : (g.t p).1 = true ∨ (g.t p).2.2 + 20 ≤ 3 * (g.t p).2.1)
    (s0 : 0 ≤ g.secret) (s1 : g.secret < 18446744073709551616) (n0 : 0 ≤ g.now) (n1 : g.now ≤ 1099511627776) (nx : Nat) (hnx : g.next = nx) (hnx5 : nx ≤ 255) (hn : n ≤ 2) (hret : g.retry = true) (hnot : xs.any (fun x => decide (x.peer = p) && decide (x.from_ = f)) = false)
    (E : Int) (hE : E ≠ 0) (w : World) (hck : ∀ W, Below w.heap.size w W → Calls Tryz.prog 97 #[.int .u64 g.secret, .int .i64 p, .int .i64 g.now, .slice T tn tc] W fun e w' => e = .returned (.int .i64 E) ∧ Below W.heap.size W w') (h : DkV w base gd g A n c xs O m co ms) (hbase : base ≤ w.heap.size) (hB : RdB w B (greetB (keyI 1 f) t f tok x)) :
    Calls Tryz.prog 60 #[.pointer (some ⟨gd, 0, none⟩), .int .i64 p, .agg #[.int .i64 (0 : Nat), .int .i64 t, .int .i64 f, .slice T tn tc, .int .i64 (0 : Nat), .int .i64 (1 : Nat)], .int .i64 (U : Nat), .slice B (24 + tn) bc] w fun e w' => e = .returned (.int .i64 E) ∧
      (∃ O' co' D dc, DkV w' base gd (g.set p ((g.t p).1, (g.t p).2.1, (g.t p).2.2 + 20)) A n c xs O' (m + 1) co' (ms ++ [⟨p, D, 20, dc, retryB f (tokB g.secret p g.now)⟩])) ∧ Below base w w' := by
  have hn2 : (24 + tn ≤ 100) := by omega
  have hBL := greetB_len (keyI 1 f) t f tok x (by omega)
  rw [htn] at hBL
  have hb0 : B = none → bc = 0 := fun e => by
    obtain ⟨b, off, e2⟩ := Blk.noneF hB hBL (by omega)
    rw [e2] at e; cases e
  have hUl : U ≤ 100000 := by
    have : (greetB (keyI 1 f) t f tok x).length = (pktHd ⟨0, t, f, tok, 0, 0⟩ 1 0).length + (sealB (keyI 1 f) (0 : Nat) (pktHd ⟨0, t, f, tok, 0, 0⟩ 1 0) ([helloFr x].flatMap fenc)).length := by unfold greetB pktB; rw [List.length_append]
    omega
  have HUN := Lib.hid (fun W hW => unpack_any (keyI 1 f) (keyI_range _ _).1 (keyI_range _ _).2 0 t f T tn tc 0 1 U (by decide) (by decide) (-1) (by decide) (by decide) hUl B (24 + tn) bc _ hBL hbc hbm (by omega) hb0 W hW)
  rw [← hU, greetB_unpack, hU] at HUN
  have HV := Lib.hid h
  have HCK := Lib.hid hck
  clear hck
  have HBW := Lib.hid (Below.refl w.heap.size w)
  have HB := Lib.hid hB
  have HOK := Lib.hid ok
  have HNOT := Lib.hid hnot
  have hgl := h.d.lt
  clear h hB ok hb0 hBL hnot
  go_enter Tryz.func60, Tryz.ntmps60
  go_upto_region 1 with (fail)
  refine wp_world (fun w' => Blk w' w.heap.size 3 #[.int .i64 p] ∧ Blk w' (w.heap.size + 1) 61 #[.int .i64 (0 : Nat), .int .i64 t, .int .i64 f, .slice T tn tc, .int .i64 (0 : Nat), .int .i64 (1 : Nat)] ∧ Below w.heap.size w w') ⟨(Blk.new _ _ _).alloc _, Blk.new1 _ _ _ _, ((Below.refl _ _).alloc (Nat.le_refl _) _).alloc (by simp) _⟩ ?_
  rintro w1 ⟨hP, hH, hb1⟩
  obtain ⟨q, hq⟩ : ∃ q, w.heap.size = q := ⟨_, rfl⟩
  obtain ⟨q1, hq1⟩ : ∃ q1, w.heap.size + 1 = q1 := ⟨_, rfl⟩
  rw [hq1] at hH ⊢
  rw [hq] at hP ⊢
  have HP := Lib.hid hP
  have HH := Lib.hid hH
  have HV1 := Lib.hid (HV.out.carry hb1)
  have HB1 := Lib.hid (hb1.mono hbase)
  have HBW1 := Lib.hid hb1
  have hs1 := hb1.size
  have HB := Lib.hid (HB.out.below hb1)
  clear hP hH hb1 HV hq hq1
  refine wp_flow (fun k => decide (k < 11)) (fun k => k == 2 || k == 6) 227 [0, 1, 2, 3, 4, 5, 6, 7, 8, 9, 10] (fun w' => Below w1.heap.size w1 w') (fun k a v w' => (k = 2 → v = .int .u64 (keyI 1 f)) ∧ (k = 6 → ∃ L lc ys, v = .tuple #[.int .i64 0, .slice L 1 lc, .int .i64 0] ∧ ys.map (·.f) = [helloFr x] ∧ FrRd w' L ys ∧ 1 ≤ lc ∧ lc ≤ 9223372036854775807)) (by kernel_rfl) ?hflB ?hpuB ?hksB (fun _ _ _ _ _ h => h) rfl ?hst ?hC ?_
  case hflB => kernel_rfl
  case hpuB => kernel_rfl
  case hksB => kernel_rfl
  case hst => exact ⟨fun w0 w1 h1 hb => h1.trans (hb.mono h1.size), fun k a v w0 w1 hW hb => ⟨fun e => (fun hp => hp) (hW.1 e), fun e => (fun hp => by obtain ⟨L, lc, ys, e1, e2, e3, e4⟩ := hp; exact ⟨L, lc, ys, e1, e2, e3.below hb, e4⟩) (hW.2 e)⟩, fun k a b v w0 _ h => h⟩
  case hC => exact (Below.refl _ _).drew
  refine fq 22 (.pointer (some ⟨q1, 2, none⟩)) (by kernel_rfl) (by kernel_rfl) (by kernel_rfl) (by kernel_rfl) (fun w => (by kernel_rfl)) ?_
  refine fq1 23 (.int .i64 f) 3 (.tmp 22) q1 2 _ (by kernel_rfl) (by kernel_rfl) (by kernel_rfl) (by kernel_rfl) (by kernel_rfl) (by kernel_rfl) Tryz.underlying3 rfl (fun w hw => cell_on hw.1 HH.out.lt HH.out.two2) ?_
  refine fcall 24 24 #[.int .i64 f] (by kernel_rfl) (by kernel_rfl) (by kernel_rfl) (by kernel_rfl) (fun w => (by kernel_rfl)) (fun w hw => (first_any f w).mono ?hx2_24) ?_
  case hx2_24 =>
    rintro e w' ⟨rfl, rfl⟩
    exact ⟨_, rfl, ⟨fun _ => rfl, fun e => absurd e (by decide)⟩, hw.1, Below.refl _ _⟩
  rintro v ⟨w', hw', hW⟩
  obtain rfl := hW.1 rfl
  clear  hW hw' w'
  refine fqR 25 #[.int .i64 (0 : Nat), .int .i64 t, .int .i64 f, .slice T tn tc, .int .i64 (0 : Nat), .int .i64 (1 : Nat)] 61 (.tmp 7) q1 0 _ (by kernel_rfl) (by kernel_rfl) (by kernel_rfl) (by kernel_rfl) (by kernel_rfl) (by kernel_rfl) Tryz.underlying61 rfl (by kernel_rfl) (fun w hw => (HH.out.carry hw.1).whole) ?_
  refine fq 26 (.int .i64 (U : Nat)) (by kernel_rfl) (by kernel_rfl) (by kernel_rfl) (by kernel_rfl) (fun w => (by kernel_rfl)) ?_
  refine fq 27 (.slice B (24 + tn) bc) (by kernel_rfl) (by kernel_rfl) (by kernel_rfl) (by kernel_rfl) (fun w => (by kernel_rfl)) ?_
  refine fcall 28 32 #[.int .u64 (keyI 1 f), .agg #[.int .i64 (0 : Nat), .int .i64 t, .int .i64 f, .slice T tn tc, .int .i64 (0 : Nat), .int .i64 (1 : Nat)], .int .i64 (U : Nat), .int .i64 (-1), .slice B (24 + tn) bc] (by kernel_rfl) (by kernel_rfl) (by kernel_rfl) (by kernel_rfl) (fun w => (by kernel_rfl)) (fun w hw => (HUN.out w (HB.out.below hw.1)).mono ?hx6_28) ?_
  case hx6_28 =>
    rintro e w' ⟨L, k, lc, ys, rfl, hys, hk, hrow, hb⟩
    obtain rfl : k = 1 := by rw [← hk]; have := congrArg List.length hys; simpa using this
    exact ⟨_, rfl, ⟨fun e => absurd e (by decide), fun _ => ⟨L, lc, ys, rfl, hys, hrow.rd, by have := hrow.1.cap; omega, hrow.1.cap.2⟩⟩, hw.1.trans (hb.mono hw.1.size), hb⟩
  rintro v ⟨w', hw', hW⟩
  obtain ⟨L, lc, ys, rfl, hys, h4, hlc1, hlc2⟩ := hW.2 rfl
  clear h4 hW hw' w'
  refine fq 21 (.tuple #[.int .i64 0, .slice L 1 lc, .int .i64 0]) (by kernel_rfl) (by kernel_rfl) (by kernel_rfl) (by kernel_rfl) (fun w => (by kernel_rfl)) ?_
  refine fq 29 (.int .i64 0) (by kernel_rfl) (by kernel_rfl) (by kernel_rfl) (by kernel_rfl) (fun w => (by kernel_rfl)) ?_
  refine fq 30 (.slice L 1 lc) (by kernel_rfl) (by kernel_rfl) (by kernel_rfl) (by kernel_rfl) (fun w => (by kernel_rfl)) ?_
  refine fq 31 (.int .i64 0) (by kernel_rfl) (by kernel_rfl) (by kernel_rfl) (by kernel_rfl) (fun w => (by kernel_rfl)) ?_
  refine fend [11, 12, 13] (by kernel_rfl) (by kernel_rfl) ?_
  intro w2 hw2 hF
  obtain ⟨L2, lc2, ys2, e2, hys2, hL, _, _⟩ := (hF _ List.mem_cons_self).2 rfl
  obtain ⟨rfl, rfl⟩ : L = L2 ∧ lc = lc2 := by injection e2 with e2; simpa using e2
  clear hF e2 hys ys
  refine tval (some 11) (.int .i64 0) w2 (by kernel_rfl) (by kernel_rfl) (by kernel_rfl) ?_
  refine tval (some 12) (.slice L 1 lc) w2 (by kernel_rfl) (by kernel_rfl) (by kernel_rfl) ?_
  refine tval (some 13) (.int .i64 0) w2 (by kernel_rfl) (by kernel_rfl) (by kernel_rfl) ?_
  refine tend ?_
  go_simp
  refine (show ∀ (a : Act) (w : World), Code.wp _ _ _ a w → _ from by assumption) _ _ ?_
  refine wp_world (fun w' => FrRd w' L ys2 ∧ Below w1.heap.size w1 w') ⟨hL, hw2⟩ ?_
  clear hL hw2 HUN HB
  rintro w3 ⟨hL, hw3⟩
  have HV3 := Lib.hid (HV1.out.carry hw3)
  have HP3 := Lib.hid (HP.out.carry hw3)
  have HH3 := Lib.hid (HH.out.carry hw3)
  have HB3 := Lib.hid (HB1.out.trans (hw3.mono (by have := HB1.out.size; omega)))
  have HBW3 := Lib.hid (HBW1.out.trans (hw3.mono HBW1.out.size))
  have HL := Lib.hid hL
  clear hL hw3 HV1 HP HH HB1
  have HE := hello_any L 1 lc ys2 (by have := congrArg List.length hys2; simpa using this) (by decide) hlc1 hlc2 w3 HL.out
  rw [hys2, helloF_hello x hx] at HE
  have HE := Lib.hid HE
  go_wp2_with fail
  refine HE.out.mono ?_
  rintro e w4 ⟨rfl, hb4⟩
  have HV4 := Lib.hid (HV3.out.carry hb4)
  have HP4 := Lib.hid (HP3.out.carry hb4)
  have HH4 := Lib.hid (HH3.out.carry hb4)
  have HB4 := Lib.hid (HB3.out.trans (hb4.mono (by have := HB3.out.size; omega)))
  have HBW4 := Lib.hid (HBW3.out.trans (hb4.mono HBW3.out.size))
  clear hb4 HE HL HV3 HP3 HH3 HB3
  have f3 : w4.cell? ⟨gd, 3, none⟩ = some (.slice A n c) := by rw [HV4.out.d.cell]; rfl
  have HNT := Lib.hid (note_first (.pointer (some ⟨q, 0, none⟩)) (.pointer (some ⟨q1, 0, none⟩)) gd A n c xs HV4.out.hn (by have := HV4.out.nt.cap; rw [HV4.out.hn] at this; exact this.1) (by have := HV4.out.nt.cap; exact this.2) (by omega) (fun x => decide (x.peer = p) && decide (x.from_ = f)) w4 HV4.out.nt.rd f3 HV4.out.d.lt
    (fun W hW x hx => ask_first x p f q q1 W (HP4.out.carry hW).one0 (HH4.out.carry hW).two2 (HP4.out.carry hW).lt (HH4.out.carry hW).lt))
  have HNA := Lib.hid (noteAt_none (A := A) HNOT.out)
  clear f3
  go_wp2_with fail
  refine HNT.out.mono ?_
  rintro e w5 ⟨rfl, hb5⟩
  rw [HNA.out]
  have HV5 := Lib.hid (HV4.out.carry hb5)
  have HP5 := Lib.hid (HP4.out.carry hb5)
  have HH5 := Lib.hid (HH4.out.carry hb5)
  have HB5 := Lib.hid (HB4.out.trans (hb5.mono (by have := HB4.out.size; omega)))
  have HB5w := Lib.hid (HBW4.out.trans (hb5.mono HBW4.out.size))
  clear hb5 HNT HNA HV4 HP4 HH4 HB4
  have f0 : w5.cell? ⟨gd, 0, none⟩ = some (.int .u64 g.secret) := by rw [HV5.out.d.cell]; rfl
  have f1 : w5.cell? ⟨gd, 1, none⟩ = some (.int .i64 g.now) := by rw [HV5.out.d.cell]; rfl
  have f3 : w5.cell? ⟨gd, 3, none⟩ = some (.slice A n c) := by rw [HV5.out.d.cell]; rfl
  have f16 : w5.cell? ⟨gd, 16, none⟩ = some (.bool g.retry) := by rw [HV5.out.d.cell]; rfl
  have hgl5 := HV5.out.d.lt
  rw [hret] at f16
  go_upto_region 10 with (fail)
  refine wp_flow (fun k => decide (k < 14)) (fun k => k == 13) 227 [0, 1, 2, 3, 4, 5, 6, 7, 8, 9, 10, 11, 12, 13] (fun w' => Below w5.heap.size w5 w') (fun k a v w' => (k = 13 → v = .int .i64 E)) (by kernel_rfl) ?hflB ?hpuB ?hksB (fun _ _ _ _ _ h => h) rfl ?hst ?hC ?_
  case hflB => kernel_rfl
  case hpuB => kernel_rfl
  case hksB => kernel_rfl
  case hst => exact ⟨fun w0 w1 h1 hb => h1.trans (hb.mono h1.size), fun k a v w0 w1 hW hb => (fun e => (fun hp => hp) (hW e)), fun k a b v w0 _ h => h⟩
  case hC => exact (Below.refl _ _).drew
  refine fq 61 (.pointer (some ⟨gd, 0, none⟩)) (by kernel_rfl) (by kernel_rfl) (by kernel_rfl) (by kernel_rfl) (fun w => (by kernel_rfl)) ?_
  refine fq 62 (.pointer (some ⟨gd, 0, none⟩)) (by kernel_rfl) (by kernel_rfl) (by kernel_rfl) (by kernel_rfl) (fun w => (by kernel_rfl)) ?_
  refine fq 63 (.pointer (some ⟨gd, 0, none⟩)) (by kernel_rfl) (by kernel_rfl) (by kernel_rfl) (by kernel_rfl) (fun w => (by kernel_rfl)) ?_
  refine fq 64 (.pointer (some ⟨gd, 0, none⟩)) (by kernel_rfl) (by kernel_rfl) (by kernel_rfl) (by kernel_rfl) (fun w => (by kernel_rfl)) ?_
  refine fq1 65 (.int .u64 g.secret) 23 (.tmp 64) gd 0 _ (by kernel_rfl) (by kernel_rfl) (by kernel_rfl) (by kernel_rfl) (by kernel_rfl) (by kernel_rfl) Tryz.underlying23 rfl (fun w hw => cell_on hw.1 HV5.out.d.lt f0) ?_
  refine fq1 66 (.int .i64 p) 3 (.tmp 6) q 0 _ (by kernel_rfl) (by kernel_rfl) (by kernel_rfl) (by kernel_rfl) (by kernel_rfl) (by kernel_rfl) Tryz.underlying3 rfl (fun w hw => cell_on hw.1 HP5.out.lt HP5.out.one0) ?_
  refine fq 67 (.pointer (some ⟨gd, 0, none⟩)) (by kernel_rfl) (by kernel_rfl) (by kernel_rfl) (by kernel_rfl) (fun w => (by kernel_rfl)) ?_
  refine fq 68 (.pointer (some ⟨gd, 0, none⟩)) (by kernel_rfl) (by kernel_rfl) (by kernel_rfl) (by kernel_rfl) (fun w => (by kernel_rfl)) ?_
  refine fq 69 (.pointer (some ⟨gd, 0, none⟩)) (by kernel_rfl) (by kernel_rfl) (by kernel_rfl) (by kernel_rfl) (fun w => (by kernel_rfl)) ?_
  refine fq 70 (.pointer (some ⟨gd, 1, none⟩)) (by kernel_rfl) (by kernel_rfl) (by kernel_rfl) (by kernel_rfl) (fun w => (by kernel_rfl)) ?_
  refine fq1 71 (.int .i64 g.now) 3 (.tmp 70) gd 1 _ (by kernel_rfl) (by kernel_rfl) (by kernel_rfl) (by kernel_rfl) (by kernel_rfl) (by kernel_rfl) Tryz.underlying3 rfl (fun w hw => cell_on hw.1 HV5.out.d.lt f1) ?_
  refine fq 72 (.pointer (some ⟨q1, 3, none⟩)) (by kernel_rfl) (by kernel_rfl) (by kernel_rfl) (by kernel_rfl) (fun w => (by kernel_rfl)) ?_
  refine fq1 73 (.slice T tn tc) 30 (.tmp 72) q1 3 _ (by kernel_rfl) (by kernel_rfl) (by kernel_rfl) (by kernel_rfl) (by kernel_rfl) (by kernel_rfl) Tryz.underlying30 rfl (fun w hw => cell_on hw.1 HH5.out.lt (by rw [HH5.out.cell]; rfl)) ?_
  refine fcall 74 97 #[.int .u64 g.secret, .int .i64 p, .int .i64 g.now, .slice T tn tc] (by kernel_rfl) (by kernel_rfl) (by kernel_rfl) (by kernel_rfl) (fun w => (by kernel_rfl)) (fun w hw => (HCK.out w (HB5w.out.trans (hw.1.mono HB5w.out.size))).mono ?hx13_74) ?_
  case hx13_74 =>
    rintro e w' ⟨rfl, hb⟩
    exact ⟨_, rfl, (fun _ => rfl), hw.1.trans (hb.mono hw.1.size), hb⟩
  rintro v ⟨w', hw', hW⟩
  obtain rfl := hW rfl
  clear  hW hw' w'
  refine fend [14] (by kernel_rfl) (by kernel_rfl) ?_
  intro w10 hw10 _
  refine tval (some 17) (.int .i64 E) w10 (by kernel_rfl) (by kernel_rfl) (by kernel_rfl) ?_
  refine tend ?_
  go_simp
  refine (show ∀ (a : Act) (w : World), Code.wp _ _ _ a w → _ from by assumption) _ _ ?_
  refine wp_world (fun w' => DkV w' base gd g A n c xs O m co ms ∧ Blk w' q 3 #[.int .i64 p] ∧ Blk w' q1 61 #[.int .i64 (0 : Nat), .int .i64 t, .int .i64 f, .slice T tn tc, .int .i64 (0 : Nat), .int .i64 (1 : Nat)] ∧ Below base w w') ⟨HV5.out.carry hw10, HP5.out.carry hw10, HH5.out.carry hw10, HB5.out.trans (hw10.mono (by have := HB5.out.size; omega))⟩ ?_
  clear f0 f1 f3 f16 hw10 HV5 HP5 HH5 HB5 HB5w HCK
  rintro w5 ⟨hV, hP, hH, hb⟩
  have HV5 := Lib.hid hV
  have HP5 := Lib.hid hP
  have HH5 := Lib.hid hH
  have HB5 := Lib.hid hb
  clear hV hP hH hb
  have f6 : w5.cell? ⟨q, 0, none⟩ = some (.int .i64 p) := HP5.out.one0
  have hql : q < w5.heap.size := HP5.out.lt
  have hE' : (E == 0) = false := by simpa using hE
  go_wp2_with (refine wpList_loadR rfl 61 (.tmp 7) rfl q1 0 rfl #[.int .i64 (0 : Nat), .int .i64 t, .int .i64 f, .slice T tn tc, .int .i64 (0 : Nat), .int .i64 (1 : Nat)] _ Tryz.underlying61 rfl (by kernel_rfl) HH5.out.whole ?_)
  refine (retry_ok p hp 0 t f hf T tn tc (0 : Nat) (1 : Nat) base gd g A n c xs O m co hm10 ms HOK.out h1 h3 h5 s0 s1 n0 n1 w5 HV5.out (by have := HB5.out.size; omega)).mono ?_
  rintro e w6 ⟨rfl, ⟨O', co', D, dc, hV6⟩, hb6⟩
  go_wp2_with fail
  go_ret
  exact ⟨rfl, ⟨O', co', D, dc, hV6⟩, HB5.out.trans hb6⟩

set_option maxRecDepth 100000 in
set_option maxHeartbeats 8000000 in
theorem first_full (p : Nat) (hp : p < 4) (t f x : Nat) (ht : t ≤ 255) (hf : f ≤ 255) (hx : x < 18446744073709551616) (T : Option Addr) (tn tc : Nat) (tok : List UInt8) (htn : tok.length = tn) (htk : tn ≤ 63) (U : Nat) (hU : (pktHd ⟨0, t, f, tok, 0, 0⟩ 1 0).length = U)
    (B : Option Addr) (bc : Nat) (hbc : 24 + tn ≤ bc) (hbm : bc ≤ 9223372036854775807) (base gd : Nat) (g : GtD) (A : Option Addr) (n c : Nat) (xs : List NtB) (O : Option Addr) (m co : Nat) (hm10 : m ≤ 100) (ms : List MlB)
    (ok : TlyOk (g.t p)) (h1 : (g.t p).2.1 ≤ 1099511627376) (h3 : (g.t p).2.2 ≤ 1099511627376) (h5 : (g.t p).1 = true ∨ (g.t p).2.2 + 20 ≤ 3 * (g.t p).2.1)
    (s0 : 0 ≤ g.secret) (s1 : g.secret < 18446744073709551616) (n0 : 0 ≤ g.now) (n1 : g.now ≤ 1099511627776) (nx : Nat) (hnx : g.next = nx) (hnx5 : nx ≤ 255) (hn : n = 2) (hret : g.retry = false) (hnot : xs.any (fun x => decide (x.peer = p) && decide (x.from_ = f)) = false)
    (E : Int) (hE : E ≠ 0) (w : World) (hck : ∀ W, Below w.heap.size w W → Calls Tryz.prog 97 #[.int .u64 g.secret, .int .i64 p, .int .i64 g.now, .slice T tn tc] W fun e w' => e = .returned (.int .i64 E) ∧ Below W.heap.size W w') (h : DkV w base gd g A n c xs O m co ms) (hbase : base ≤ w.heap.size) (hB : RdB w B (greetB (keyI 1 f) t f tok x)) :
    Calls Tryz.prog 60 #[.pointer (some ⟨gd, 0, none⟩), .int .i64 p, .agg #[.int .i64 (0 : Nat), .int .i64 t, .int .i64 f, .slice T tn tc, .int .i64 (0 : Nat), .int .i64 (1 : Nat)], .int .i64 (U : Nat), .slice B (24 + tn) bc] w fun e w' => e = .returned (.int .i64 E) ∧
      (∃ O' co' D dc, DkV w' base gd (g.set p ((g.t p).1, (g.t p).2.1, (g.t p).2.2 + 20)) A n c xs O' (m + 1) co' (ms ++ [⟨p, D, 20, dc, retryB f (tokB g.secret p g.now)⟩])) ∧ Below base w w' := by
  have hn2 : (24 + tn ≤ 100) := by omega
  have hBL := greetB_len (keyI 1 f) t f tok x (by omega)
  rw [htn] at hBL
  have hb0 : B = none → bc = 0 := fun e => by
    obtain ⟨b, off, e2⟩ := Blk.noneF hB hBL (by omega)
    rw [e2] at e; cases e
  have hUl : U ≤ 100000 := by
    have : (greetB (keyI 1 f) t f tok x).length = (pktHd ⟨0, t, f, tok, 0, 0⟩ 1 0).length + (sealB (keyI 1 f) (0 : Nat) (pktHd ⟨0, t, f, tok, 0, 0⟩ 1 0) ([helloFr x].flatMap fenc)).length := by unfold greetB pktB; rw [List.length_append]
    omega
  have HUN := Lib.hid (fun W hW => unpack_any (keyI 1 f) (keyI_range _ _).1 (keyI_range _ _).2 0 t f T tn tc 0 1 U (by decide) (by decide) (-1) (by decide) (by decide) hUl B (24 + tn) bc _ hBL hbc hbm (by omega) hb0 W hW)
  rw [← hU, greetB_unpack, hU] at HUN
  have HV := Lib.hid h
  have HCK := Lib.hid hck
  clear hck
  have HBW := Lib.hid (Below.refl w.heap.size w)
  have HB := Lib.hid hB
  have HOK := Lib.hid ok
  have HNOT := Lib.hid hnot
  have hgl := h.d.lt
  clear h hB ok hb0 hBL hnot
  go_enter Tryz.func60, Tryz.ntmps60
  go_upto_region 1 with (fail)
  refine wp_world (fun w' => Blk w' w.heap.size 3 #[.int .i64 p] ∧ Blk w' (w.heap.size + 1) 61 #[.int .i64 (0 : Nat), .int .i64 t, .int .i64 f, .slice T tn tc, .int .i64 (0 : Nat), .int .i64 (1 : Nat)] ∧ Below w.heap.size w w') ⟨(Blk.new _ _ _).alloc _, Blk.new1 _ _ _ _, ((Below.refl _ _).alloc (Nat.le_refl _) _).alloc (by simp) _⟩ ?_
  rintro w1 ⟨hP, hH, hb1⟩
  obtain ⟨q, hq⟩ : ∃ q, w.heap.size = q := ⟨_, rfl⟩
  obtain ⟨q1, hq1⟩ : ∃ q1, w.heap.size + 1 = q1 := ⟨_, rfl⟩
  rw [hq1] at hH ⊢
  rw [hq] at hP ⊢
  have HP := Lib.hid hP
  have HH := Lib.hid hH
  have HV1 := Lib.hid (HV.out.carry hb1)
  have HB1 := Lib.hid (hb1.mono hbase)
  have HBW1 := Lib.hid hb1
  have hs1 := hb1.size
  have HB := Lib.hid (HB.out.below hb1)
  clear hP hH hb1 HV hq hq1
  refine wp_flow (fun k => decide (k < 11)) (fun k => k == 2 || k == 6) 227 [0, 1, 2, 3, 4, 5, 6, 7, 8, 9, 10] (fun w' => Below w1.heap.size w1 w') (fun k a v w' => (k = 2 → v = .int .u64 (keyI 1 f)) ∧ (k = 6 → ∃ L lc ys, v = .tuple #[.int .i64 0, .slice L 1 lc, .int .i64 0] ∧ ys.map (·.f) = [helloFr x] ∧ FrRd w' L ys ∧ 1 ≤ lc ∧ lc ≤ 9223372036854775807)) (by kernel_rfl) ?hflB ?hpuB ?hksB (fun _ _ _ _ _ h => h) rfl ?hst ?hC ?_
  case hflB => kernel_rfl
  case hpuB => kernel_rfl
  case hksB => kernel_rfl
  case hst => exact ⟨fun w0 w1 h1 hb => h1.trans (hb.mono h1.size), fun k a v w0 w1 hW hb => ⟨fun e => (fun hp => hp) (hW.1 e), fun e => (fun hp => by obtain ⟨L, lc, ys, e1, e2, e3, e4⟩ := hp; exact ⟨L, lc, ys, e1, e2, e3.below hb, e4⟩) (hW.2 e)⟩, fun k a b v w0 _ h => h⟩
  case hC => exact (Below.refl _ _).drew
  refine fq 22 (.pointer (some ⟨q1, 2, none⟩)) (by kernel_rfl) (by kernel_rfl) (by kernel_rfl) (by kernel_rfl) (fun w => (by kernel_rfl)) ?_
  refine fq1 23 (.int .i64 f) 3 (.tmp 22) q1 2 _ (by kernel_rfl) (by kernel_rfl) (by kernel_rfl) (by kernel_rfl) (by kernel_rfl) (by kernel_rfl) Tryz.underlying3 rfl (fun w hw => cell_on hw.1 HH.out.lt HH.out.two2) ?_
  refine fcall 24 24 #[.int .i64 f] (by kernel_rfl) (by kernel_rfl) (by kernel_rfl) (by kernel_rfl) (fun w => (by kernel_rfl)) (fun w hw => (first_any f w).mono ?hx2_24) ?_
  case hx2_24 =>
    rintro e w' ⟨rfl, rfl⟩
    exact ⟨_, rfl, ⟨fun _ => rfl, fun e => absurd e (by decide)⟩, hw.1, Below.refl _ _⟩
  rintro v ⟨w', hw', hW⟩
  obtain rfl := hW.1 rfl
  clear  hW hw' w'
  refine fqR 25 #[.int .i64 (0 : Nat), .int .i64 t, .int .i64 f, .slice T tn tc, .int .i64 (0 : Nat), .int .i64 (1 : Nat)] 61 (.tmp 7) q1 0 _ (by kernel_rfl) (by kernel_rfl) (by kernel_rfl) (by kernel_rfl) (by kernel_rfl) (by kernel_rfl) Tryz.underlying61 rfl (by kernel_rfl) (fun w hw => (HH.out.carry hw.1).whole) ?_
  refine fq 26 (.int .i64 (U : Nat)) (by kernel_rfl) (by kernel_rfl) (by kernel_rfl) (by kernel_rfl) (fun w => (by kernel_rfl)) ?_
  refine fq 27 (.slice B (24 + tn) bc) (by kernel_rfl) (by kernel_rfl) (by kernel_rfl) (by kernel_rfl) (fun w => (by kernel_rfl)) ?_
  refine fcall 28 32 #[.int .u64 (keyI 1 f), .agg #[.int .i64 (0 : Nat), .int .i64 t, .int .i64 f, .slice T tn tc, .int .i64 (0 : Nat), .int .i64 (1 : Nat)], .int .i64 (U : Nat), .int .i64 (-1), .slice B (24 + tn) bc] (by kernel_rfl) (by kernel_rfl) (by kernel_rfl) (by kernel_rfl) (fun w => (by kernel_rfl)) (fun w hw => (HUN.out w (HB.out.below hw.1)).mono ?hx6_28) ?_
  case hx6_28 =>
    rintro e w' ⟨L, k, lc, ys, rfl, hys, hk, hrow, hb⟩
    obtain rfl : k = 1 := by rw [← hk]; have := congrArg List.length hys; simpa using this
    exact ⟨_, rfl, ⟨fun e => absurd e (by decide), fun _ => ⟨L, lc, ys, rfl, hys, hrow.rd, by have := hrow.1.cap; omega, hrow.1.cap.2⟩⟩, hw.1.trans (hb.mono hw.1.size), hb⟩
  rintro v ⟨w', hw', hW⟩
  obtain ⟨L, lc, ys, rfl, hys, h4, hlc1, hlc2⟩ := hW.2 rfl
  clear h4 hW hw' w'
  refine fq 21 (.tuple #[.int .i64 0, .slice L 1 lc, .int .i64 0]) (by kernel_rfl) (by kernel_rfl) (by kernel_rfl) (by kernel_rfl) (fun w => (by kernel_rfl)) ?_
  refine fq 29 (.int .i64 0) (by kernel_rfl) (by kernel_rfl) (by kernel_rfl) (by kernel_rfl) (fun w => (by kernel_rfl)) ?_
  refine fq 30 (.slice L 1 lc) (by kernel_rfl) (by kernel_rfl) (by kernel_rfl) (by kernel_rfl) (fun w => (by kernel_rfl)) ?_
  refine fq 31 (.int .i64 0) (by kernel_rfl) (by kernel_rfl) (by kernel_rfl) (by kernel_rfl) (fun w => (by kernel_rfl)) ?_
  refine fend [11, 12, 13] (by kernel_rfl) (by kernel_rfl) ?_
  intro w2 hw2 hF
  obtain ⟨L2, lc2, ys2, e2, hys2, hL, _, _⟩ := (hF _ List.mem_cons_self).2 rfl
  obtain ⟨rfl, rfl⟩ : L = L2 ∧ lc = lc2 := by injection e2 with e2; simpa using e2
  clear hF e2 hys ys
  refine tval (some 11) (.int .i64 0) w2 (by kernel_rfl) (by kernel_rfl) (by kernel_rfl) ?_
  refine tval (some 12) (.slice L 1 lc) w2 (by kernel_rfl) (by kernel_rfl) (by kernel_rfl) ?_
  refine tval (some 13) (.int .i64 0) w2 (by kernel_rfl) (by kernel_rfl) (by kernel_rfl) ?_
  refine tend ?_
  go_simp
  refine (show ∀ (a : Act) (w : World), Code.wp _ _ _ a w → _ from by assumption) _ _ ?_
  refine wp_world (fun w' => FrRd w' L ys2 ∧ Below w1.heap.size w1 w') ⟨hL, hw2⟩ ?_
  clear hL hw2 HUN HB
  rintro w3 ⟨hL, hw3⟩
  have HV3 := Lib.hid (HV1.out.carry hw3)
  have HP3 := Lib.hid (HP.out.carry hw3)
  have HH3 := Lib.hid (HH.out.carry hw3)
  have HB3 := Lib.hid (HB1.out.trans (hw3.mono (by have := HB1.out.size; omega)))
  have HBW3 := Lib.hid (HBW1.out.trans (hw3.mono HBW1.out.size))
  have HL := Lib.hid hL
  clear hL hw3 HV1 HP HH HB1
  have HE := hello_any L 1 lc ys2 (by have := congrArg List.length hys2; simpa using this) (by decide) hlc1 hlc2 w3 HL.out
  rw [hys2, helloF_hello x hx] at HE
  have HE := Lib.hid HE
  go_wp2_with fail
  refine HE.out.mono ?_
  rintro e w4 ⟨rfl, hb4⟩
  have HV4 := Lib.hid (HV3.out.carry hb4)
  have HP4 := Lib.hid (HP3.out.carry hb4)
  have HH4 := Lib.hid (HH3.out.carry hb4)
  have HB4 := Lib.hid (HB3.out.trans (hb4.mono (by have := HB3.out.size; omega)))
  have HBW4 := Lib.hid (HBW3.out.trans (hb4.mono HBW3.out.size))
  clear hb4 HE HL HV3 HP3 HH3 HB3
  have f3 : w4.cell? ⟨gd, 3, none⟩ = some (.slice A n c) := by rw [HV4.out.d.cell]; rfl
  have HNT := Lib.hid (note_first (.pointer (some ⟨q, 0, none⟩)) (.pointer (some ⟨q1, 0, none⟩)) gd A n c xs HV4.out.hn (by have := HV4.out.nt.cap; rw [HV4.out.hn] at this; exact this.1) (by have := HV4.out.nt.cap; exact this.2) (by omega) (fun x => decide (x.peer = p) && decide (x.from_ = f)) w4 HV4.out.nt.rd f3 HV4.out.d.lt
    (fun W hW x hx => ask_first x p f q q1 W (HP4.out.carry hW).one0 (HH4.out.carry hW).two2 (HP4.out.carry hW).lt (HH4.out.carry hW).lt))
  have HNA := Lib.hid (noteAt_none (A := A) HNOT.out)
  clear f3
  go_wp2_with fail
  refine HNT.out.mono ?_
  rintro e w5 ⟨rfl, hb5⟩
  rw [HNA.out]
  have HV5 := Lib.hid (HV4.out.carry hb5)
  have HP5 := Lib.hid (HP4.out.carry hb5)
  have HH5 := Lib.hid (HH4.out.carry hb5)
  have HB5 := Lib.hid (HB4.out.trans (hb5.mono (by have := HB4.out.size; omega)))
  have HB5w := Lib.hid (HBW4.out.trans (hb5.mono HBW4.out.size))
  clear hb5 HNT HNA HV4 HP4 HH4 HB4
  have f0 : w5.cell? ⟨gd, 0, none⟩ = some (.int .u64 g.secret) := by rw [HV5.out.d.cell]; rfl
  have f1 : w5.cell? ⟨gd, 1, none⟩ = some (.int .i64 g.now) := by rw [HV5.out.d.cell]; rfl
  have f3 : w5.cell? ⟨gd, 3, none⟩ = some (.slice A n c) := by rw [HV5.out.d.cell]; rfl
  have f16 : w5.cell? ⟨gd, 16, none⟩ = some (.bool g.retry) := by rw [HV5.out.d.cell]; rfl
  have hgl5 := HV5.out.d.lt
  rw [hret] at f16
  have c2 : ((n : Int) == 2) = true := by simp; omega
  go_upto_region 10 with (fail)
  refine wp_flow (fun k => decide (k < 14)) (fun k => k == 13) 227 [0, 1, 2, 3, 4, 5, 6, 7, 8, 9, 10, 11, 12, 13] (fun w' => Below w5.heap.size w5 w') (fun k a v w' => (k = 13 → v = .int .i64 E)) (by kernel_rfl) ?hflB ?hpuB ?hksB (fun _ _ _ _ _ h => h) rfl ?hst ?hC ?_
  case hflB => kernel_rfl
  case hpuB => kernel_rfl
  case hksB => kernel_rfl
  case hst => exact ⟨fun w0 w1 h1 hb => h1.trans (hb.mono h1.size), fun k a v w0 w1 hW hb => (fun e => (fun hp => hp) (hW e)), fun k a b v w0 _ h => h⟩
  case hC => exact (Below.refl _ _).drew
  refine fq 61 (.pointer (some ⟨gd, 0, none⟩)) (by kernel_rfl) (by kernel_rfl) (by kernel_rfl) (by kernel_rfl) (fun w => (by kernel_rfl)) ?_
  refine fq 62 (.pointer (some ⟨gd, 0, none⟩)) (by kernel_rfl) (by kernel_rfl) (by kernel_rfl) (by kernel_rfl) (fun w => (by kernel_rfl)) ?_
  refine fq 63 (.pointer (some ⟨gd, 0, none⟩)) (by kernel_rfl) (by kernel_rfl) (by kernel_rfl) (by kernel_rfl) (fun w => (by kernel_rfl)) ?_
  refine fq 64 (.pointer (some ⟨gd, 0, none⟩)) (by kernel_rfl) (by kernel_rfl) (by kernel_rfl) (by kernel_rfl) (fun w => (by kernel_rfl)) ?_
  refine fq1 65 (.int .u64 g.secret) 23 (.tmp 64) gd 0 _ (by kernel_rfl) (by kernel_rfl) (by kernel_rfl) (by kernel_rfl) (by kernel_rfl) (by kernel_rfl) Tryz.underlying23 rfl (fun w hw => cell_on hw.1 HV5.out.d.lt f0) ?_
  refine fq1 66 (.int .i64 p) 3 (.tmp 6) q 0 _ (by kernel_rfl) (by kernel_rfl) (by kernel_rfl) (by kernel_rfl) (by kernel_rfl) (by kernel_rfl) Tryz.underlying3 rfl (fun w hw => cell_on hw.1 HP5.out.lt HP5.out.one0) ?_
  refine fq 67 (.pointer (some ⟨gd, 0, none⟩)) (by kernel_rfl) (by kernel_rfl) (by kernel_rfl) (by kernel_rfl) (fun w => (by kernel_rfl)) ?_
  refine fq 68 (.pointer (some ⟨gd, 0, none⟩)) (by kernel_rfl) (by kernel_rfl) (by kernel_rfl) (by kernel_rfl) (fun w => (by kernel_rfl)) ?_
  refine fq 69 (.pointer (some ⟨gd, 0, none⟩)) (by kernel_rfl) (by kernel_rfl) (by kernel_rfl) (by kernel_rfl) (fun w => (by kernel_rfl)) ?_
  refine fq 70 (.pointer (some ⟨gd, 1, none⟩)) (by kernel_rfl) (by kernel_rfl) (by kernel_rfl) (by kernel_rfl) (fun w => (by kernel_rfl)) ?_
  refine fq1 71 (.int .i64 g.now) 3 (.tmp 70) gd 1 _ (by kernel_rfl) (by kernel_rfl) (by kernel_rfl) (by kernel_rfl) (by kernel_rfl) (by kernel_rfl) Tryz.underlying3 rfl (fun w hw => cell_on hw.1 HV5.out.d.lt f1) ?_
  refine fq 72 (.pointer (some ⟨q1, 3, none⟩)) (by kernel_rfl) (by kernel_rfl) (by kernel_rfl) (by kernel_rfl) (fun w => (by kernel_rfl)) ?_
  refine fq1 73 (.slice T tn tc) 30 (.tmp 72) q1 3 _ (by kernel_rfl) (by kernel_rfl) (by kernel_rfl) (by kernel_rfl) (by kernel_rfl) (by kernel_rfl) Tryz.underlying30 rfl (fun w hw => cell_on hw.1 HH5.out.lt (by rw [HH5.out.cell]; rfl)) ?_
  refine fcall 74 97 #[.int .u64 g.secret, .int .i64 p, .int .i64 g.now, .slice T tn tc] (by kernel_rfl) (by kernel_rfl) (by kernel_rfl) (by kernel_rfl) (fun w => (by kernel_rfl)) (fun w hw => (HCK.out w (HB5w.out.trans (hw.1.mono HB5w.out.size))).mono ?hx13_74) ?_
  case hx13_74 =>
    rintro e w' ⟨rfl, hb⟩
    exact ⟨_, rfl, (fun _ => rfl), hw.1.trans (hb.mono hw.1.size), hb⟩
  rintro v ⟨w', hw', hW⟩
  obtain rfl := hW rfl
  clear  hW hw' w'
  refine fend [14] (by kernel_rfl) (by kernel_rfl) ?_
  intro w10 hw10 _
  refine tval (some 17) (.int .i64 E) w10 (by kernel_rfl) (by kernel_rfl) (by kernel_rfl) ?_
  refine tend ?_
  go_simp
  refine (show ∀ (a : Act) (w : World), Code.wp _ _ _ a w → _ from by assumption) _ _ ?_
  refine wp_world (fun w' => DkV w' base gd g A n c xs O m co ms ∧ Blk w' q 3 #[.int .i64 p] ∧ Blk w' q1 61 #[.int .i64 (0 : Nat), .int .i64 t, .int .i64 f, .slice T tn tc, .int .i64 (0 : Nat), .int .i64 (1 : Nat)] ∧ Below base w w') ⟨HV5.out.carry hw10, HP5.out.carry hw10, HH5.out.carry hw10, HB5.out.trans (hw10.mono (by have := HB5.out.size; omega))⟩ ?_
  clear f0 f1 f3 f16 hw10 HV5 HP5 HH5 HB5 HB5w HCK
  rintro w5 ⟨hV, hP, hH, hb⟩
  have HV5 := Lib.hid hV
  have HP5 := Lib.hid hP
  have HH5 := Lib.hid hH
  have HB5 := Lib.hid hb
  clear hV hP hH hb
  have f6 : w5.cell? ⟨q, 0, none⟩ = some (.int .i64 p) := HP5.out.one0
  have hql : q < w5.heap.size := HP5.out.lt
  have hE' : (E == 0) = false := by simpa using hE
  go_wp2_with (refine wpList_loadR rfl 61 (.tmp 7) rfl q1 0 rfl #[.int .i64 (0 : Nat), .int .i64 t, .int .i64 f, .slice T tn tc, .int .i64 (0 : Nat), .int .i64 (1 : Nat)] _ Tryz.underlying61 rfl (by kernel_rfl) HH5.out.whole ?_)
  refine (retry_ok p hp 0 t f hf T tn tc (0 : Nat) (1 : Nat) base gd g A n c xs O m co hm10 ms HOK.out h1 h3 h5 s0 s1 n0 n1 w5 HV5.out (by have := HB5.out.size; omega)).mono ?_
  rintro e w6 ⟨rfl, ⟨O', co', D, dc, hV6⟩, hb6⟩
  go_wp2_with fail
  go_ret
  exact ⟨rfl, ⟨O', co', D, dc, hV6⟩, HB5.out.trans hb6⟩

set_option maxRecDepth 100000 in
set_option maxHeartbeats 8000000 in
theorem first_takes (p : Nat) (hp : p < 4) (t f x : Nat) (ht : t ≤ 255) (hf : f ≤ 255) (hx : x < 18446744073709551616) (T : Option Addr) (tn tc : Nat) (tok : List UInt8) (htn : tok.length = tn) (htk : tn ≤ 63) (U : Nat) (hU : (pktHd ⟨0, t, f, tok, 0, 0⟩ 1 0).length = U)
    (B : Option Addr) (bc : Nat) (hbc : 24 + tn ≤ bc) (hbm : bc ≤ 9223372036854775807) (base gd : Nat) (g : GtD) (A : Option Addr) (n c : Nat) (xs : List NtB) (O : Option Addr) (m co : Nat) (hm10 : m ≤ 100) (ms : List MlB)
    (ok : TlyOk (g.t p)) (h1 : (g.t p).2.1 ≤ 1099511627376) (h3 : (g.t p).2.2 ≤ 1099511627376) (h5 : (g.t p).1 = true ∨ (g.t p).2.2 + 24 ≤ 3 * (g.t p).2.1)
    (s0 : 0 ≤ g.secret) (s1 : g.secret < 18446744073709551616) (n0 : 0 ≤ g.now) (n1 : g.now ≤ 1099511627776) (nx : Nat) (hnx : g.next = nx) (hnx5 : nx ≤ 255) (hn : n ≤ 1) (hret : g.retry = true) (hnot : xs.any (fun x => decide (x.peer = p) && decide (x.from_ = f)) = false)
    (E : Int) (hE : E = 0) (hkf : (g.t p).1 = false) (w : World) (hck : ∀ W, Below w.heap.size w W → Calls Tryz.prog 97 #[.int .u64 g.secret, .int .i64 p, .int .i64 g.now, .slice T tn tc] W fun e w' => e = .returned (.int .i64 E) ∧ Below W.heap.size W w') (h : DkV w base gd g A n c xs O m co ms) (hbase : base ≤ w.heap.size) (hB : RdB w B (greetB (keyI 1 f) t f tok x)) :
    Calls Tryz.prog 60 #[.pointer (some ⟨gd, 0, none⟩), .int .i64 p, .agg #[.int .i64 (0 : Nat), .int .i64 t, .int .i64 f, .slice T tn tc, .int .i64 (0 : Nat), .int .i64 (1 : Nat)], .int .i64 (U : Nat), .slice B (24 + tn) bc] w fun e w' => e = .returned (.int .i64 0) ∧
      (∃ A' c' O' co' D dc cA cc cB cd, cc ≤ 9223372036854775807 ∧ cd ≤ 9223372036854775807 ∧ DkV w' base gd ((g.set p (true, (g.t p).2.1, (g.t p).2.2)).up.set p (true, (g.t p).2.1, (g.t p).2.2 + 24)) A' (n + 1) c' (xs ++ [newN g f p x cA cc cB cd]) O' (m + 1) co' (ms ++ [⟨p, D, 24, dc, greetB (keyI 1 f) f nx [] (keyI g.secret nx).toNat⟩])) ∧ Below base w w' := by
  have hn2 : (24 + tn ≤ 100) := by omega
  have hBL := greetB_len (keyI 1 f) t f tok x (by omega)
  rw [htn] at hBL
  have hb0 : B = none → bc = 0 := fun e => by
    obtain ⟨b, off, e2⟩ := Blk.noneF hB hBL (by omega)
    rw [e2] at e; cases e
  have hUl : U ≤ 100000 := by
    have : (greetB (keyI 1 f) t f tok x).length = (pktHd ⟨0, t, f, tok, 0, 0⟩ 1 0).length + (sealB (keyI 1 f) (0 : Nat) (pktHd ⟨0, t, f, tok, 0, 0⟩ 1 0) ([helloFr x].flatMap fenc)).length := by unfold greetB pktB; rw [List.length_append]
    omega
  have HUN := Lib.hid (fun W hW => unpack_any (keyI 1 f) (keyI_range _ _).1 (keyI_range _ _).2 0 t f T tn tc 0 1 U (by decide) (by decide) (-1) (by decide) (by decide) hUl B (24 + tn) bc _ hBL hbc hbm (by omega) hb0 W hW)
  rw [← hU, greetB_unpack, hU] at HUN
  have HV := Lib.hid h
  have HCK := Lib.hid hck
  clear hck
  have HBW := Lib.hid (Below.refl w.heap.size w)
  have HB := Lib.hid hB
  have HOK := Lib.hid ok
  have HNOT := Lib.hid hnot
  have hgl := h.d.lt
  clear h hB ok hb0 hBL hnot
  go_enter Tryz.func60, Tryz.ntmps60
  go_upto_region 1 with (fail)
  refine wp_world (fun w' => Blk w' w.heap.size 3 #[.int .i64 p] ∧ Blk w' (w.heap.size + 1) 61 #[.int .i64 (0 : Nat), .int .i64 t, .int .i64 f, .slice T tn tc, .int .i64 (0 : Nat), .int .i64 (1 : Nat)] ∧ Below w.heap.size w w') ⟨(Blk.new _ _ _).alloc _, Blk.new1 _ _ _ _, ((Below.refl _ _).alloc (Nat.le_refl _) _).alloc (by simp) _⟩ ?_
  rintro w1 ⟨hP, hH, hb1⟩
  obtain ⟨q, hq⟩ : ∃ q, w.heap.size = q := ⟨_, rfl⟩
  obtain ⟨q1, hq1⟩ : ∃ q1, w.heap.size + 1 = q1 := ⟨_, rfl⟩
  rw [hq1] at hH ⊢
  rw [hq] at hP ⊢
  have HP := Lib.hid hP
  have HH := Lib.hid hH
  have HV1 := Lib.hid (HV.out.carry hb1)
  have HB1 := Lib.hid (hb1.mono hbase)
  have HBW1 := Lib.hid hb1
  have hs1 := hb1.size
  have HB := Lib.hid (HB.out.below hb1)
  clear hP hH hb1 HV hq hq1
  refine wp_flow (fun k => decide (k < 11)) (fun k => k == 2 || k == 6) 227 [0, 1, 2, 3, 4, 5, 6, 7, 8, 9, 10] (fun w' => Below w1.heap.size w1 w') (fun k a v w' => (k = 2 → v = .int .u64 (keyI 1 f)) ∧ (k = 6 → ∃ L lc ys, v = .tuple #[.int .i64 0, .slice L 1 lc, .int .i64 0] ∧ ys.map (·.f) = [helloFr x] ∧ FrRd w' L ys ∧ 1 ≤ lc ∧ lc ≤ 9223372036854775807)) (by kernel_rfl) ?hflB ?hpuB ?hksB (fun _ _ _ _ _ h => h) rfl ?hst ?hC ?_
  case hflB => kernel_rfl
  case hpuB => kernel_rfl
  case hksB => kernel_rfl
  case hst => exact ⟨fun w0 w1 h1 hb => h1.trans (hb.mono h1.size), fun k a v w0 w1 hW hb => ⟨fun e => (fun hp => hp) (hW.1 e), fun e => (fun hp => by obtain ⟨L, lc, ys, e1, e2, e3, e4⟩ := hp; exact ⟨L, lc, ys, e1, e2, e3.below hb, e4⟩) (hW.2 e)⟩, fun k a b v w0 _ h => h⟩
  case hC => exact (Below.refl _ _).drew
  refine fq 22 (.pointer (some ⟨q1, 2, none⟩)) (by kernel_rfl) (by kernel_rfl) (by kernel_rfl) (by kernel_rfl) (fun w => (by kernel_rfl)) ?_
  refine fq1 23 (.int .i64 f) 3 (.tmp 22) q1 2 _ (by kernel_rfl) (by kernel_rfl) (by kernel_rfl) (by kernel_rfl) (by kernel_rfl) (by kernel_rfl) Tryz.underlying3 rfl (fun w hw => cell_on hw.1 HH.out.lt HH.out.two2) ?_
  refine fcall 24 24 #[.int .i64 f] (by kernel_rfl) (by kernel_rfl) (by kernel_rfl) (by kernel_rfl) (fun w => (by kernel_rfl)) (fun w hw => (first_any f w).mono ?hx2_24) ?_
  case hx2_24 =>
    rintro e w' ⟨rfl, rfl⟩
    exact ⟨_, rfl, ⟨fun _ => rfl, fun e => absurd e (by decide)⟩, hw.1, Below.refl _ _⟩
  rintro v ⟨w', hw', hW⟩
  obtain rfl := hW.1 rfl
  clear  hW hw' w'
  refine fqR 25 #[.int .i64 (0 : Nat), .int .i64 t, .int .i64 f, .slice T tn tc, .int .i64 (0 : Nat), .int .i64 (1 : Nat)] 61 (.tmp 7) q1 0 _ (by kernel_rfl) (by kernel_rfl) (by kernel_rfl) (by kernel_rfl) (by kernel_rfl) (by kernel_rfl) Tryz.underlying61 rfl (by kernel_rfl) (fun w hw => (HH.out.carry hw.1).whole) ?_
  refine fq 26 (.int .i64 (U : Nat)) (by kernel_rfl) (by kernel_rfl) (by kernel_rfl) (by kernel_rfl) (fun w => (by kernel_rfl)) ?_
  refine fq 27 (.slice B (24 + tn) bc) (by kernel_rfl) (by kernel_rfl) (by kernel_rfl) (by kernel_rfl) (fun w => (by kernel_rfl)) ?_
  refine fcall 28 32 #[.int .u64 (keyI 1 f), .agg #[.int .i64 (0 : Nat), .int .i64 t, .int .i64 f, .slice T tn tc, .int .i64 (0 : Nat), .int .i64 (1 : Nat)], .int .i64 (U : Nat), .int .i64 (-1), .slice B (24 + tn) bc] (by kernel_rfl) (by kernel_rfl) (by kernel_rfl) (by kernel_rfl) (fun w => (by kernel_rfl)) (fun w hw => (HUN.out w (HB.out.below hw.1)).mono ?hx6_28) ?_
  case hx6_28 =>
    rintro e w' ⟨L, k, lc, ys, rfl, hys, hk, hrow, hb⟩
    obtain rfl : k = 1 := by rw [← hk]; have := congrArg List.length hys; simpa using this
    exact ⟨_, rfl, ⟨fun e => absurd e (by decide), fun _ => ⟨L, lc, ys, rfl, hys, hrow.rd, by have := hrow.1.cap; omega, hrow.1.cap.2⟩⟩, hw.1.trans (hb.mono hw.1.size), hb⟩
  rintro v ⟨w', hw', hW⟩
  obtain ⟨L, lc, ys, rfl, hys, h4, hlc1, hlc2⟩ := hW.2 rfl
  clear h4 hW hw' w'
  refine fq 21 (.tuple #[.int .i64 0, .slice L 1 lc, .int .i64 0]) (by kernel_rfl) (by kernel_rfl) (by kernel_rfl) (by kernel_rfl) (fun w => (by kernel_rfl)) ?_
  refine fq 29 (.int .i64 0) (by kernel_rfl) (by kernel_rfl) (by kernel_rfl) (by kernel_rfl) (fun w => (by kernel_rfl)) ?_
  refine fq 30 (.slice L 1 lc) (by kernel_rfl) (by kernel_rfl) (by kernel_rfl) (by kernel_rfl) (fun w => (by kernel_rfl)) ?_
  refine fq 31 (.int .i64 0) (by kernel_rfl) (by kernel_rfl) (by kernel_rfl) (by kernel_rfl) (fun w => (by kernel_rfl)) ?_
  refine fend [11, 12, 13] (by kernel_rfl) (by kernel_rfl) ?_
  intro w2 hw2 hF
  obtain ⟨L2, lc2, ys2, e2, hys2, hL, _, _⟩ := (hF _ List.mem_cons_self).2 rfl
  obtain ⟨rfl, rfl⟩ : L = L2 ∧ lc = lc2 := by injection e2 with e2; simpa using e2
  clear hF e2 hys ys
  refine tval (some 11) (.int .i64 0) w2 (by kernel_rfl) (by kernel_rfl) (by kernel_rfl) ?_
  refine tval (some 12) (.slice L 1 lc) w2 (by kernel_rfl) (by kernel_rfl) (by kernel_rfl) ?_
  refine tval (some 13) (.int .i64 0) w2 (by kernel_rfl) (by kernel_rfl) (by kernel_rfl) ?_
  refine tend ?_
  go_simp
  refine (show ∀ (a : Act) (w : World), Code.wp _ _ _ a w → _ from by assumption) _ _ ?_
  refine wp_world (fun w' => FrRd w' L ys2 ∧ Below w1.heap.size w1 w') ⟨hL, hw2⟩ ?_
  clear hL hw2 HUN HB
  rintro w3 ⟨hL, hw3⟩
  have HV3 := Lib.hid (HV1.out.carry hw3)
  have HP3 := Lib.hid (HP.out.carry hw3)
  have HH3 := Lib.hid (HH.out.carry hw3)
  have HB3 := Lib.hid (HB1.out.trans (hw3.mono (by have := HB1.out.size; omega)))
  have HBW3 := Lib.hid (HBW1.out.trans (hw3.mono HBW1.out.size))
  have HL := Lib.hid hL
  clear hL hw3 HV1 HP HH HB1
  have HE := hello_any L 1 lc ys2 (by have := congrArg List.length hys2; simpa using this) (by decide) hlc1 hlc2 w3 HL.out
  rw [hys2, helloF_hello x hx] at HE
  have HE := Lib.hid HE
  go_wp2_with fail
  refine HE.out.mono ?_
  rintro e w4 ⟨rfl, hb4⟩
  have HV4 := Lib.hid (HV3.out.carry hb4)
  have HP4 := Lib.hid (HP3.out.carry hb4)
  have HH4 := Lib.hid (HH3.out.carry hb4)
  have HB4 := Lib.hid (HB3.out.trans (hb4.mono (by have := HB3.out.size; omega)))
  have HBW4 := Lib.hid (HBW3.out.trans (hb4.mono HBW3.out.size))
  clear hb4 HE HL HV3 HP3 HH3 HB3
  have f3 : w4.cell? ⟨gd, 3, none⟩ = some (.slice A n c) := by rw [HV4.out.d.cell]; rfl
  have HNT := Lib.hid (note_first (.pointer (some ⟨q, 0, none⟩)) (.pointer (some ⟨q1, 0, none⟩)) gd A n c xs HV4.out.hn (by have := HV4.out.nt.cap; rw [HV4.out.hn] at this; exact this.1) (by have := HV4.out.nt.cap; exact this.2) (by omega) (fun x => decide (x.peer = p) && decide (x.from_ = f)) w4 HV4.out.nt.rd f3 HV4.out.d.lt
    (fun W hW x hx => ask_first x p f q q1 W (HP4.out.carry hW).one0 (HH4.out.carry hW).two2 (HP4.out.carry hW).lt (HH4.out.carry hW).lt))
  have HNA := Lib.hid (noteAt_none (A := A) HNOT.out)
  clear f3
  go_wp2_with fail
  refine HNT.out.mono ?_
  rintro e w5 ⟨rfl, hb5⟩
  rw [HNA.out]
  have HV5 := Lib.hid (HV4.out.carry hb5)
  have HP5 := Lib.hid (HP4.out.carry hb5)
  have HH5 := Lib.hid (HH4.out.carry hb5)
  have HB5 := Lib.hid (HB4.out.trans (hb5.mono (by have := HB4.out.size; omega)))
  have HB5w := Lib.hid (HBW4.out.trans (hb5.mono HBW4.out.size))
  clear hb5 HNT HNA HV4 HP4 HH4 HB4
  have f0 : w5.cell? ⟨gd, 0, none⟩ = some (.int .u64 g.secret) := by rw [HV5.out.d.cell]; rfl
  have f1 : w5.cell? ⟨gd, 1, none⟩ = some (.int .i64 g.now) := by rw [HV5.out.d.cell]; rfl
  have f3 : w5.cell? ⟨gd, 3, none⟩ = some (.slice A n c) := by rw [HV5.out.d.cell]; rfl
  have f16 : w5.cell? ⟨gd, 16, none⟩ = some (.bool g.retry) := by rw [HV5.out.d.cell]; rfl
  have hgl5 := HV5.out.d.lt
  rw [hret] at f16
  go_upto_region 10 with (fail)
  refine wp_flow (fun k => decide (k < 14)) (fun k => k == 13) 227 [0, 1, 2, 3, 4, 5, 6, 7, 8, 9, 10, 11, 12, 13] (fun w' => Below w5.heap.size w5 w') (fun k a v w' => (k = 13 → v = .int .i64 E)) (by kernel_rfl) ?hflB ?hpuB ?hksB (fun _ _ _ _ _ h => h) rfl ?hst ?hC ?_
  case hflB => kernel_rfl
  case hpuB => kernel_rfl
  case hksB => kernel_rfl
  case hst => exact ⟨fun w0 w1 h1 hb => h1.trans (hb.mono h1.size), fun k a v w0 w1 hW hb => (fun e => (fun hp => hp) (hW e)), fun k a b v w0 _ h => h⟩
  case hC => exact (Below.refl _ _).drew
  refine fq 61 (.pointer (some ⟨gd, 0, none⟩)) (by kernel_rfl) (by kernel_rfl) (by kernel_rfl) (by kernel_rfl) (fun w => (by kernel_rfl)) ?_
  refine fq 62 (.pointer (some ⟨gd, 0, none⟩)) (by kernel_rfl) (by kernel_rfl) (by kernel_rfl) (by kernel_rfl) (fun w => (by kernel_rfl)) ?_
  refine fq 63 (.pointer (some ⟨gd, 0, none⟩)) (by kernel_rfl) (by kernel_rfl) (by kernel_rfl) (by kernel_rfl) (fun w => (by kernel_rfl)) ?_
  refine fq 64 (.pointer (some ⟨gd, 0, none⟩)) (by kernel_rfl) (by kernel_rfl) (by kernel_rfl) (by kernel_rfl) (fun w => (by kernel_rfl)) ?_
  refine fq1 65 (.int .u64 g.secret) 23 (.tmp 64) gd 0 _ (by kernel_rfl) (by kernel_rfl) (by kernel_rfl) (by kernel_rfl) (by kernel_rfl) (by kernel_rfl) Tryz.underlying23 rfl (fun w hw => cell_on hw.1 HV5.out.d.lt f0) ?_
  refine fq1 66 (.int .i64 p) 3 (.tmp 6) q 0 _ (by kernel_rfl) (by kernel_rfl) (by kernel_rfl) (by kernel_rfl) (by kernel_rfl) (by kernel_rfl) Tryz.underlying3 rfl (fun w hw => cell_on hw.1 HP5.out.lt HP5.out.one0) ?_
  refine fq 67 (.pointer (some ⟨gd, 0, none⟩)) (by kernel_rfl) (by kernel_rfl) (by kernel_rfl) (by kernel_rfl) (fun w => (by kernel_rfl)) ?_
  refine fq 68 (.pointer (some ⟨gd, 0, none⟩)) (by kernel_rfl) (by kernel_rfl) (by kernel_rfl) (by kernel_rfl) (fun w => (by kernel_rfl)) ?_
  refine fq 69 (.pointer (some ⟨gd, 0, none⟩)) (by kernel_rfl) (by kernel_rfl) (by kernel_rfl) (by kernel_rfl) (fun w => (by kernel_rfl)) ?_
  refine fq 70 (.pointer (some ⟨gd, 1, none⟩)) (by kernel_rfl) (by kernel_rfl) (by kernel_rfl) (by kernel_rfl) (fun w => (by kernel_rfl)) ?_
  refine fq1 71 (.int .i64 g.now) 3 (.tmp 70) gd 1 _ (by kernel_rfl) (by kernel_rfl) (by kernel_rfl) (by kernel_rfl) (by kernel_rfl) (by kernel_rfl) Tryz.underlying3 rfl (fun w hw => cell_on hw.1 HV5.out.d.lt f1) ?_
  refine fq 72 (.pointer (some ⟨q1, 3, none⟩)) (by kernel_rfl) (by kernel_rfl) (by kernel_rfl) (by kernel_rfl) (fun w => (by kernel_rfl)) ?_
  refine fq1 73 (.slice T tn tc) 30 (.tmp 72) q1 3 _ (by kernel_rfl) (by kernel_rfl) (by kernel_rfl) (by kernel_rfl) (by kernel_rfl) (by kernel_rfl) Tryz.underlying30 rfl (fun w hw => cell_on hw.1 HH5.out.lt (by rw [HH5.out.cell]; rfl)) ?_
  refine fcall 74 97 #[.int .u64 g.secret, .int .i64 p, .int .i64 g.now, .slice T tn tc] (by kernel_rfl) (by kernel_rfl) (by kernel_rfl) (by kernel_rfl) (fun w => (by kernel_rfl)) (fun w hw => (HCK.out w (HB5w.out.trans (hw.1.mono HB5w.out.size))).mono ?hx13_74) ?_
  case hx13_74 =>
    rintro e w' ⟨rfl, hb⟩
    exact ⟨_, rfl, (fun _ => rfl), hw.1.trans (hb.mono hw.1.size), hb⟩
  rintro v ⟨w', hw', hW⟩
  obtain rfl := hW rfl
  clear  hW hw' w'
  refine fend [14] (by kernel_rfl) (by kernel_rfl) ?_
  intro w10 hw10 _
  refine tval (some 17) (.int .i64 E) w10 (by kernel_rfl) (by kernel_rfl) (by kernel_rfl) ?_
  refine tend ?_
  go_simp
  refine (show ∀ (a : Act) (w : World), Code.wp _ _ _ a w → _ from by assumption) _ _ ?_
  refine wp_world (fun w' => DkV w' base gd g A n c xs O m co ms ∧ Blk w' q 3 #[.int .i64 p] ∧ Blk w' q1 61 #[.int .i64 (0 : Nat), .int .i64 t, .int .i64 f, .slice T tn tc, .int .i64 (0 : Nat), .int .i64 (1 : Nat)] ∧ Below base w w') ⟨HV5.out.carry hw10, HP5.out.carry hw10, HH5.out.carry hw10, HB5.out.trans (hw10.mono (by have := HB5.out.size; omega))⟩ ?_
  clear f0 f1 f3 f16 hw10 HV5 HP5 HH5 HB5 HB5w HCK
  rintro w5 ⟨hV, hP, hH, hb⟩
  have HV5 := Lib.hid hV
  have HP5 := Lib.hid hP
  have HH5 := Lib.hid hH
  have HB5 := Lib.hid hb
  clear hV hP hH hb
  subst hE
  have HKN := Lib.hid (fun W => tallyKnow_f (g.t p).2.1 (g.t p).2.2 HOK.out.1.1 h1 HOK.out.2.1.1 h3 (HOK.out.2.2 hkf) W)
  rw [← hkf] at HKN
  go_upto_region 14 with (fail)
  refine wp_flow (fun k => decide (k < 17)) (fun k => k == 9) 227 [0, 1, 2, 3, 4, 5, 6, 7, 8, 9, 10, 11, 12, 13, 14, 15, 16] (fun w' => Below w5.heap.size w5 w') (fun k a v w' => (k = 9 → v = .tuple #[.agg (tl3 (true, (g.t p).2.1, (g.t p).2.2)), .int .i64 0])) (by kernel_rfl) ?hflB ?hpuB ?hksB (fun _ _ _ _ _ h => h) rfl ?hst ?hC ?_
  case hflB => kernel_rfl
  case hpuB => kernel_rfl
  case hksB => kernel_rfl
  case hst => exact ⟨fun w0 w1 h1 hb => h1.trans (hb.mono h1.size), fun k a v w0 w1 hW hb => (fun e => (fun hp => hp) (hW e)), fun k a b v w0 _ h => h⟩
  case hC => exact (Below.refl _ _).drew
  refine fq 83 (.pointer (some ⟨gd, 0, none⟩)) (by kernel_rfl) (by kernel_rfl) (by kernel_rfl) (by kernel_rfl) (fun w => (by kernel_rfl)) ?_
  refine fq1 84 (.int .i64 p) 3 (.tmp 6) q 0 _ (by kernel_rfl) (by kernel_rfl) (by kernel_rfl) (by kernel_rfl) (by kernel_rfl) (by kernel_rfl) Tryz.underlying3 rfl (fun w hw => cell_on hw.1 HP5.out.lt HP5.out.one0) ?_
  refine fq 85 (.pointer (some ⟨gd, 0, none⟩)) (by kernel_rfl) (by kernel_rfl) (by kernel_rfl) (by kernel_rfl) (fun w => (by kernel_rfl)) ?_
  refine fq1 86 (.int .i64 p) 3 (.tmp 6) q 0 _ (by kernel_rfl) (by kernel_rfl) (by kernel_rfl) (by kernel_rfl) (by kernel_rfl) (by kernel_rfl) Tryz.underlying3 rfl (fun w hw => cell_on hw.1 HP5.out.lt HP5.out.one0) ?_
  refine fq 87 (.pointer (some ⟨gd, 0, none⟩)) (by kernel_rfl) (by kernel_rfl) (by kernel_rfl) (by kernel_rfl) (fun w => (by kernel_rfl)) ?_
  refine fq 88 (.pointer (some ⟨gd, 0, none⟩)) (by kernel_rfl) (by kernel_rfl) (by kernel_rfl) (by kernel_rfl) (fun w => (by kernel_rfl)) ?_
  refine fq 89 (.pointer (some ⟨gd, 4, none⟩)) (by kernel_rfl) (by kernel_rfl) (by kernel_rfl) (by kernel_rfl) (fun w => (by kernel_rfl)) ?_
  refine fidxA 90 27 (.tmp 89) (.tmp 86) gd 4 4 .i64 (p : Nat) 3 (4 + p * 3) (by kernel_rfl) (by kernel_rfl) (by kernel_rfl) (by kernel_rfl) (by kernel_rfl) (by kernel_rfl) (by kernel_rfl) (by kernel_rfl) (fun w => (by kernel_rfl)) (by kernel_rfl) (by omega) (by omega) (by simp) ?_
  refine fqR 91 (tl3 (g.t p)) 26 (.tmp 90) gd (4 + p * 3) _ (by kernel_rfl) (by kernel_rfl) (by kernel_rfl) (by kernel_rfl) (by kernel_rfl) (by kernel_rfl) Tryz.underlying26 rfl (by kernel_rfl) (fun w hw => tly_at (HV5.out.d.carry hw.1) p hp) ?_
  refine fcall 92 99 #[.agg (tl3 (g.t p))] (by kernel_rfl) (by kernel_rfl) (by kernel_rfl) (by kernel_rfl) (fun w => (by kernel_rfl)) (fun w hw => (HKN.out w).mono ?hx9_92) ?_
  case hx9_92 =>
    rintro e w' ⟨rfl, hb⟩
    exact ⟨_, rfl, (fun _ => rfl), hw.1.trans (hb.mono hw.1.size), hb⟩
  rintro v ⟨w', hw', hW⟩
  obtain rfl := hW rfl
  clear  hW hw' w'
  refine fq 82 (.tuple #[.agg (tl3 (true, (g.t p).2.1, (g.t p).2.2)), .int .i64 0]) (by kernel_rfl) (by kernel_rfl) (by kernel_rfl) (by kernel_rfl) (fun w => (by kernel_rfl)) ?_
  refine fq 93 (.agg (tl3 (true, (g.t p).2.1, (g.t p).2.2))) (by kernel_rfl) (by kernel_rfl) (by kernel_rfl) (by kernel_rfl) (fun w => (by kernel_rfl)) ?_
  refine fq 94 (.int .i64 0) (by kernel_rfl) (by kernel_rfl) (by kernel_rfl) (by kernel_rfl) (fun w => (by kernel_rfl)) ?_
  refine fq 95 (.pointer (some ⟨gd, 0, none⟩)) (by kernel_rfl) (by kernel_rfl) (by kernel_rfl) (by kernel_rfl) (fun w => (by kernel_rfl)) ?_
  refine fq 96 (.pointer (some ⟨gd, 0, none⟩)) (by kernel_rfl) (by kernel_rfl) (by kernel_rfl) (by kernel_rfl) (fun w => (by kernel_rfl)) ?_
  refine fq 97 (.pointer (some ⟨gd, 4, none⟩)) (by kernel_rfl) (by kernel_rfl) (by kernel_rfl) (by kernel_rfl) (fun w => (by kernel_rfl)) ?_
  refine fidxA 98 27 (.tmp 97) (.tmp 84) gd 4 4 .i64 (p : Nat) 3 (4 + p * 3) (by kernel_rfl) (by kernel_rfl) (by kernel_rfl) (by kernel_rfl) (by kernel_rfl) (by kernel_rfl) (by kernel_rfl) (by kernel_rfl) (fun w => (by kernel_rfl)) (by kernel_rfl) (by omega) (by omega) (by simp) ?_
  refine fend [17] (by kernel_rfl) (by kernel_rfl) ?_
  intro w10 hw10 _
  refine tstoreP (by kernel_rfl) (by kernel_rfl) 26 (.tmp 98) (.tmp 93) (by kernel_rfl) gd (4 + p * 3) (by kernel_rfl) (tl3 (true, (g.t p).2.1, (g.t p).2.2)) (by kernel_rfl) 133 _ (HV5.out.d.carry hw10) (by kernel_rfl) (by simp [dkc, tl3]; omega) (tl3_one _) _ (tly_put g A n c O m co p hp (true, (g.t p).2.1, (g.t p).2.2)) ?_
  intro w11 hB11 hw11
  refine tend ?_
  go_simp
  refine (show ∀ (a : Act) (w : World), Code.wp _ _ _ a w → _ from by assumption) _ _ ?_
  obtain ⟨gk, hgk⟩ : ∃ gk, g.set p (true, (g.t p).2.1, (g.t p).2.2) = gk := ⟨_, rfl⟩
  have tk : gk.t p = (true, (g.t p).2.1, (g.t p).2.2) := by rw [← hgk]; simp [GtD.set, upd]
  have HGK := Lib.hid hgk
  refine wp_world (fun w' => DkV w' base gd gk A n c xs O m co ms ∧ Blk w' q 3 #[.int .i64 p] ∧ Blk w' q1 61 #[.int .i64 (0 : Nat), .int .i64 t, .int .i64 f, .slice T tn tc, .int .i64 (0 : Nat), .int .i64 (1 : Nat)] ∧ Below base w w')
    ⟨(HV5.out.carry hw10).wr (g' := gk) (hB11.as (by rw [hgk])) hw11, (HP5.out.carry hw10).wr hw11 (Blk.ne (HP5.out.carry hw10) (HV5.out.d.carry hw10) (by decide)), (HH5.out.carry hw10).wr hw11 (Blk.ne (HH5.out.carry hw10) (HV5.out.d.carry hw10) (by decide)), hw11.trans_below (HB5.out.trans (hw10.mono (by have := HB5.out.size; omega))) HV5.out.hg⟩ ?_
  clear hw10 hw11 hB11 HV5 HP5 HH5 HB5 HKN
  rintro w5 ⟨hV, hP, hH, hb⟩
  have HV5 := Lib.hid hV
  have HP5 := Lib.hid hP
  have HH5 := Lib.hid hH
  have HB5 := Lib.hid hb
  clear hV hP hH hb
  have tok_ : TlyOk (gk.t p) := by rw [tk]; exact ⟨HOK.out.1, HOK.out.2.1, fun h => by cases h⟩
  have h1 : (gk.t p).2.1 ≤ 1099511627376 := by rw [tk]; exact h1
  have h3 : (gk.t p).2.2 ≤ 1099511627376 := by rw [tk]; exact h3
  have h5 : (gk.t p).1 = true ∨ (gk.t p).2.2 + 24 ≤ 3 * (gk.t p).2.1 := by rw [tk]; exact .inl rfl
  have s0 : 0 ≤ gk.secret := by rw [← hgk]; exact s0
  have s1 : gk.secret < 18446744073709551616 := by rw [← hgk]; exact s1
  have n0 : 0 ≤ gk.now := by rw [← hgk]; exact n0
  have n1 : gk.now ≤ 1099511627776 := by rw [← hgk]; exact n1
  have hnx : gk.next = nx := by rw [← hgk]; exact hnx
  have HOK := Lib.hid tok_
  clear hgk tk tok_
  have f1 : w5.cell? ⟨gd, 1, none⟩ = some (.int .i64 gk.now) := by rw [HV5.out.d.cell]; rfl
  have f2 : w5.cell? ⟨gd, 2, none⟩ = some (.int .i64 gk.next) := by rw [HV5.out.d.cell]; rfl
  have f3 : w5.cell? ⟨gd, 3, none⟩ = some (.slice A n c) := by rw [HV5.out.d.cell]; rfl
  have hgl5 := HV5.out.d.lt
  have c3 : ((n : Int) == 3) = false := by simp; omega
  have c4 : (gk.next == 256) = false := by simp; omega
  have HNX := Lib.hid hnx
  clear hnx
  go_wp2_with fail
  refine (connBegin_BgR gk.now n0 n1 _).mono ?_
  rintro e w6 ⟨cs, rfl, ⟨cA, cc, cB, cd, hcc, hcd, rfl, _, _⟩, hb6⟩
  unfold bg0
  have HV6 := Lib.hid (HV5.out.carry hb6)
  have HP6 := Lib.hid (HP5.out.carry hb6)
  have HH6 := Lib.hid (HH5.out.carry hb6)
  have HB6 := Lib.hid (HB5.out.trans (hb6.mono (by have := HB5.out.size; omega)))
  clear hb6 HV5 HP5 HH5 HB5 f1 f2 f3
  go_upto_region 21 with (first
    | (refine wpList_storeP rfl 43 (.tmp 18) (.tmp 132) rfl w6.heap.size 0 rfl (bg0 false cA cc cB cd gk.now 0 4) rfl 43 _ (Blk.new _ _ _) (by kernel_rfl) (by simp [bg0]) (bg0_one _ _ _ _ _ _ _ _) _ (splice_all _ _ (by simp [bg0])) ?_
       intro w7 hB7 hw7
       have hb7 : Below w6.heap.size w6 w7 := hw7.trans_below ((Below.refl _ _).alloc (Nat.le_refl _) _) (Nat.le_refl _)))
  obtain ⟨gC, hgC⟩ : ∃ q, w6.heap.size = q := ⟨_, rfl⟩
  refine wp_world (fun w' => Blk w' gC 43 (bg0 false cA cc cB cd gk.now 0 4) ∧ DkV w' base gd gk A n c xs O m co ms ∧ Blk w' q 3 #[.int .i64 p] ∧ Blk w' q1 61 #[.int .i64 (0 : Nat), .int .i64 t, .int .i64 f, .slice T tn tc, .int .i64 (0 : Nat), .int .i64 (1 : Nat)] ∧ Below base w w') ⟨by rw [← hgC]; exact hB7, HV6.out.carry hb7, HP6.out.carry hb7, HH6.out.carry hb7, HB6.out.trans (hb7.mono (by have := HB6.out.size; omega))⟩ ?_
  rw [hgC]
  clear hgC hb7 hw7 hB7 HV6 HP6 HH6 HB6 w6 w7
  rintro w5 ⟨hC, hV, hP, hH, hb⟩
  have HC5 := Lib.hid hC
  have HV5 := Lib.hid hV
  have HP5 := Lib.hid hP
  have HH5 := Lib.hid hH
  have HB5 := Lib.hid hb
  have f0 : w5.cell? ⟨gd, 0, none⟩ = some (.int .u64 gk.secret) := by rw [hV.d.cell]; rfl
  have f2 : w5.cell? ⟨gd, 2, none⟩ = some (.int .i64 gk.next) := by rw [hV.d.cell]; rfl
  have f3 : w5.cell? ⟨gd, 3, none⟩ = some (.slice A n c) := by rw [hV.d.cell]; rfl
  have hgd : base ≤ gd := hV.hg
  have hxn : xs.length = n := hV.hn
  clear hC hV hP hH hb
  refine wp_flow (fun k => decide (k < 30)) (fun k => k == 25 || k == 26 || k == 29) 227 [0, 1, 2, 3, 4, 5, 6, 7, 8, 9, 10, 11, 12, 13, 14, 15, 16, 17, 18, 19, 20, 21, 22, 23, 24, 25, 26, 27, 28, 29] (fun w' => Below w5.heap.size w5 w') (fun k a v w' => (k = 25 → v = .int .u64 (keyI gk.secret gk.next)) ∧ (k = 26 → v = .int .u64 (sessI x (keyI gk.secret gk.next))) ∧ (k = 29 → ∃ gN, v = .slice (some ⟨gN, 0, none⟩) 1 1 ∧ RdX ntc 29 w' (some ⟨gN, 0, none⟩) [newN gk f p x cA cc cB cd])) (by kernel_rfl) ?hflB ?hpuB ?hksB (fun _ _ _ _ _ h => h) rfl ?hst ?hC ?_
  case hflB => kernel_rfl
  case hpuB => kernel_rfl
  case hksB => kernel_rfl
  case hst => exact ⟨fun w0 w1 h1 hb => h1.trans (hb.mono h1.size), fun k a v w0 w1 hW hb => ⟨fun e => (fun hp => hp) (hW.1 e), fun e => (fun hp => hp) (hW.2.1 e), fun e => (fun hp => by obtain ⟨gN, e1, e2⟩ := hp; exact ⟨gN, e1, RdX.below e2 hb⟩) (hW.2.2 e)⟩, fun k a b v w0 _ h => h⟩
  case hC => exact (Below.refl _ _).drew
  refine fq 137 (.pointer (some ⟨gd, 0, none⟩)) (by kernel_rfl) (by kernel_rfl) (by kernel_rfl) (by kernel_rfl) (fun w => (by kernel_rfl)) ?_
  refine fq 138 (.pointer (some ⟨gd, 0, none⟩)) (by kernel_rfl) (by kernel_rfl) (by kernel_rfl) (by kernel_rfl) (fun w => (by kernel_rfl)) ?_
  refine fq 139 (.pointer (some ⟨gd, 0, none⟩)) (by kernel_rfl) (by kernel_rfl) (by kernel_rfl) (by kernel_rfl) (fun w => (by kernel_rfl)) ?_
  refine fq 140 (.pointer (some ⟨gd, 0, none⟩)) (by kernel_rfl) (by kernel_rfl) (by kernel_rfl) (by kernel_rfl) (fun w => (by kernel_rfl)) ?_
  refine fq 141 (.pointer (some ⟨gd, 3, none⟩)) (by kernel_rfl) (by kernel_rfl) (by kernel_rfl) (by kernel_rfl) (fun w => (by kernel_rfl)) ?_
  refine fq1 142 (.slice A n c) 24 (.tmp 141) gd 3 _ (by kernel_rfl) (by kernel_rfl) (by kernel_rfl) (by kernel_rfl) (by kernel_rfl) (by kernel_rfl) Tryz.underlying24 rfl (fun w hw => cell_on hw.1 HV5.out.d.lt f3) ?_
  refine fq 143 (.pointer (some ⟨gd, 0, none⟩)) (by kernel_rfl) (by kernel_rfl) (by kernel_rfl) (by kernel_rfl) (fun w => (by kernel_rfl)) ?_
  refine fq 144 (.pointer (some ⟨gd, 0, none⟩)) (by kernel_rfl) (by kernel_rfl) (by kernel_rfl) (by kernel_rfl) (fun w => (by kernel_rfl)) ?_
  refine fq 145 (.pointer (some ⟨gd, 0, none⟩)) (by kernel_rfl) (by kernel_rfl) (by kernel_rfl) (by kernel_rfl) (fun w => (by kernel_rfl)) ?_
  refine fq 146 (.pointer (some ⟨gd, 2, none⟩)) (by kernel_rfl) (by kernel_rfl) (by kernel_rfl) (by kernel_rfl) (fun w => (by kernel_rfl)) ?_
  refine fq1 147 (.int .i64 gk.next) 3 (.tmp 146) gd 2 _ (by kernel_rfl) (by kernel_rfl) (by kernel_rfl) (by kernel_rfl) (by kernel_rfl) (by kernel_rfl) Tryz.underlying3 rfl (fun w hw => cell_on hw.1 HV5.out.d.lt f2) ?_
  refine fq 148 (.pointer (some ⟨q1, 2, none⟩)) (by kernel_rfl) (by kernel_rfl) (by kernel_rfl) (by kernel_rfl) (fun w => (by kernel_rfl)) ?_
  refine fq1 149 (.int .i64 f) 3 (.tmp 148) q1 2 _ (by kernel_rfl) (by kernel_rfl) (by kernel_rfl) (by kernel_rfl) (by kernel_rfl) (by kernel_rfl) Tryz.underlying3 rfl (fun w hw => cell_on hw.1 HH5.out.lt HH5.out.two2) ?_
  refine fq1 150 (.int .i64 p) 3 (.tmp 6) q 0 _ (by kernel_rfl) (by kernel_rfl) (by kernel_rfl) (by kernel_rfl) (by kernel_rfl) (by kernel_rfl) Tryz.underlying3 rfl (fun w hw => cell_on hw.1 HP5.out.lt HP5.out.one0) ?_
  refine fq 151 (.int .u64 (x : Nat)) (by kernel_rfl) (by kernel_rfl) (by kernel_rfl) (by kernel_rfl) (fun w => (by kernel_rfl)) ?_
  refine fq 152 (.pointer (some ⟨gd, 0, none⟩)) (by kernel_rfl) (by kernel_rfl) (by kernel_rfl) (by kernel_rfl) (fun w => (by kernel_rfl)) ?_
  refine fq 153 (.pointer (some ⟨gd, 0, none⟩)) (by kernel_rfl) (by kernel_rfl) (by kernel_rfl) (by kernel_rfl) (fun w => (by kernel_rfl)) ?_
  refine fq 154 (.pointer (some ⟨gd, 0, none⟩)) (by kernel_rfl) (by kernel_rfl) (by kernel_rfl) (by kernel_rfl) (fun w => (by kernel_rfl)) ?_
  refine fq 155 (.pointer (some ⟨gd, 0, none⟩)) (by kernel_rfl) (by kernel_rfl) (by kernel_rfl) (by kernel_rfl) (fun w => (by kernel_rfl)) ?_
  refine fq1 156 (.int .u64 gk.secret) 23 (.tmp 155) gd 0 _ (by kernel_rfl) (by kernel_rfl) (by kernel_rfl) (by kernel_rfl) (by kernel_rfl) (by kernel_rfl) Tryz.underlying23 rfl (fun w hw => cell_on hw.1 HV5.out.d.lt f0) ?_
  refine fq 157 (.pointer (some ⟨gd, 0, none⟩)) (by kernel_rfl) (by kernel_rfl) (by kernel_rfl) (by kernel_rfl) (fun w => (by kernel_rfl)) ?_
  refine fq 158 (.pointer (some ⟨gd, 0, none⟩)) (by kernel_rfl) (by kernel_rfl) (by kernel_rfl) (by kernel_rfl) (fun w => (by kernel_rfl)) ?_
  refine fq 159 (.pointer (some ⟨gd, 0, none⟩)) (by kernel_rfl) (by kernel_rfl) (by kernel_rfl) (by kernel_rfl) (fun w => (by kernel_rfl)) ?_
  refine fq 160 (.pointer (some ⟨gd, 2, none⟩)) (by kernel_rfl) (by kernel_rfl) (by kernel_rfl) (by kernel_rfl) (fun w => (by kernel_rfl)) ?_
  refine fq1 161 (.int .i64 gk.next) 3 (.tmp 160) gd 2 _ (by kernel_rfl) (by kernel_rfl) (by kernel_rfl) (by kernel_rfl) (by kernel_rfl) (by kernel_rfl) Tryz.underlying3 rfl (fun w hw => cell_on hw.1 HV5.out.d.lt f2) ?_
  refine fcall 162 55 #[.int .u64 gk.secret, .int .i64 gk.next] (by kernel_rfl) (by kernel_rfl) (by kernel_rfl) (by kernel_rfl) (fun w => (by kernel_rfl)) (fun w hw => (key_any gk.secret gk.next s0 s1 w).mono ?hx25_162) ?_
  case hx25_162 =>
    rintro e w' ⟨rfl, rfl⟩
    exact ⟨_, rfl, ⟨fun _ => rfl, fun e => absurd e (by decide), fun e => absurd e (by decide)⟩, hw.1, Below.refl _ _⟩
  rintro v ⟨w', hw', hW⟩
  obtain rfl := hW.1 rfl
  clear  hW hw' w'
  refine fcall 163 100 #[.int .u64 (x : Nat), .int .u64 (keyI gk.secret gk.next)] (by kernel_rfl) (by kernel_rfl) (by kernel_rfl) (by kernel_rfl) (fun w => (by kernel_rfl)) (fun w hw => (session_any x (keyI gk.secret gk.next) (by omega) (by omega) (keyI_range _ _).1 (keyI_range _ _).2 w).mono ?hx26_163) ?_
  case hx26_163 =>
    rintro e w' ⟨rfl, rfl⟩
    exact ⟨_, rfl, ⟨fun e => absurd e (by decide), fun _ => rfl, fun e => absurd e (by decide)⟩, hw.1, Below.refl _ _⟩
  rintro v ⟨w', hw', hW⟩
  obtain rfl := hW.2.1 rfl
  clear  hW hw' w'
  refine fqR 164 (bg0 false cA cc cB cd gk.now 0 4) 43 (.tmp 18) gC 0 _ (by kernel_rfl) (by kernel_rfl) (by kernel_rfl) (by kernel_rfl) (by kernel_rfl) (by kernel_rfl) Tryz.underlying43 rfl (by kernel_rfl) (fun w hw => (HC5.out.carry hw.1).whole) ?_
  refine fq 165 (.agg (nta (newN gk f p x cA cc cB cd))) (by kernel_rfl) (by kernel_rfl) (by kernel_rfl) (by kernel_rfl) (fun w => (by kernel_rfl)) ?_
  refine fnew 166 (fun w => .slice (some ⟨w.heap.size, 0, none⟩) 1 1) (fun w => w.alloc (.cells (nta (newN gk f p x cA cc cB cd)) 53)) (by kernel_rfl) (by kernel_rfl) (by kernel_rfl) (by kernel_rfl) (fun w => (by kernel_rfl)) (fun w hw => ⟨⟨fun e => absurd e (by decide), fun e => absurd e (by decide), fun _ => ⟨w.heap.size, rfl, RdX.oneN _ _ (newN gk f p x cA cc cB cd)⟩⟩, hw.1.alloc hw.1.size _, (Below.refl _ _).alloc (Nat.le_refl _) _⟩) ?_
  rintro v ⟨w', hw', hW⟩
  obtain ⟨gN, rfl, h4⟩ := hW.2.2 rfl
  clear h4 hW hw' w'
  refine fend [30, 31, 32, 33, 34] (by kernel_rfl) (by kernel_rfl) ?_
  intro w6 hw6 hF
  obtain ⟨gN2, e2, hRN⟩ := (hF _ List.mem_cons_self).2.2 rfl
  obtain rfl : gN = gN2 := by injection e2 with e2; simpa using e2
  clear hF e2
  have hV6 := HV5.out.carry hw6
  refine tapp 167 ntc 29 ntc_one (.tmp 142) (.tmp 166) _ (by kernel_rfl) (by kernel_rfl) (by kernel_rfl) base 53 _ 312 Tryz.underlying24 ntInfo (nta_size _) (by decide) (by decide) A n c xs (by kernel_rfl) hV6.hn hV6.nt (some ⟨gN, 0, none⟩) 1 1 [newN gk f p x cA cc cB cd] (by kernel_rfl) rfl hRN (xs ++ [newN gk f p x cA cc cB cd]) rfl (n + 1) rfl (by omega) (by have := HB5.out.size; have := hw6.size; omega) ?_
  intro A7 c7 w7 hO7 hc7 hm7 hb7 hg7 ha7
  have hD7 := hV6.d.grown hg7 hV6.gd_ne
  refine tval (some 168) (.pointer (some ⟨gd, 0, none⟩)) w7 (by kernel_rfl) (by kernel_rfl) (by kernel_rfl) ?_
  refine tval (some 169) (.pointer (some ⟨gd, 0, none⟩)) w7 (by kernel_rfl) (by kernel_rfl) (by kernel_rfl) ?_
  refine tval (some 170) (.pointer (some ⟨gd, 3, none⟩)) w7 (by kernel_rfl) (by kernel_rfl) (by kernel_rfl) ?_
  refine tstore1 (by kernel_rfl) (by kernel_rfl) 24 (.tmp 170) (.tmp 167) (by kernel_rfl) gd 3 (by kernel_rfl) (.slice A7 (n + 1) c7) (by kernel_rfl) rfl rfl 133 _ hD7 (by kernel_rfl) (by simp [dkc]) ?_
  intro w8 hB8 hw8
  have hV8 := hV6.note hO7 hg7 (hB8.as (by rfl)) hw8
  have hb8 := hw8.trans_below ((HB5.out.trans (hw6.mono (by have := HB5.out.size; omega))).trans hb7) hV6.hg
  have hP8 := ((HP5.out.carry hw6).grown hg7 (own_apartB hV6.nt (HP5.out.carry hw6) (by decide))).wr hw8 (Blk.ne ((HP5.out.carry hw6).grown hg7 (own_apartB hV6.nt (HP5.out.carry hw6) (by decide))) hD7 (by decide))
  have hH8 := ((HH5.out.carry hw6).grown hg7 (own_apartB hV6.nt (HH5.out.carry hw6) (by decide))).wr hw8 (Blk.ne ((HH5.out.carry hw6).grown hg7 (own_apartB hV6.nt (HH5.out.carry hw6) (by decide))) hD7 (by decide))
  refine tend ?_
  go_simp
  refine (show ∀ (a : Act) (w : World), Code.wp _ _ _ a w → _ from by assumption) _ _ ?_
  refine wp_world (fun w' => DkV w' base gd gk A7 (n + 1) c7 (xs ++ [newN gk f p x cA cc cB cd]) O m co ms ∧ Blk w' q 3 #[.int .i64 p] ∧ Blk w' q1 61 #[.int .i64 (0 : Nat), .int .i64 t, .int .i64 f, .slice T tn tc, .int .i64 (0 : Nat), .int .i64 (1 : Nat)] ∧ Below base w w') ⟨hV8, hP8, hH8, hb8⟩ ?_
  clear hV8 hP8 hH8 hb8 hw8 hB8 hD7 ha7 hg7 hb7 hm7 hc7 hO7 hRN hV6 HC5 HV5 HP5 HH5 HB5 f0 f2 f3 hw6
  rintro w9 ⟨hV9, hP9, hH9, hb9⟩
  obtain ⟨b2, o2, rfl, hcell⟩ := hV9.nt.rd.nt (by simp)
  have HV9 := Lib.hid hV9
  have HP9 := Lib.hid hP9
  have HH9 := Lib.hid hH9
  have HB9 := Lib.hid hb9
  have f3 : w9.cell? ⟨gd, 3, none⟩ = some (.slice (some ⟨b2, o2, none⟩) (n + 1) c7) := by rw [hV9.d.cell]; rfl
  clear hcell hV9 hP9 hH9 hb9
  go_upto_region 22 with (fail)
  refine wp_flow (fun k => decide (k < 13)) (fun k => false) 227 [0, 1, 2, 3, 4, 5, 6, 7, 8, 9, 10, 11, 12] (fun w' => Below w9.heap.size w9 w') (fun k a v w' => True) (by kernel_rfl) ?hflB ?hpuB ?hksB (fun _ _ _ _ _ h => h) rfl ?hst ?hC ?_
  case hflB => kernel_rfl
  case hpuB => kernel_rfl
  case hksB => kernel_rfl
  case hst => exact ⟨fun w0 w1 h1 hb => h1.trans (hb.mono h1.size), fun k a v w0 w1 hW hb => hW, fun k a b v w0 _ h => h⟩
  case hC => exact (Below.refl _ _).drew
  refine fq 171 (.pointer (some ⟨gd, 0, none⟩)) (by kernel_rfl) (by kernel_rfl) (by kernel_rfl) (by kernel_rfl) (fun w => (by kernel_rfl)) ?_
  refine fq 172 (.pointer (some ⟨gd, 0, none⟩)) (by kernel_rfl) (by kernel_rfl) (by kernel_rfl) (by kernel_rfl) (fun w => (by kernel_rfl)) ?_
  refine fq 173 (.pointer (some ⟨gd, 0, none⟩)) (by kernel_rfl) (by kernel_rfl) (by kernel_rfl) (by kernel_rfl) (fun w => (by kernel_rfl)) ?_
  refine fq 174 (.pointer (some ⟨gd, 3, none⟩)) (by kernel_rfl) (by kernel_rfl) (by kernel_rfl) (by kernel_rfl) (fun w => (by kernel_rfl)) ?_
  refine fq1 175 (.slice (some ⟨b2, o2, none⟩) (n + 1) c7) 24 (.tmp 174) gd 3 _ (by kernel_rfl) (by kernel_rfl) (by kernel_rfl) (by kernel_rfl) (by kernel_rfl) (by kernel_rfl) Tryz.underlying24 rfl (fun w hw => cell_on hw.1 HV9.out.d.lt f3) ?_
  refine fq 176 (.pointer (some ⟨gd, 0, none⟩)) (by kernel_rfl) (by kernel_rfl) (by kernel_rfl) (by kernel_rfl) (fun w => (by kernel_rfl)) ?_
  refine fq 177 (.pointer (some ⟨gd, 0, none⟩)) (by kernel_rfl) (by kernel_rfl) (by kernel_rfl) (by kernel_rfl) (fun w => (by kernel_rfl)) ?_
  refine fq 178 (.pointer (some ⟨gd, 0, none⟩)) (by kernel_rfl) (by kernel_rfl) (by kernel_rfl) (by kernel_rfl) (fun w => (by kernel_rfl)) ?_
  refine fq 179 (.pointer (some ⟨gd, 3, none⟩)) (by kernel_rfl) (by kernel_rfl) (by kernel_rfl) (by kernel_rfl) (fun w => (by kernel_rfl)) ?_
  refine fq1 180 (.slice (some ⟨b2, o2, none⟩) (n + 1) c7) 24 (.tmp 179) gd 3 _ (by kernel_rfl) (by kernel_rfl) (by kernel_rfl) (by kernel_rfl) (by kernel_rfl) (by kernel_rfl) Tryz.underlying24 rfl (fun w hw => cell_on hw.1 HV9.out.d.lt f3) ?_
  refine fq 181 (.int .i64 ((n + 1 : Nat) : Int)) (by kernel_rfl) (by kernel_rfl) (by kernel_rfl) (by kernel_rfl) (fun w => (by kernel_rfl)) ?_
  refine fqe 182 (.int .i64 (IntKind.i64.wrap (((n + 1 : Nat) : Int) - 1))) (.int .i64 (n : Nat)) (by rw [IntKind.wrap_i64]; congr 1; omega) (by kernel_rfl) (by kernel_rfl) (by kernel_rfl) (by kernel_rfl) (fun w => (by kernel_rfl)) ?_
  refine fidx 183 24 (.tmp 175) (.tmp 182) b2 o2 (n + 1) c7 .i64 (n : Nat) 29 (o2 + n * 29) (by kernel_rfl) (by kernel_rfl) (by kernel_rfl) (by kernel_rfl) (by kernel_rfl) (by kernel_rfl) (by kernel_rfl) Tryz.underlying24 (fun w => (by kernel_rfl)) (by omega) (by omega) (by simp) ?_
  refine fend [13] (by kernel_rfl) (by kernel_rfl) ?_
  intro w10 hw10 _
  refine tval (some 16) (.pointer (some ⟨b2, o2 + n * 29, none⟩)) w10 (by kernel_rfl) (by kernel_rfl) (by kernel_rfl) ?_
  refine tend ?_
  go_simp
  refine (show ∀ (a : Act) (w : World), Code.wp _ _ _ a w → _ from by assumption) _ _ ?_
  refine wp_world (fun w' => Below w9.heap.size w9 w') hw10 ?_
  clear hw10 f3
  rintro w10 hw10
  have HV10 := Lib.hid (HV9.out.carry hw10)
  have HP10 := Lib.hid (HP9.out.carry hw10)
  have HH10 := Lib.hid (HH9.out.carry hw10)
  have HB10 := Lib.hid (HB9.out.trans (hw10.mono (by have := HB9.out.size; omega)))
  have f2 : w10.cell? ⟨gd, 2, none⟩ = some (.int .i64 gk.next) := by rw [HV10.out.d.cell]; rfl
  have z2 := HV10.out.d.zs 2
  have hgl10 := HV10.out.d.lt
  have hwr : IntKind.i64.wrap (gk.next + 1) = gk.next + 1 := by have := HNX.out; rw [IntKind.wrap_i64]; omega
  clear hw10 HV9 HP9 HH9 HB9
  go_upto_region 24 with (fail)
  refine wp_world (fun w' => DkV w' base gd gk.up (some ⟨b2, o2, none⟩) (n + 1) c7 (xs ++ [newN gk f p x cA cc cB cd]) O m co ms ∧ Blk w' q 3 #[.int .i64 p] ∧ Blk w' q1 61 #[.int .i64 (0 : Nat), .int .i64 t, .int .i64 f, .slice T tn tc, .int .i64 (0 : Nat), .int .i64 (1 : Nat)] ∧ Below base w w')
    ⟨HV10.out.wr ((HV10.out.d.set_ 2 _).as (by rfl)) (Wr.set _ gd 2 _), HP10.out.wr (Wr.set _ gd 2 _) (Blk.ne HP10.out HV10.out.d (by decide)), HH10.out.wr (Wr.set _ gd 2 _) (Blk.ne HH10.out HV10.out.d (by decide)), (Wr.set _ gd 2 _).trans_below HB10.out hgd⟩ ?_
  clear HV10 HP10 HH10 HB10 f2 z2 hgl10 hwr
  rintro w11 ⟨hV11, hP11, hH11, hb11⟩
  have HV11 := Lib.hid hV11
  have HP11 := Lib.hid hP11
  have HH11 := Lib.hid hH11
  have HB11 := Lib.hid hb11
  have f0 : w11.cell? ⟨gd, 0, none⟩ = some (.int .u64 gk.secret) := by rw [hV11.d.cell]; rfl
  have HID := Lib.hid (show ∀ W, Below w11.heap.size w11 W → W.cell? ⟨b2, o2 + n * 29, none⟩ = some (.int .i64 nx) from fun W hW => by
    obtain ⟨b3, o3, e3, hcell⟩ := (HV11.out.carry hW).nt.rd.nt (by simp)
    obtain ⟨rfl, rfl⟩ : b2 = b3 ∧ o2 = o3 := by injection e3 with e3; simpa using e3
    have := hcell n (by simp [hxn]) 0 (.int .i64 gk.next) (by rw [getD_end _ _ _ _ hxn]; exact nta_id _)
    rw [HNX.out] at this
    exact this)
  clear hV11 hP11 hH11 hb11
  refine wp_flow (fun k => decide (k < 27)) (fun k => k == 2 || k == 19 || k == 20 || k == 22 || k == 23) 227 [0, 1, 2, 3, 4, 5, 6, 7, 8, 9, 10, 11, 12, 13, 14, 15, 16, 17, 18, 19, 20, 21, 22, 23, 24, 25, 26] (fun w' => Below w11.heap.size w11 w') (fun k a v w' => (k = 2 → v = .int .u64 (keyI 1 f)) ∧ (k = 19 → v = .int .u64 (keyI gk.secret nx)) ∧ (k = 20 → ∃ gE, v = .slice (some ⟨gE, 0, none⟩) 8 8 ∧ RdB w' (some ⟨gE, 0, none⟩) (beB 8 (keyI gk.secret nx).toNat)) ∧ (k = 22 → ∃ gF gE, v = .slice (some ⟨gF, 0, none⟩) 1 1 ∧ RdX fmc 7 w' (some ⟨gF, 0, none⟩) [hfm (keyI gk.secret nx).toNat (some ⟨gE, 0, none⟩) 8] ∧ RdB w' (some ⟨gE, 0, none⟩) (beB 8 (keyI gk.secret nx).toNat)) ∧ (k = 23 → ∃ D dc, v = .tuple #[.slice D 24 dc, .int .i64 0] ∧ OwnX u8c 1 w' 0 5 D dc (greetB (keyI 1 f) f nx [] (keyI gk.secret nx).toNat))) (by kernel_rfl) ?hflB ?hpuB ?hksB (fun _ _ _ _ _ h => h) rfl ?hst ?hC ?_
  case hflB => kernel_rfl
  case hpuB => kernel_rfl
  case hksB => kernel_rfl
  case hst => exact ⟨fun w0 w1 h1 hb => h1.trans (hb.mono h1.size), fun k a v w0 w1 hW hb => ⟨fun e => (fun hp => hp) (hW.1 e), fun e => (fun hp => hp) (hW.2.1 e), fun e => (fun hp => by obtain ⟨gE, e1, e2⟩ := hp; exact ⟨gE, e1, e2.below hb⟩) (hW.2.2.1 e), fun e => (fun hp => by obtain ⟨gF, gE, e1, e2, e3⟩ := hp; exact ⟨gF, gE, e1, RdX.below e2 hb, e3.below hb⟩) (hW.2.2.2.1 e), fun e => (fun hp => by obtain ⟨D, dc, e1, e2⟩ := hp; exact ⟨D, dc, e1, e2.carry hb⟩) (hW.2.2.2.2 e)⟩, fun k a b v w0 _ h => h⟩
  case hC => exact (Below.refl _ _).drew
  refine fq 194 (.pointer (some ⟨q1, 2, none⟩)) (by kernel_rfl) (by kernel_rfl) (by kernel_rfl) (by kernel_rfl) (fun w => (by kernel_rfl)) ?_
  refine fq1 195 (.int .i64 f) 3 (.tmp 194) q1 2 _ (by kernel_rfl) (by kernel_rfl) (by kernel_rfl) (by kernel_rfl) (by kernel_rfl) (by kernel_rfl) Tryz.underlying3 rfl (fun w hw => cell_on hw.1 HH11.out.lt HH11.out.two2) ?_
  refine fcall 196 24 #[.int .i64 f] (by kernel_rfl) (by kernel_rfl) (by kernel_rfl) (by kernel_rfl) (fun w => (by kernel_rfl)) (fun w hw => (first_any f w).mono ?hx2_196) ?_
  case hx2_196 =>
    rintro e w' ⟨rfl, rfl⟩
    exact ⟨_, rfl, ⟨fun _ => rfl, fun e => absurd e (by decide), fun e => absurd e (by decide), fun e => absurd e (by decide), fun e => absurd e (by decide)⟩, hw.1, Below.refl _ _⟩
  rintro v ⟨w', hw', hW⟩
  obtain rfl := hW.1 rfl
  clear  hW hw' w'
  refine fq 197 (.pointer (some ⟨q1, 2, none⟩)) (by kernel_rfl) (by kernel_rfl) (by kernel_rfl) (by kernel_rfl) (fun w => (by kernel_rfl)) ?_
  refine fq1 198 (.int .i64 f) 3 (.tmp 197) q1 2 _ (by kernel_rfl) (by kernel_rfl) (by kernel_rfl) (by kernel_rfl) (by kernel_rfl) (by kernel_rfl) Tryz.underlying3 rfl (fun w hw => cell_on hw.1 HH11.out.lt HH11.out.two2) ?_
  refine fq 199 (.pointer (some ⟨b2, o2 + n * 29, none⟩)) (by kernel_rfl) (by kernel_rfl) (by kernel_rfl) (by kernel_rfl) (fun w => (by kernel_rfl)) ?_
  refine fq 200 (.pointer (some ⟨b2, o2 + n * 29, none⟩)) (by kernel_rfl) (by kernel_rfl) (by kernel_rfl) (by kernel_rfl) (fun w => (by kernel_rfl)) ?_
  refine fq 201 (.pointer (some ⟨b2, o2 + n * 29, none⟩)) (by kernel_rfl) (by kernel_rfl) (by kernel_rfl) (by kernel_rfl) (fun w => (by kernel_rfl)) ?_
  refine fq1 202 (.int .i64 nx) 3 (.tmp 201) b2 (o2 + n * 29) _ (by kernel_rfl) (by kernel_rfl) (by kernel_rfl) (by kernel_rfl) (by kernel_rfl) (by kernel_rfl) Tryz.underlying3 rfl (fun w hw => HID.out w hw.1) ?_
  refine fq 203 (.agg #[.int .i64 (0 : Nat), .int .i64 f, .int .i64 nx, .slice none 0 0, .int .i64 0, .int .i64 0]) (by kernel_rfl) (by kernel_rfl) (by kernel_rfl) (by kernel_rfl) (fun w => (by kernel_rfl)) ?_
  refine fq 204 (.pointer (some ⟨gd, 0, none⟩)) (by kernel_rfl) (by kernel_rfl) (by kernel_rfl) (by kernel_rfl) (fun w => (by kernel_rfl)) ?_
  refine fq 205 (.pointer (some ⟨gd, 0, none⟩)) (by kernel_rfl) (by kernel_rfl) (by kernel_rfl) (by kernel_rfl) (fun w => (by kernel_rfl)) ?_
  refine fq 206 (.pointer (some ⟨gd, 0, none⟩)) (by kernel_rfl) (by kernel_rfl) (by kernel_rfl) (by kernel_rfl) (fun w => (by kernel_rfl)) ?_
  refine fq 207 (.pointer (some ⟨gd, 0, none⟩)) (by kernel_rfl) (by kernel_rfl) (by kernel_rfl) (by kernel_rfl) (fun w => (by kernel_rfl)) ?_
  refine fq1 208 (.int .u64 gk.secret) 23 (.tmp 207) gd 0 _ (by kernel_rfl) (by kernel_rfl) (by kernel_rfl) (by kernel_rfl) (by kernel_rfl) (by kernel_rfl) Tryz.underlying23 rfl (fun w hw => cell_on hw.1 HV11.out.d.lt f0) ?_
  refine fq 209 (.pointer (some ⟨b2, o2 + n * 29, none⟩)) (by kernel_rfl) (by kernel_rfl) (by kernel_rfl) (by kernel_rfl) (fun w => (by kernel_rfl)) ?_
  refine fq 210 (.pointer (some ⟨b2, o2 + n * 29, none⟩)) (by kernel_rfl) (by kernel_rfl) (by kernel_rfl) (by kernel_rfl) (fun w => (by kernel_rfl)) ?_
  refine fq 211 (.pointer (some ⟨b2, o2 + n * 29, none⟩)) (by kernel_rfl) (by kernel_rfl) (by kernel_rfl) (by kernel_rfl) (fun w => (by kernel_rfl)) ?_
  refine fq1 212 (.int .i64 nx) 3 (.tmp 211) b2 (o2 + n * 29) _ (by kernel_rfl) (by kernel_rfl) (by kernel_rfl) (by kernel_rfl) (by kernel_rfl) (by kernel_rfl) Tryz.underlying3 rfl (fun w hw => HID.out w hw.1) ?_
  refine fcall 213 55 #[.int .u64 gk.secret, .int .i64 nx] (by kernel_rfl) (by kernel_rfl) (by kernel_rfl) (by kernel_rfl) (fun w => (by kernel_rfl)) (fun w hw => (key_any gk.secret nx s0 s1 w).mono ?hx19_213) ?_
  case hx19_213 =>
    rintro e w' ⟨rfl, rfl⟩
    exact ⟨_, rfl, ⟨fun e => absurd e (by decide), fun _ => rfl, fun e => absurd e (by decide), fun e => absurd e (by decide), fun e => absurd e (by decide)⟩, hw.1, Below.refl _ _⟩
  rintro v ⟨w', hw', hW⟩
  obtain rfl := hW.2.1 rfl
  clear  hW hw' w'
  refine fcall 214 101 #[.int .u64 (keyI gk.secret nx)] (by kernel_rfl) (by kernel_rfl) (by kernel_rfl) (by kernel_rfl) (fun w => (by kernel_rfl)) (fun w hw => (gEight_any (keyI gk.secret nx) (keyI_range _ _).1 (keyI_range _ _).2 w).mono ?hx20_214) ?_
  case hx20_214 =>
    rintro e w' ⟨rfl, hE, hb⟩
    exact ⟨_, rfl, ⟨fun e => absurd e (by decide), fun e => absurd e (by decide), fun _ => ⟨w.heap.size, rfl, RdB.blk hE⟩, fun e => absurd e (by decide), fun e => absurd e (by decide)⟩, hw.1.trans (hb.mono hw.1.size), hb⟩
  rintro v ⟨w', hw', hW⟩
  obtain ⟨gE, rfl, h4⟩ := hW.2.2.1 rfl
  clear h4 hW hw' w'
  refine fq 215 (.agg (hfc (some ⟨gE, 0, none⟩) 8)) (by kernel_rfl) (by kernel_rfl) (by kernel_rfl) (by kernel_rfl) (fun w => (by kernel_rfl)) ?_
  refine fnew 216 (fun w => .slice (some ⟨w.heap.size, 0, none⟩) 1 1) (fun w => w.alloc (.cells (hfc (some ⟨gE, 0, none⟩) 8) 68)) (by kernel_rfl) (by kernel_rfl) (by kernel_rfl) (by kernel_rfl) (fun w => (by kernel_rfl)) (fun w hw => ⟨⟨fun e => absurd e (by decide), fun e => absurd e (by decide), fun e => absurd e (by decide), fun _ => ⟨w.heap.size, gE, rfl, RdX.oneF _ _ _ _ _, (by obtain ⟨gE2, e1, e2⟩ := (hw.2 _ List.mem_cons_self (by kernel_rfl)).2.2.1 rfl; obtain rfl : gE = gE2 := (by injection e1 with e1; simpa using e1); exact e2.below ((Below.refl _ _).alloc (Nat.le_refl _) _))⟩, fun e => absurd e (by decide)⟩, hw.1.alloc hw.1.size _, (Below.refl _ _).alloc (Nat.le_refl _) _⟩) ?_
  rintro v ⟨w', hw', hW⟩
  obtain ⟨gF, gE2, rfl, h4, h5⟩ := hW.2.2.2.1 rfl
  clear h4 h5 hW hw' w'
  refine fcall 217 23 #[.int .u64 (keyI 1 f), .agg #[.int .i64 (0 : Nat), .int .i64 f, .int .i64 nx, .slice none 0 0, .int .i64 0, .int .i64 0], .int .i64 (0 : Nat), .int .i64 (-1), .slice (some ⟨gF, 0, none⟩) 1 1] (by kernel_rfl) (by kernel_rfl) (by kernel_rfl) (by kernel_rfl) (fun w => (by kernel_rfl)) (fun w hw => ?hx23_217) ?_
  case hx23_217 =>
    obtain ⟨gF2, gE2, e1, e2, e3⟩ := (hw.2 _ List.mem_cons_self (by kernel_rfl)).2.2.2.1 rfl
    obtain rfl : gF = gF2 := by injection e1 with e1; simpa using e1
    refine (greet_any (keyI 1 f) (keyI_range _ _).1 (keyI_range _ _).2 f nx hf hnx5 none 0 0 [] rfl (by decide) (keyI gk.secret nx).toNat (some ⟨gE2, 0, none⟩) 8 (by decide) (by decide) (some ⟨gF, 0, none⟩) w Rd.nil e2 e3).mono ?_
    rintro e w' ⟨D, dc, rfl, hD, hb⟩
    exact ⟨_, rfl, ⟨fun e => absurd e (by decide), fun e => absurd e (by decide), fun e => absurd e (by decide), fun e => absurd e (by decide), fun _ => ⟨D, dc, rfl, hD.mono (Nat.zero_le _)⟩⟩, hw.1.trans (hb.mono hw.1.size), hb⟩
  rintro v ⟨w', hw', hW⟩
  obtain ⟨D, dc, rfl, h4⟩ := hW.2.2.2.2 rfl
  clear h4 hW hw' w'
  refine fq 193 (.tuple #[.slice D 24 dc, .int .i64 0]) (by kernel_rfl) (by kernel_rfl) (by kernel_rfl) (by kernel_rfl) (fun w => (by kernel_rfl)) ?_
  refine fq 218 (.slice D 24 dc) (by kernel_rfl) (by kernel_rfl) (by kernel_rfl) (by kernel_rfl) (fun w => (by kernel_rfl)) ?_
  refine fq 219 (.int .i64 0) (by kernel_rfl) (by kernel_rfl) (by kernel_rfl) (by kernel_rfl) (fun w => (by kernel_rfl)) ?_
  refine fend [27, 28] (by kernel_rfl) (by kernel_rfl) ?_
  intro w12 hw12 hF
  obtain ⟨D2, dc2, e2, hOD⟩ := (hF _ List.mem_cons_self).2.2.2.2 rfl
  obtain ⟨rfl, rfl⟩ : D = D2 ∧ dc = dc2 := by injection e2 with e2; simpa using e2
  clear hF e2
  refine tval (some 20) (.slice D 24 dc) w12 (by kernel_rfl) (by kernel_rfl) (by kernel_rfl) ?_
  refine tval (some 13) (.int .i64 0) w12 (by kernel_rfl) (by kernel_rfl) (by kernel_rfl) ?_
  refine tend ?_
  go_simp
  refine (show ∀ (a : Act) (w : World), Code.wp _ _ _ a w → _ from by assumption) _ _ ?_
  refine wp_world (fun w' => OwnX u8c 1 w' 0 5 D dc (greetB (keyI 1 f) f nx [] (keyI gk.secret nx).toNat) ∧ Below w11.heap.size w11 w') ⟨hOD, hw12⟩ ?_
  clear hOD hw12 HID f0
  rintro w13 ⟨hOD, hw13⟩
  have HV13 := Lib.hid (HV11.out.carry hw13)
  have f6 : w13.cell? ⟨q, 0, none⟩ = some (.int .i64 p) := (HP11.out.carry hw13).one0
  have hql : q < w13.heap.size := (HP11.out.carry hw13).lt
  have HB13 := Lib.hid (HB11.out.trans (hw13.mono (by have := HB11.out.size; omega)))
  have HOD := Lib.hid hOD
  have hGL : (greetB (keyI 1 f) f nx [] (keyI gk.secret nx).toNat).length = 24 := greetB_len _ _ _ [] _ (by decide)
  have HGL := Lib.hid hGL
  clear hOD hw13 HV11 HP11 HH11 HB11 hGL
  go_wp2_with fail
  refine (send_yes p hp D 24 dc (greetB (keyI 1 f) f nx [] (keyI gk.secret nx).toNat) HGL.out (by decide) base gd gk.up (some ⟨b2, o2, none⟩) (n + 1) c7 (xs ++ [newN gk f p x cA cc cB cd]) O m co hm10 ms HOK.out h1 h3 h5 w13 HV13.out HOD.out (by have := HB13.out.size; omega)).mono ?_
  rintro e w14 ⟨rfl, ⟨O', co', hV14⟩, hb14⟩
  go_wp2_with fail
  go_ret
  have tk : gk.up.t p = (true, (g.t p).2.1, (g.t p).2.2) := by rw [← HGK.out]; simp [GtD.up, GtD.set, upd]
  rw [tk] at hV14
  have hgk := HGK.out
  subst hgk
  exact ⟨rfl, ⟨_, _, O', co', D, dc, cA, cc, cB, cd, hcc, hcd, hV14⟩, HB13.out.trans hb14⟩

end Go.Proofs.YtbcagdjfegobnaaGreat
