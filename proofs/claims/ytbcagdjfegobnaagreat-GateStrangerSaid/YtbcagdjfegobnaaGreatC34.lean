/- Texts of the proof, laid together: Gate8a Gate8 Gate9 Gate6 FlowY FlowZ HeadDecWalk. -/
import Derived.Test.YtbcagdjfegobnaaGreatC32
import Derived.Test.YtbcagdjfegobnaaGreatC33
import Derived.Test.YtbcagdjfegobnaaGreatC13
import Derived.Test.YtbcagdjfegobnaaGreatC24
/- Gates whose connections have just begun: what desk.first needs. -/
namespace Go.Proofs.YtbcagdjfegobnaaGreat
open Go.ChangeShapes Go.WideShapes Go.ChangeAt Go.RowKit
set_option linter.unusedVariables false

theorem beB8_len (y : Nat) : (beB 8 y).length = 8 := beB_length _ _
/-- The frame of a greeting, as_v it lies in memory. -/
def hfm (y : Nat) (D : Option Addr) (dc : Nat) : FrM := ⟨helloFr y, none, 0, D, dc⟩
def hfc (D : Option Addr) (dc : Nat) : Array Value := #[.int .i64 6, .int .i64 0, .int .i64 0, .bool false, .int .i64 0, .slice none 0 0, .slice D 8 dc]
theorem hfc_eq (y : Nat) (D : Option Addr) (dc : Nat) : fmc (hfm y D dc) = (hfc D dc).toList := by
  simp [fmc, hfm, hfc, helloFr, beB_length]
theorem RdX.oneF (w : World) (E : TypeId) (y : Nat) (D : Option Addr) (dc : Nat) : RdX fmc 7 (w.alloc (.cells (hfc D dc) E)) (some ⟨w.heap.size, 0, none⟩) [hfm y D dc] := by
  have hB := Blk.new w E (hfc D dc)
  refine ⟨by simp [fmc_len], fun _ => ⟨w.heap.size, 0, rfl, fun j u hu => ?_⟩⟩
  rw [hB.cell, Nat.zero_add]
  simp only [List.flatMap_cons, List.flatMap_nil, List.append_nil, hfc_eq] at hu
  simpa using hu
theorem RdB.blk {w : World} {g : Nat} {t : TypeId} {bs : List UInt8} (h : Blk w g t (u8s bs).toArray) : RdB w (some ⟨g, 0, none⟩) bs := by
  refine ⟨by simp [u8s], fun _ => ⟨g, 0, rfl, fun j u hu => ?_⟩⟩
  rw [h.cell, Nat.zero_add]
  simpa using hu
/-- The packet of a greeting. -/
theorem greet_any (key : Int) (hk0 : 0 ≤ key) (hk1 : key < 18446744073709551616) (t f : Nat) (ht : t ≤ 255) (hf : f ≤ 255) (T : Option Addr) (tn tc : Nat) (tok : List UInt8) (htn : tok.length = tn) (htk : tn ≤ 63) (y : Nat) (D : Option Addr) (dc : Nat) (h8 : 8 ≤ dc) (hd : dc ≤ 9223372036854775807) (L : Option Addr) (w : World)
    (hT : RdB w T tok) (hL : RdX fmc 7 w L [hfm y D dc]) (hD : RdB w D (beB 8 y)) :
    Calls Tryz.prog 23 #[.int .u64 key, .agg #[.int .i64 (0 : Nat), .int .i64 t, .int .i64 f, .slice T tn tc, .int .i64 0, .int .i64 0], .int .i64 (0 : Nat), .int .i64 (-1), .slice L 1 1] w fun e w' =>
      ∃ A c, e = .returned (.tuple #[.slice A (24 + tn) c, .int .i64 0]) ∧ OwnX u8c 1 w' w.heap.size 5 A c (greetB key t f tok y) ∧ Below w.heap.size w w' := by
  have h := packet_any key hk0 hk1 ⟨0, t, f, tok, 0, 0⟩ (greet_head t f tok ht hf (by omega)) T tn tc htn 0 0 0 (by decide) (-1) (by decide) (by decide) (by decide) L 1 1 [hfm y D dc] rfl (by decide) (by decide) (by decide) (fun x hx => by rw [List.mem_singleton.1 hx]; exact helloFr_ok y) w hT
    ⟨hL, fun x hx => by rw [List.mem_singleton.1 hx]; exact ⟨Rd.nil, hD, by simp [hfm, helloFr], by simp [hfm], by simp [hfm, helloFr, beB_length]; exact h8, hd⟩⟩
  have hl := greetB_len key t f tok y (by omega)
  refine h.mono ?_
  rintro e w' ⟨(⟨h1, _⟩ | ⟨_, A, k, c, rfl, hk, hO⟩), hb⟩
  · exfalso
    have : (greetB key t f tok y).length > 400 := h1
    omega
  · have hk : (greetB key t f tok y).length = k := hk
    obtain rfl : k = 24 + tn := by omega
    exact ⟨A, c, rfl, hO.x, hb⟩
section
variable {w w' : World} {base gd : Nat} {g : GtD} {A : Option Addr} {n c : Nat} {xs : List NtB} {O : Option Addr} {m co : Nat} {ms : List MlB}
/-- .. when one note more is written. -/
theorem DkV.note (h : DkV w base gd g A n c xs O m co ms) {A' : Option Addr} {c' : Nat} {y : NtB} (hO : OwnX ntc 29 w' base 53 A' c' (xs ++ [y])) (hg : w.grownBy w' (A.map (·.block)))
    {w2 : World} (hB : Blk w2 gd 133 (dkc g A' (n + 1) c' O m co)) (hw : Wr gd w' w2) : DkV w2 base gd g A' (n + 1) c' (xs ++ [y]) O m co ms := by
  have hgd : some gd ≠ A.map (·.block) := fun e => by
    cases hO' : A with
    | none => rw [hO'] at e; cases e
    | some a => rw [hO'] at e; exact own_ne h.nt h.d (by decide) a hO' (Option.some.inj e).symm
  have hd : Blk w' gd 133 (dkc g A n c O m co) := h.d.grown hg hgd
  have hm := h.ml.grown hg (own_apartE h.ml h.nt (by decide))
  refine ⟨by rw [List.length_append, h.hn]; rfl, h.hm, h.hg, hB, hO.wr hw (own_ne hO hd (by decide)), hm.wr hw (own_ne hm hd (by decide)), fun y hy => ?_⟩
  have h1 := h.dat y hy
  have h2 := h1.1.grown hg (own_apartE h1.1 h.nt (by decide))
  exact ⟨h2.wr hw (own_ne h2 hd (by decide)), h1.2⟩
theorem DkV.gd_ne (h : DkV w base gd g A n c xs O m co ms) : some gd ≠ A.map (·.block) := fun e => by
  cases hO' : A with
  | none => rw [hO'] at e; cases e
  | some a => rw [hO'] at e; exact own_ne h.nt h.d (by decide) a hO' (Option.some.inj e).symm
end
end Go.Proofs.YtbcagdjfegobnaaGreat
/- Gates whose connections have just begun: the contract of desk.first where no token is asked for. -/
namespace Go.Proofs.YtbcagdjfegobnaaGreat
open Go.ChangeShapes Go.WideShapes Go.ChangeAt Go.RowKit
set_option linter.unusedVariables false

theorem getD_end {α : Type} (xs : List α) (y d : α) (n : Nat) (h : xs.length = n) : (xs ++ [y]).getD n d = y := by subst h; simp [List.getD]
theorem nta_id (x : NtB) : (nta x)[0]? = some (.int .i64 x.id) := by
  unfold nta
  rw [Array.getElem?_append_left (by simp)]
  rfl
theorem Blk.two2 {w : World} {q : Nat} {E : TypeId} {a b c d e f : Value} (h : Blk w q E #[a, b, c, d, e, f]) : w.cell? ⟨q, 2, none⟩ = some c := by rw [h.cell]; rfl
theorem Blk.one0 {w : World} {q : Nat} {E : TypeId} {a : Value} (h : Blk w q E #[a]) : w.cell? ⟨q, 0, none⟩ = some a := by rw [h.cell]; rfl
theorem Blk.ne {w : World} {q g : Nat} {E t : TypeId} {cs ds : Array Value} (h : Blk w q E cs) (k : Blk w g t ds) (hne : E ≠ t) : q ≠ g := fun e => by
  subst e
  have h1 : some (Obj.cells cs E (0, 0)) = some (Obj.cells ds t (0, 0)) := (show w.heap[q]? = _ from h).symm.trans k
  injection h1 with h1; injection h1 with h1 h2; exact hne h2
theorem own_apartB {α : Type} {f : α → List Value} {m base : Nat} {E t : TypeId} {w : World} {A : Option Addr} {c : Nat} {xs : List α} {g : Nat} {cs : Array Value} (h : OwnX f m w base E A c xs) (hg : Blk w g t cs) (hne : E ≠ t) : some g ≠ A.map (·.block) := fun e => by
  cases hO' : A with
  | none => rw [hO'] at e; cases e
  | some a => rw [hO'] at e; exact own_ne h hg hne a hO' (Option.some.inj e).symm
/-- The note of who greets. -/
def newN (g : GtD) (f p x : Nat) (cA : Option Addr) (cc : Nat) (cB : Option Addr) (cd : Nat) : NtB :=
  ⟨g.next, f, p, sessI x (keyI g.secret g.next), false, g.now, bg0 false cA cc cB cd g.now 0 4, rfl, bg0_one _ _ _ _ _ _ _ _⟩
def GtD.up (g : GtD) : GtD := { g with next := g.next + 1 }

set_option maxRecDepth 100000 in
set_option maxHeartbeats 2000000 in
theorem first_new (p : Nat) (hp : p < 4) (t f x : Nat) (ht : t ≤ 255) (hf : f ≤ 255) (hx : x < 18446744073709551616) (T : Option Addr) (tn tc : Nat) (tok : List UInt8) (htn : tok.length = tn) (htk : tn ≤ 63) (U : Nat) (hU : (pktHd ⟨0, t, f, tok, 0, 0⟩ 1 0).length = U)
    (B : Option Addr) (bc : Nat) (hbc : 24 + tn ≤ bc) (hbm : bc ≤ 9223372036854775807) (base gd : Nat) (g : GtD) (A : Option Addr) (n c : Nat) (xs : List NtB) (O : Option Addr) (m co : Nat) (hm10 : m ≤ 100) (ms : List MlB)
    (ok : TlyOk (g.t p)) (h1 : (g.t p).2.1 ≤ 1099511627376) (h3 : (g.t p).2.2 ≤ 1099511627376) (h5 : (g.t p).1 = true ∨ (g.t p).2.2 + 24 ≤ 3 * (g.t p).2.1)
    (s0 : 0 ≤ g.secret) (s1 : g.secret < 18446744073709551616) (n0 : 0 ≤ g.now) (n1 : g.now ≤ 1099511627776) (nx : Nat) (hnx : g.next = nx) (hnx5 : nx ≤ 255) (hn : n ≤ 1) (hret : g.retry = false) (hnot : xs.any (fun x => decide (x.peer = p) && decide (x.from_ = f)) = false)
    (w : World) (h : DkV w base gd g A n c xs O m co ms) (hbase : base ≤ w.heap.size) (hB : RdB w B (greetB (keyI 1 f) t f tok x)) :
    Calls Tryz.prog 60 #[.pointer (some ⟨gd, 0, none⟩), .int .i64 p, .agg #[.int .i64 (0 : Nat), .int .i64 t, .int .i64 f, .slice T tn tc, .int .i64 (0 : Nat), .int .i64 (1 : Nat)], .int .i64 (U : Nat), .slice B (24 + tn) bc] w fun e w' => e = .returned (.int .i64 0) ∧
      (∃ A' c' O' co' D dc cA cc cB cd, cc ≤ 9223372036854775807 ∧ cd ≤ 9223372036854775807 ∧ DkV w' base gd (g.up.set p ((g.t p).1, (g.t p).2.1, (g.t p).2.2 + 24)) A' (n + 1) c' (xs ++ [newN g f p x cA cc cB cd]) O' (m + 1) co' (ms ++ [⟨p, D, 24, dc, greetB (keyI 1 f) f nx [] (keyI g.secret nx).toNat⟩])) ∧ Below base w w' := by
  have hn2 : (24 + tn ≤ 100) := by omega
  have hBL := greetB_len (keyI 1 f) t f tok x (by omega)
  rw [htn] at hBL
  have hb0 : B = none → bc = 0 := fun e => by
    obtain ⟨b, off, e2⟩ := Blk.noneF hB hBL (by omega)
    rw [e2] at e; cases e
  have hUl : U ≤ 100000 := by
    have : (greetB (keyI 1 f) t f tok x).length = (pktHd ⟨0, t, f, tok, 0, 0⟩ 1 0).length + (sealB (keyI 1 f) (0 : Nat) (pktHd ⟨0, t, f, tok, 0, 0⟩ 1 0) ([helloFr x].flatMap fenc)).length := by unfold greetB pktB; rw [List.length_append]
    omega
  have HUN := Lib.hid (fun W hW => unpack_any (keyI 1 f) (keyI_range _ _).1 (keyI_range _ _).2 0 t f T tn tc 0 1 U (by decide) (by decide) (-1) (by decide) (by decide) hUl B (24 + tn) bc _ hBL hbc hbm (by omega) hb0 W hW)
  rw [← hU, greetB_unpack, hU] at HUN
  have HV := Lib.hid h
  have HB := Lib.hid hB
  have HOK := Lib.hid ok
  have HNOT := Lib.hid hnot
  have hgl := h.d.lt
  clear h hB ok hb0 hBL hnot
  go_enter Tryz.func60, Tryz.ntmps60
  -- [[p1
  go_upto_region 1 with (fail)
  refine wp_world (fun w' => Blk w' w.heap.size 3 #[.int .i64 p] ∧ Blk w' (w.heap.size + 1) 61 #[.int .i64 (0 : Nat), .int .i64 t, .int .i64 f, .slice T tn tc, .int .i64 (0 : Nat), .int .i64 (1 : Nat)] ∧ Below w.heap.size w w') ⟨(Blk.new _ _ _).alloc _, Blk.new1 _ _ _ _, ((Below.refl _ _).alloc (Nat.le_refl _) _).alloc (by simp) _⟩ ?_
  rintro w1 ⟨hP, hH, hb1⟩
  obtain ⟨q, hq⟩ : ∃ q, w.heap.size = q := ⟨_, rfl⟩
  obtain ⟨q1, hq1⟩ : ∃ q1, w.heap.size + 1 = q1 := ⟨_, rfl⟩
  rw [hq1] at hH ⊢
  rw [hq] at hP ⊢
  have HP := Lib.hid hP
  have HH := Lib.hid hH
  have HV1 := Lib.hid (HV.out.carry hb1)
  have HB1 := Lib.hid (hb1.mono hbase)
  have hs1 := hb1.size
  have HB := Lib.hid (HB.out.below hb1)
  clear hP hH hb1 HV hq hq1
  refine wp_flow (fun k => decide (k < 11)) (fun k => k == 2 || k == 6) 227 [0, 1, 2, 3, 4, 5, 6, 7, 8, 9, 10] (fun w' => Below w1.heap.size w1 w') (fun k a v w' => (k = 2 → v = .int .u64 (keyI 1 f)) ∧ (k = 6 → ∃ L lc ys, v = .tuple #[.int .i64 0, .slice L 1 lc, .int .i64 0] ∧ ys.map (·.f) = [helloFr x] ∧ FrRd w' L ys ∧ 1 ≤ lc ∧ lc ≤ 9223372036854775807)) (by kernel_rfl) ?hflB ?hpuB ?hksB (fun _ _ _ _ _ h => h) rfl ?hst ?hC ?_
  case hflB => kernel_rfl
  case hpuB => kernel_rfl
  case hksB => kernel_rfl
  case hst => exact ⟨fun w0 w1 h1 hb => h1.trans (hb.mono h1.size), fun k a v w0 w1 hW hb => ⟨fun e => (fun hp => hp) (hW.1 e), fun e => (fun hp => by obtain ⟨L, lc, ys, e1, e2, e3, e4⟩ := hp; exact ⟨L, lc, ys, e1, e2, e3.below hb, e4⟩) (hW.2 e)⟩, fun k a b v w0 _ h => h⟩
  case hC => exact (Below.refl _ _).drew
  refine fq 22 (.pointer (some ⟨q1, 2, none⟩)) (by kernel_rfl) (by kernel_rfl) (by kernel_rfl) (by kernel_rfl) (fun w => (by kernel_rfl)) ?_
  refine fq1 23 (.int .i64 f) 3 (.tmp 22) q1 2 _ (by kernel_rfl) (by kernel_rfl) (by kernel_rfl) (by kernel_rfl) (by kernel_rfl) (by kernel_rfl) Tryz.underlying3 rfl (fun w hw => cell_on hw.1 HH.out.lt HH.out.two2) ?_
  refine fcall 24 24 #[.int .i64 f] (by kernel_rfl) (by kernel_rfl) (by kernel_rfl) (by kernel_rfl) (fun w => (by kernel_rfl)) (fun w hw => (first_any f w).mono ?hx2_24) ?_
  case hx2_24 =>
    rintro e w' ⟨rfl, rfl⟩
    exact ⟨_, rfl, ⟨fun _ => rfl, fun e => absurd e (by decide)⟩, hw.1, Below.refl _ _⟩
  rintro v ⟨w', hw', hW⟩
  obtain rfl := hW.1 rfl
  clear  hW hw' w'
  refine fqR 25 #[.int .i64 (0 : Nat), .int .i64 t, .int .i64 f, .slice T tn tc, .int .i64 (0 : Nat), .int .i64 (1 : Nat)] 61 (.tmp 7) q1 0 _ (by kernel_rfl) (by kernel_rfl) (by kernel_rfl) (by kernel_rfl) (by kernel_rfl) (by kernel_rfl) Tryz.underlying61 rfl (by kernel_rfl) (fun w hw => (HH.out.carry hw.1).whole) ?_
  refine fq 26 (.int .i64 (U : Nat)) (by kernel_rfl) (by kernel_rfl) (by kernel_rfl) (by kernel_rfl) (fun w => (by kernel_rfl)) ?_
  refine fq 27 (.slice B (24 + tn) bc) (by kernel_rfl) (by kernel_rfl) (by kernel_rfl) (by kernel_rfl) (fun w => (by kernel_rfl)) ?_
  refine fcall 28 32 #[.int .u64 (keyI 1 f), .agg #[.int .i64 (0 : Nat), .int .i64 t, .int .i64 f, .slice T tn tc, .int .i64 (0 : Nat), .int .i64 (1 : Nat)], .int .i64 (U : Nat), .int .i64 (-1), .slice B (24 + tn) bc] (by kernel_rfl) (by kernel_rfl) (by kernel_rfl) (by kernel_rfl) (fun w => (by kernel_rfl)) (fun w hw => (HUN.out w (HB.out.below hw.1)).mono ?hx6_28) ?_
  case hx6_28 =>
    rintro e w' ⟨L, k, lc, ys, rfl, hys, hk, hrow, hb⟩
    obtain rfl : k = 1 := by rw [← hk]; have := congrArg List.length hys; simpa using this
    exact ⟨_, rfl, ⟨fun e => absurd e (by decide), fun _ => ⟨L, lc, ys, rfl, hys, hrow.rd, by have := hrow.1.cap; omega, hrow.1.cap.2⟩⟩, hw.1.trans (hb.mono hw.1.size), hb⟩
  rintro v ⟨w', hw', hW⟩
  obtain ⟨L, lc, ys, rfl, hys, h4, hlc1, hlc2⟩ := hW.2 rfl
  clear h4 hW hw' w'
  refine fq 21 (.tuple #[.int .i64 0, .slice L 1 lc, .int .i64 0]) (by kernel_rfl) (by kernel_rfl) (by kernel_rfl) (by kernel_rfl) (fun w => (by kernel_rfl)) ?_
  refine fq 29 (.int .i64 0) (by kernel_rfl) (by kernel_rfl) (by kernel_rfl) (by kernel_rfl) (fun w => (by kernel_rfl)) ?_
  refine fq 30 (.slice L 1 lc) (by kernel_rfl) (by kernel_rfl) (by kernel_rfl) (by kernel_rfl) (fun w => (by kernel_rfl)) ?_
  refine fq 31 (.int .i64 0) (by kernel_rfl) (by kernel_rfl) (by kernel_rfl) (by kernel_rfl) (fun w => (by kernel_rfl)) ?_
  refine fend [11, 12, 13] (by kernel_rfl) (by kernel_rfl) ?_
  intro w2 hw2 hF
  obtain ⟨L2, lc2, ys2, e2, hys2, hL, _, _⟩ := (hF _ List.mem_cons_self).2 rfl
  obtain ⟨rfl, rfl⟩ : L = L2 ∧ lc = lc2 := by injection e2 with e2; simpa using e2
  clear hF e2 hys ys
  refine tval (some 11) (.int .i64 0) w2 (by kernel_rfl) (by kernel_rfl) (by kernel_rfl) ?_
  refine tval (some 12) (.slice L 1 lc) w2 (by kernel_rfl) (by kernel_rfl) (by kernel_rfl) ?_
  refine tval (some 13) (.int .i64 0) w2 (by kernel_rfl) (by kernel_rfl) (by kernel_rfl) ?_
  refine tend ?_
  go_simp
  refine (show ∀ (a : Act) (w : World), Code.wp _ _ _ a w → _ from by assumption) _ _ ?_
  refine wp_world (fun w' => FrRd w' L ys2 ∧ Below w1.heap.size w1 w') ⟨hL, hw2⟩ ?_
  clear hL hw2 HUN HB
  rintro w3 ⟨hL, hw3⟩
  have HV3 := Lib.hid (HV1.out.carry hw3)
  have HP3 := Lib.hid (HP.out.carry hw3)
  have HH3 := Lib.hid (HH.out.carry hw3)
  have HB3 := Lib.hid (HB1.out.trans (hw3.mono (by have := HB1.out.size; omega)))
  have HL := Lib.hid hL
  clear hL hw3 HV1 HP HH HB1
  have HE := hello_any L 1 lc ys2 (by have := congrArg List.length hys2; simpa using this) (by decide) hlc1 hlc2 w3 HL.out
  rw [hys2, helloF_hello x hx] at HE
  have HE := Lib.hid HE
  go_wp2_with fail
  refine HE.out.mono ?_
  rintro e w4 ⟨rfl, hb4⟩
  have HV4 := Lib.hid (HV3.out.carry hb4)
  have HP4 := Lib.hid (HP3.out.carry hb4)
  have HH4 := Lib.hid (HH3.out.carry hb4)
  have HB4 := Lib.hid (HB3.out.trans (hb4.mono (by have := HB3.out.size; omega)))
  clear hb4 HE HL HV3 HP3 HH3 HB3
  have f3 : w4.cell? ⟨gd, 3, none⟩ = some (.slice A n c) := by rw [HV4.out.d.cell]; rfl
  have HNT := Lib.hid (note_first (.pointer (some ⟨q, 0, none⟩)) (.pointer (some ⟨q1, 0, none⟩)) gd A n c xs HV4.out.hn (by have := HV4.out.nt.cap; rw [HV4.out.hn] at this; exact this.1) (by have := HV4.out.nt.cap; exact this.2) (by omega) (fun x => decide (x.peer = p) && decide (x.from_ = f)) w4 HV4.out.nt.rd f3 HV4.out.d.lt
    (fun W hW x hx => ask_first x p f q q1 W (HP4.out.carry hW).one0 (HH4.out.carry hW).two2 (HP4.out.carry hW).lt (HH4.out.carry hW).lt))
  have HNA := Lib.hid (noteAt_none (A := A) HNOT.out)
  clear f3
  go_wp2_with fail
  refine HNT.out.mono ?_
  rintro e w5 ⟨rfl, hb5⟩
  rw [HNA.out]
  have HV5 := Lib.hid (HV4.out.carry hb5)
  have HP5 := Lib.hid (HP4.out.carry hb5)
  have HH5 := Lib.hid (HH4.out.carry hb5)
  have HB5 := Lib.hid (HB4.out.trans (hb5.mono (by have := HB4.out.size; omega)))
  clear hb5 HNT HNA HV4 HP4 HH4 HB4
  have f1 : w5.cell? ⟨gd, 1, none⟩ = some (.int .i64 g.now) := by rw [HV5.out.d.cell]; rfl
  have f2 : w5.cell? ⟨gd, 2, none⟩ = some (.int .i64 g.next) := by rw [HV5.out.d.cell]; rfl
  have f3 : w5.cell? ⟨gd, 3, none⟩ = some (.slice A n c) := by rw [HV5.out.d.cell]; rfl
  have f16 : w5.cell? ⟨gd, 16, none⟩ = some (.bool false) := by rw [HV5.out.d.cell, ← hret]; rfl
  have hgl5 := HV5.out.d.lt
  have c2 : ((n : Int) == 2) = false := by simp; omega
  have c3 : ((n : Int) == 3) = false := by simp; omega
  have c4 : (g.next == 256) = false := by simp; omega
  have HNX := Lib.hid hnx
  clear hnx
  go_wp2_with fail
  refine (connBegin_BgR g.now n0 n1 _).mono ?_
  rintro e w6 ⟨cs, rfl, ⟨cA, cc, cB, cd, hcc, hcd, rfl, _, _⟩, hb6⟩
  unfold bg0
  have HV6 := Lib.hid (HV5.out.carry hb6)
  have HP6 := Lib.hid (HP5.out.carry hb6)
  have HH6 := Lib.hid (HH5.out.carry hb6)
  have HB6 := Lib.hid (HB5.out.trans (hb6.mono (by have := HB5.out.size; omega)))
  clear hb6 HV5 HP5 HH5 HB5 f1 f2 f3 f16
  -- [[p2
  go_upto_region 21 with (first
    | (refine wpList_storeP rfl 43 (.tmp 18) (.tmp 132) rfl w6.heap.size 0 rfl (bg0 false cA cc cB cd g.now 0 4) rfl 43 _ (Blk.new _ _ _) (by kernel_rfl) (by simp [bg0]) (bg0_one _ _ _ _ _ _ _ _) _ (splice_all _ _ (by simp [bg0])) ?_
       intro w7 hB7 hw7
       have hb7 : Below w6.heap.size w6 w7 := hw7.trans_below ((Below.refl _ _).alloc (Nat.le_refl _) _) (Nat.le_refl _)))
  obtain ⟨gC, hgC⟩ : ∃ q, w6.heap.size = q := ⟨_, rfl⟩
  refine wp_world (fun w' => Blk w' gC 43 (bg0 false cA cc cB cd g.now 0 4) ∧ DkV w' base gd g A n c xs O m co ms ∧ Blk w' q 3 #[.int .i64 p] ∧ Blk w' q1 61 #[.int .i64 (0 : Nat), .int .i64 t, .int .i64 f, .slice T tn tc, .int .i64 (0 : Nat), .int .i64 (1 : Nat)] ∧ Below base w w') ⟨by rw [← hgC]; exact hB7, HV6.out.carry hb7, HP6.out.carry hb7, HH6.out.carry hb7, HB6.out.trans (hb7.mono (by have := HB6.out.size; omega))⟩ ?_
  rw [hgC]
  clear hgC hb7 hw7 hB7 HV6 HP6 HH6 HB6 w6 w7
  rintro w5 ⟨hC, hV, hP, hH, hb⟩
  have HC5 := Lib.hid hC
  have HV5 := Lib.hid hV
  have HP5 := Lib.hid hP
  have HH5 := Lib.hid hH
  have HB5 := Lib.hid hb
  have f0 : w5.cell? ⟨gd, 0, none⟩ = some (.int .u64 g.secret) := by rw [hV.d.cell]; rfl
  have f2 : w5.cell? ⟨gd, 2, none⟩ = some (.int .i64 g.next) := by rw [hV.d.cell]; rfl
  have f3 : w5.cell? ⟨gd, 3, none⟩ = some (.slice A n c) := by rw [hV.d.cell]; rfl
  have hgd : base ≤ gd := hV.hg
  have hxn : xs.length = n := hV.hn
  clear hC hV hP hH hb
  -- [[p3
  refine wp_flow (fun k => decide (k < 30)) (fun k => k == 25 || k == 26 || k == 29) 227 [0, 1, 2, 3, 4, 5, 6, 7, 8, 9, 10, 11, 12, 13, 14, 15, 16, 17, 18, 19, 20, 21, 22, 23, 24, 25, 26, 27, 28, 29] (fun w' => Below w5.heap.size w5 w') (fun k a v w' => (k = 25 → v = .int .u64 (keyI g.secret g.next)) ∧ (k = 26 → v = .int .u64 (sessI x (keyI g.secret g.next))) ∧ (k = 29 → ∃ gN, v = .slice (some ⟨gN, 0, none⟩) 1 1 ∧ RdX ntc 29 w' (some ⟨gN, 0, none⟩) [newN g f p x cA cc cB cd])) (by kernel_rfl) ?hflB ?hpuB ?hksB (fun _ _ _ _ _ h => h) rfl ?hst ?hC ?_
  case hflB => kernel_rfl
  case hpuB => kernel_rfl
  case hksB => kernel_rfl
  case hst => exact ⟨fun w0 w1 h1 hb => h1.trans (hb.mono h1.size), fun k a v w0 w1 hW hb => ⟨fun e => (fun hp => hp) (hW.1 e), fun e => (fun hp => hp) (hW.2.1 e), fun e => (fun hp => by obtain ⟨gN, e1, e2⟩ := hp; exact ⟨gN, e1, RdX.below e2 hb⟩) (hW.2.2 e)⟩, fun k a b v w0 _ h => h⟩
  case hC => exact (Below.refl _ _).drew
  refine fq 137 (.pointer (some ⟨gd, 0, none⟩)) (by kernel_rfl) (by kernel_rfl) (by kernel_rfl) (by kernel_rfl) (fun w => (by kernel_rfl)) ?_
  refine fq 138 (.pointer (some ⟨gd, 0, none⟩)) (by kernel_rfl) (by kernel_rfl) (by kernel_rfl) (by kernel_rfl) (fun w => (by kernel_rfl)) ?_
  refine fq 139 (.pointer (some ⟨gd, 0, none⟩)) (by kernel_rfl) (by kernel_rfl) (by kernel_rfl) (by kernel_rfl) (fun w => (by kernel_rfl)) ?_
  refine fq 140 (.pointer (some ⟨gd, 0, none⟩)) (by kernel_rfl) (by kernel_rfl) (by kernel_rfl) (by kernel_rfl) (fun w => (by kernel_rfl)) ?_
  refine fq 141 (.pointer (some ⟨gd, 3, none⟩)) (by kernel_rfl) (by kernel_rfl) (by kernel_rfl) (by kernel_rfl) (fun w => (by kernel_rfl)) ?_
  refine fq1 142 (.slice A n c) 24 (.tmp 141) gd 3 _ (by kernel_rfl) (by kernel_rfl) (by kernel_rfl) (by kernel_rfl) (by kernel_rfl) (by kernel_rfl) Tryz.underlying24 rfl (fun w hw => cell_on hw.1 HV5.out.d.lt f3) ?_
  refine fq 143 (.pointer (some ⟨gd, 0, none⟩)) (by kernel_rfl) (by kernel_rfl) (by kernel_rfl) (by kernel_rfl) (fun w => (by kernel_rfl)) ?_
  refine fq 144 (.pointer (some ⟨gd, 0, none⟩)) (by kernel_rfl) (by kernel_rfl) (by kernel_rfl) (by kernel_rfl) (fun w => (by kernel_rfl)) ?_
  refine fq 145 (.pointer (some ⟨gd, 0, none⟩)) (by kernel_rfl) (by kernel_rfl) (by kernel_rfl) (by kernel_rfl) (fun w => (by kernel_rfl)) ?_
  refine fq 146 (.pointer (some ⟨gd, 2, none⟩)) (by kernel_rfl) (by kernel_rfl) (by kernel_rfl) (by kernel_rfl) (fun w => (by kernel_rfl)) ?_
  refine fq1 147 (.int .i64 g.next) 3 (.tmp 146) gd 2 _ (by kernel_rfl) (by kernel_rfl) (by kernel_rfl) (by kernel_rfl) (by kernel_rfl) (by kernel_rfl) Tryz.underlying3 rfl (fun w hw => cell_on hw.1 HV5.out.d.lt f2) ?_
  refine fq 148 (.pointer (some ⟨q1, 2, none⟩)) (by kernel_rfl) (by kernel_rfl) (by kernel_rfl) (by kernel_rfl) (fun w => (by kernel_rfl)) ?_
  refine fq1 149 (.int .i64 f) 3 (.tmp 148) q1 2 _ (by kernel_rfl) (by kernel_rfl) (by kernel_rfl) (by kernel_rfl) (by kernel_rfl) (by kernel_rfl) Tryz.underlying3 rfl (fun w hw => cell_on hw.1 HH5.out.lt HH5.out.two2) ?_
  refine fq1 150 (.int .i64 p) 3 (.tmp 6) q 0 _ (by kernel_rfl) (by kernel_rfl) (by kernel_rfl) (by kernel_rfl) (by kernel_rfl) (by kernel_rfl) Tryz.underlying3 rfl (fun w hw => cell_on hw.1 HP5.out.lt HP5.out.one0) ?_
  refine fq 151 (.int .u64 (x : Nat)) (by kernel_rfl) (by kernel_rfl) (by kernel_rfl) (by kernel_rfl) (fun w => (by kernel_rfl)) ?_
  refine fq 152 (.pointer (some ⟨gd, 0, none⟩)) (by kernel_rfl) (by kernel_rfl) (by kernel_rfl) (by kernel_rfl) (fun w => (by kernel_rfl)) ?_
  refine fq 153 (.pointer (some ⟨gd, 0, none⟩)) (by kernel_rfl) (by kernel_rfl) (by kernel_rfl) (by kernel_rfl) (fun w => (by kernel_rfl)) ?_
  refine fq 154 (.pointer (some ⟨gd, 0, none⟩)) (by kernel_rfl) (by kernel_rfl) (by kernel_rfl) (by kernel_rfl) (fun w => (by kernel_rfl)) ?_
  refine fq 155 (.pointer (some ⟨gd, 0, none⟩)) (by kernel_rfl) (by kernel_rfl) (by kernel_rfl) (by kernel_rfl) (fun w => (by kernel_rfl)) ?_
  refine fq1 156 (.int .u64 g.secret) 23 (.tmp 155) gd 0 _ (by kernel_rfl) (by kernel_rfl) (by kernel_rfl) (by kernel_rfl) (by kernel_rfl) (by kernel_rfl) Tryz.underlying23 rfl (fun w hw => cell_on hw.1 HV5.out.d.lt f0) ?_
  refine fq 157 (.pointer (some ⟨gd, 0, none⟩)) (by kernel_rfl) (by kernel_rfl) (by kernel_rfl) (by kernel_rfl) (fun w => (by kernel_rfl)) ?_
  refine fq 158 (.pointer (some ⟨gd, 0, none⟩)) (by kernel_rfl) (by kernel_rfl) (by kernel_rfl) (by kernel_rfl) (fun w => (by kernel_rfl)) ?_
  refine fq 159 (.pointer (some ⟨gd, 0, none⟩)) (by kernel_rfl) (by kernel_rfl) (by kernel_rfl) (by kernel_rfl) (fun w => (by kernel_rfl)) ?_
  refine fq 160 (.pointer (some ⟨gd, 2, none⟩)) (by kernel_rfl) (by kernel_rfl) (by kernel_rfl) (by kernel_rfl) (fun w => (by kernel_rfl)) ?_
  refine fq1 161 (.int .i64 g.next) 3 (.tmp 160) gd 2 _ (by kernel_rfl) (by kernel_rfl) (by kernel_rfl) (by kernel_rfl) (by kernel_rfl) (by kernel_rfl) Tryz.underlying3 rfl (fun w hw => cell_on hw.1 HV5.out.d.lt f2) ?_
  refine fcall 162 55 #[.int .u64 g.secret, .int .i64 g.next] (by kernel_rfl) (by kernel_rfl) (by kernel_rfl) (by kernel_rfl) (fun w => (by kernel_rfl)) (fun w hw => (key_any g.secret g.next s0 s1 w).mono ?hx25_162) ?_
  case hx25_162 =>
    rintro e w' ⟨rfl, rfl⟩
    exact ⟨_, rfl, ⟨fun _ => rfl, fun e => absurd e (by decide), fun e => absurd e (by decide)⟩, hw.1, Below.refl _ _⟩
  rintro v ⟨w', hw', hW⟩
  obtain rfl := hW.1 rfl
  clear  hW hw' w'
  refine fcall 163 100 #[.int .u64 (x : Nat), .int .u64 (keyI g.secret g.next)] (by kernel_rfl) (by kernel_rfl) (by kernel_rfl) (by kernel_rfl) (fun w => (by kernel_rfl)) (fun w hw => (session_any x (keyI g.secret g.next) (by omega) (by omega) (keyI_range _ _).1 (keyI_range _ _).2 w).mono ?hx26_163) ?_
  case hx26_163 =>
    rintro e w' ⟨rfl, rfl⟩
    exact ⟨_, rfl, ⟨fun e => absurd e (by decide), fun _ => rfl, fun e => absurd e (by decide)⟩, hw.1, Below.refl _ _⟩
  rintro v ⟨w', hw', hW⟩
  obtain rfl := hW.2.1 rfl
  clear  hW hw' w'
  refine fqR 164 (bg0 false cA cc cB cd g.now 0 4) 43 (.tmp 18) gC 0 _ (by kernel_rfl) (by kernel_rfl) (by kernel_rfl) (by kernel_rfl) (by kernel_rfl) (by kernel_rfl) Tryz.underlying43 rfl (by kernel_rfl) (fun w hw => (HC5.out.carry hw.1).whole) ?_
  refine fq 165 (.agg (nta (newN g f p x cA cc cB cd))) (by kernel_rfl) (by kernel_rfl) (by kernel_rfl) (by kernel_rfl) (fun w => (by kernel_rfl)) ?_
  refine fnew 166 (fun w => .slice (some ⟨w.heap.size, 0, none⟩) 1 1) (fun w => w.alloc (.cells (nta (newN g f p x cA cc cB cd)) 53)) (by kernel_rfl) (by kernel_rfl) (by kernel_rfl) (by kernel_rfl) (fun w => (by kernel_rfl)) (fun w hw => ⟨⟨fun e => absurd e (by decide), fun e => absurd e (by decide), fun _ => ⟨w.heap.size, rfl, RdX.oneN _ _ (newN g f p x cA cc cB cd)⟩⟩, hw.1.alloc hw.1.size _, (Below.refl _ _).alloc (Nat.le_refl _) _⟩) ?_
  rintro v ⟨w', hw', hW⟩
  obtain ⟨gN, rfl, h4⟩ := hW.2.2 rfl
  clear h4 hW hw' w'
  refine fend [30, 31, 32, 33, 34] (by kernel_rfl) (by kernel_rfl) ?_
  -- [[p5
  intro w6 hw6 hF
  obtain ⟨gN2, e2, hRN⟩ := (hF _ List.mem_cons_self).2.2 rfl
  obtain rfl : gN = gN2 := by injection e2 with e2; simpa using e2
  clear hF e2
  have hV6 := HV5.out.carry hw6
  refine tapp 167 ntc 29 ntc_one (.tmp 142) (.tmp 166) _ (by kernel_rfl) (by kernel_rfl) (by kernel_rfl) base 53 _ 312 Tryz.underlying24 ntInfo (nta_size _) (by decide) (by decide) A n c xs (by kernel_rfl) hV6.hn hV6.nt (some ⟨gN, 0, none⟩) 1 1 [newN g f p x cA cc cB cd] (by kernel_rfl) rfl hRN (xs ++ [newN g f p x cA cc cB cd]) rfl (n + 1) rfl (by omega) (by have := HB5.out.size; have := hw6.size; omega) ?_
  intro A7 c7 w7 hO7 hc7 hm7 hb7 hg7 ha7
  have hD7 := hV6.d.grown hg7 hV6.gd_ne
  refine tval (some 168) (.pointer (some ⟨gd, 0, none⟩)) w7 (by kernel_rfl) (by kernel_rfl) (by kernel_rfl) ?_
  refine tval (some 169) (.pointer (some ⟨gd, 0, none⟩)) w7 (by kernel_rfl) (by kernel_rfl) (by kernel_rfl) ?_
  refine tval (some 170) (.pointer (some ⟨gd, 3, none⟩)) w7 (by kernel_rfl) (by kernel_rfl) (by kernel_rfl) ?_
  -- [[p6
  refine tstore1 (by kernel_rfl) (by kernel_rfl) 24 (.tmp 170) (.tmp 167) (by kernel_rfl) gd 3 (by kernel_rfl) (.slice A7 (n + 1) c7) (by kernel_rfl) rfl rfl 133 _ hD7 (by kernel_rfl) (by simp [dkc]) ?_
  intro w8 hB8 hw8
  have hV8 := hV6.note hO7 hg7 (hB8.as (by rfl)) hw8
  have hb8 := hw8.trans_below ((HB5.out.trans (hw6.mono (by have := HB5.out.size; omega))).trans hb7) hV6.hg
  have hP8 := ((HP5.out.carry hw6).grown hg7 (own_apartB hV6.nt (HP5.out.carry hw6) (by decide))).wr hw8 (Blk.ne ((HP5.out.carry hw6).grown hg7 (own_apartB hV6.nt (HP5.out.carry hw6) (by decide))) hD7 (by decide))
  have hH8 := ((HH5.out.carry hw6).grown hg7 (own_apartB hV6.nt (HH5.out.carry hw6) (by decide))).wr hw8 (Blk.ne ((HH5.out.carry hw6).grown hg7 (own_apartB hV6.nt (HH5.out.carry hw6) (by decide))) hD7 (by decide))
  refine tend ?_
  go_simp
  refine (show ∀ (a : Act) (w : World), Code.wp _ _ _ a w → _ from by assumption) _ _ ?_
  refine wp_world (fun w' => DkV w' base gd g A7 (n + 1) c7 (xs ++ [newN g f p x cA cc cB cd]) O m co ms ∧ Blk w' q 3 #[.int .i64 p] ∧ Blk w' q1 61 #[.int .i64 (0 : Nat), .int .i64 t, .int .i64 f, .slice T tn tc, .int .i64 (0 : Nat), .int .i64 (1 : Nat)] ∧ Below base w w') ⟨hV8, hP8, hH8, hb8⟩ ?_
  clear hV8 hP8 hH8 hb8 hw8 hB8 hD7 ha7 hg7 hb7 hm7 hc7 hO7 hRN hV6 HC5 HV5 HP5 HH5 HB5 f0 f2 f3 hw6
  rintro w9 ⟨hV9, hP9, hH9, hb9⟩
  obtain ⟨b2, o2, rfl, hcell⟩ := hV9.nt.rd.nt (by simp)
  have HV9 := Lib.hid hV9
  have HP9 := Lib.hid hP9
  have HH9 := Lib.hid hH9
  have HB9 := Lib.hid hb9
  have f3 : w9.cell? ⟨gd, 3, none⟩ = some (.slice (some ⟨b2, o2, none⟩) (n + 1) c7) := by rw [hV9.d.cell]; rfl
  clear hcell hV9 hP9 hH9 hb9
  -- [[p7
  go_upto_region 22 with (fail)
  refine wp_flow (fun k => decide (k < 13)) (fun k => false) 227 [0, 1, 2, 3, 4, 5, 6, 7, 8, 9, 10, 11, 12] (fun w' => Below w9.heap.size w9 w') (fun k a v w' => True) (by kernel_rfl) ?hflB ?hpuB ?hksB (fun _ _ _ _ _ h => h) rfl ?hst ?hC ?_
  case hflB => kernel_rfl
  case hpuB => kernel_rfl
  case hksB => kernel_rfl
  case hst => exact ⟨fun w0 w1 h1 hb => h1.trans (hb.mono h1.size), fun k a v w0 w1 hW hb => hW, fun k a b v w0 _ h => h⟩
  case hC => exact (Below.refl _ _).drew
  refine fq 171 (.pointer (some ⟨gd, 0, none⟩)) (by kernel_rfl) (by kernel_rfl) (by kernel_rfl) (by kernel_rfl) (fun w => (by kernel_rfl)) ?_
  refine fq 172 (.pointer (some ⟨gd, 0, none⟩)) (by kernel_rfl) (by kernel_rfl) (by kernel_rfl) (by kernel_rfl) (fun w => (by kernel_rfl)) ?_
  refine fq 173 (.pointer (some ⟨gd, 0, none⟩)) (by kernel_rfl) (by kernel_rfl) (by kernel_rfl) (by kernel_rfl) (fun w => (by kernel_rfl)) ?_
  refine fq 174 (.pointer (some ⟨gd, 3, none⟩)) (by kernel_rfl) (by kernel_rfl) (by kernel_rfl) (by kernel_rfl) (fun w => (by kernel_rfl)) ?_
  refine fq1 175 (.slice (some ⟨b2, o2, none⟩) (n + 1) c7) 24 (.tmp 174) gd 3 _ (by kernel_rfl) (by kernel_rfl) (by kernel_rfl) (by kernel_rfl) (by kernel_rfl) (by kernel_rfl) Tryz.underlying24 rfl (fun w hw => cell_on hw.1 HV9.out.d.lt f3) ?_
  refine fq 176 (.pointer (some ⟨gd, 0, none⟩)) (by kernel_rfl) (by kernel_rfl) (by kernel_rfl) (by kernel_rfl) (fun w => (by kernel_rfl)) ?_
  refine fq 177 (.pointer (some ⟨gd, 0, none⟩)) (by kernel_rfl) (by kernel_rfl) (by kernel_rfl) (by kernel_rfl) (fun w => (by kernel_rfl)) ?_
  refine fq 178 (.pointer (some ⟨gd, 0, none⟩)) (by kernel_rfl) (by kernel_rfl) (by kernel_rfl) (by kernel_rfl) (fun w => (by kernel_rfl)) ?_
  refine fq 179 (.pointer (some ⟨gd, 3, none⟩)) (by kernel_rfl) (by kernel_rfl) (by kernel_rfl) (by kernel_rfl) (fun w => (by kernel_rfl)) ?_
  refine fq1 180 (.slice (some ⟨b2, o2, none⟩) (n + 1) c7) 24 (.tmp 179) gd 3 _ (by kernel_rfl) (by kernel_rfl) (by kernel_rfl) (by kernel_rfl) (by kernel_rfl) (by kernel_rfl) Tryz.underlying24 rfl (fun w hw => cell_on hw.1 HV9.out.d.lt f3) ?_
  refine fq 181 (.int .i64 ((n + 1 : Nat) : Int)) (by kernel_rfl) (by kernel_rfl) (by kernel_rfl) (by kernel_rfl) (fun w => (by kernel_rfl)) ?_
  refine fqe 182 (.int .i64 (IntKind.i64.wrap (((n + 1 : Nat) : Int) - 1))) (.int .i64 (n : Nat)) (by rw [IntKind.wrap_i64]; congr 1; omega) (by kernel_rfl) (by kernel_rfl) (by kernel_rfl) (by kernel_rfl) (fun w => (by kernel_rfl)) ?_
  refine fidx 183 24 (.tmp 175) (.tmp 182) b2 o2 (n + 1) c7 .i64 (n : Nat) 29 (o2 + n * 29) (by kernel_rfl) (by kernel_rfl) (by kernel_rfl) (by kernel_rfl) (by kernel_rfl) (by kernel_rfl) (by kernel_rfl) Tryz.underlying24 (fun w => (by kernel_rfl)) (by omega) (by omega) (by simp) ?_
  refine fend [13] (by kernel_rfl) (by kernel_rfl) ?_
  intro w10 hw10 _
  refine tval (some 16) (.pointer (some ⟨b2, o2 + n * 29, none⟩)) w10 (by kernel_rfl) (by kernel_rfl) (by kernel_rfl) ?_
  refine tend ?_
  go_simp
  refine (show ∀ (a : Act) (w : World), Code.wp _ _ _ a w → _ from by assumption) _ _ ?_
  refine wp_world (fun w' => Below w9.heap.size w9 w') hw10 ?_
  clear hw10 f3
  rintro w10 hw10
  have HV10 := Lib.hid (HV9.out.carry hw10)
  have HP10 := Lib.hid (HP9.out.carry hw10)
  have HH10 := Lib.hid (HH9.out.carry hw10)
  have HB10 := Lib.hid (HB9.out.trans (hw10.mono (by have := HB9.out.size; omega)))
  have f2 : w10.cell? ⟨gd, 2, none⟩ = some (.int .i64 g.next) := by rw [HV10.out.d.cell]; rfl
  have z2 := HV10.out.d.zs 2
  have hgl10 := HV10.out.d.lt
  have hwr : IntKind.i64.wrap (g.next + 1) = g.next + 1 := by have := HNX.out; rw [IntKind.wrap_i64]; omega
  clear hw10 HV9 HP9 HH9 HB9
  go_upto_region 24 with (fail)
  refine wp_world (fun w' => DkV w' base gd g.up (some ⟨b2, o2, none⟩) (n + 1) c7 (xs ++ [newN g f p x cA cc cB cd]) O m co ms ∧ Blk w' q 3 #[.int .i64 p] ∧ Blk w' q1 61 #[.int .i64 (0 : Nat), .int .i64 t, .int .i64 f, .slice T tn tc, .int .i64 (0 : Nat), .int .i64 (1 : Nat)] ∧ Below base w w')
    ⟨HV10.out.wr ((HV10.out.d.set_ 2 _).as (by rfl)) (Wr.set _ gd 2 _), HP10.out.wr (Wr.set _ gd 2 _) (Blk.ne HP10.out HV10.out.d (by decide)), HH10.out.wr (Wr.set _ gd 2 _) (Blk.ne HH10.out HV10.out.d (by decide)), (Wr.set _ gd 2 _).trans_below HB10.out hgd⟩ ?_
  clear HV10 HP10 HH10 HB10 f2 z2 hgl10 hwr
  rintro w11 ⟨hV11, hP11, hH11, hb11⟩
  have HV11 := Lib.hid hV11
  have HP11 := Lib.hid hP11
  have HH11 := Lib.hid hH11
  have HB11 := Lib.hid hb11
  have f0 : w11.cell? ⟨gd, 0, none⟩ = some (.int .u64 g.secret) := by rw [hV11.d.cell]; rfl
  have HID := Lib.hid (show ∀ W, Below w11.heap.size w11 W → W.cell? ⟨b2, o2 + n * 29, none⟩ = some (.int .i64 nx) from fun W hW => by
    obtain ⟨b3, o3, e3, hcell⟩ := (HV11.out.carry hW).nt.rd.nt (by simp)
    obtain ⟨rfl, rfl⟩ : b2 = b3 ∧ o2 = o3 := by injection e3 with e3; simpa using e3
    have := hcell n (by simp [hxn]) 0 (.int .i64 g.next) (by rw [getD_end _ _ _ _ hxn]; exact nta_id _)
    rw [HNX.out] at this
    exact this)
  clear hV11 hP11 hH11 hb11
  -- [[p4
  refine wp_flow (fun k => decide (k < 27)) (fun k => k == 2 || k == 19 || k == 20 || k == 22 || k == 23) 227 [0, 1, 2, 3, 4, 5, 6, 7, 8, 9, 10, 11, 12, 13, 14, 15, 16, 17, 18, 19, 20, 21, 22, 23, 24, 25, 26] (fun w' => Below w11.heap.size w11 w') (fun k a v w' => (k = 2 → v = .int .u64 (keyI 1 f)) ∧ (k = 19 → v = .int .u64 (keyI g.secret nx)) ∧ (k = 20 → ∃ gE, v = .slice (some ⟨gE, 0, none⟩) 8 8 ∧ RdB w' (some ⟨gE, 0, none⟩) (beB 8 (keyI g.secret nx).toNat)) ∧ (k = 22 → ∃ gF gE, v = .slice (some ⟨gF, 0, none⟩) 1 1 ∧ RdX fmc 7 w' (some ⟨gF, 0, none⟩) [hfm (keyI g.secret nx).toNat (some ⟨gE, 0, none⟩) 8] ∧ RdB w' (some ⟨gE, 0, none⟩) (beB 8 (keyI g.secret nx).toNat)) ∧ (k = 23 → ∃ D dc, v = .tuple #[.slice D 24 dc, .int .i64 0] ∧ OwnX u8c 1 w' 0 5 D dc (greetB (keyI 1 f) f nx [] (keyI g.secret nx).toNat))) (by kernel_rfl) ?hflB ?hpuB ?hksB (fun _ _ _ _ _ h => h) rfl ?hst ?hC ?_
  case hflB => kernel_rfl
  case hpuB => kernel_rfl
  case hksB => kernel_rfl
  case hst => exact ⟨fun w0 w1 h1 hb => h1.trans (hb.mono h1.size), fun k a v w0 w1 hW hb => ⟨fun e => (fun hp => hp) (hW.1 e), fun e => (fun hp => hp) (hW.2.1 e), fun e => (fun hp => by obtain ⟨gE, e1, e2⟩ := hp; exact ⟨gE, e1, e2.below hb⟩) (hW.2.2.1 e), fun e => (fun hp => by obtain ⟨gF, gE, e1, e2, e3⟩ := hp; exact ⟨gF, gE, e1, RdX.below e2 hb, e3.below hb⟩) (hW.2.2.2.1 e), fun e => (fun hp => by obtain ⟨D, dc, e1, e2⟩ := hp; exact ⟨D, dc, e1, e2.carry hb⟩) (hW.2.2.2.2 e)⟩, fun k a b v w0 _ h => h⟩
  case hC => exact (Below.refl _ _).drew
  refine fq 194 (.pointer (some ⟨q1, 2, none⟩)) (by kernel_rfl) (by kernel_rfl) (by kernel_rfl) (by kernel_rfl) (fun w => (by kernel_rfl)) ?_
  refine fq1 195 (.int .i64 f) 3 (.tmp 194) q1 2 _ (by kernel_rfl) (by kernel_rfl) (by kernel_rfl) (by kernel_rfl) (by kernel_rfl) (by kernel_rfl) Tryz.underlying3 rfl (fun w hw => cell_on hw.1 HH11.out.lt HH11.out.two2) ?_
  refine fcall 196 24 #[.int .i64 f] (by kernel_rfl) (by kernel_rfl) (by kernel_rfl) (by kernel_rfl) (fun w => (by kernel_rfl)) (fun w hw => (first_any f w).mono ?hx2_196) ?_
  case hx2_196 =>
    rintro e w' ⟨rfl, rfl⟩
    exact ⟨_, rfl, ⟨fun _ => rfl, fun e => absurd e (by decide), fun e => absurd e (by decide), fun e => absurd e (by decide), fun e => absurd e (by decide)⟩, hw.1, Below.refl _ _⟩
  rintro v ⟨w', hw', hW⟩
  obtain rfl := hW.1 rfl
  clear  hW hw' w'
  refine fq 197 (.pointer (some ⟨q1, 2, none⟩)) (by kernel_rfl) (by kernel_rfl) (by kernel_rfl) (by kernel_rfl) (fun w => (by kernel_rfl)) ?_
  refine fq1 198 (.int .i64 f) 3 (.tmp 197) q1 2 _ (by kernel_rfl) (by kernel_rfl) (by kernel_rfl) (by kernel_rfl) (by kernel_rfl) (by kernel_rfl) Tryz.underlying3 rfl (fun w hw => cell_on hw.1 HH11.out.lt HH11.out.two2) ?_
  refine fq 199 (.pointer (some ⟨b2, o2 + n * 29, none⟩)) (by kernel_rfl) (by kernel_rfl) (by kernel_rfl) (by kernel_rfl) (fun w => (by kernel_rfl)) ?_
  refine fq 200 (.pointer (some ⟨b2, o2 + n * 29, none⟩)) (by kernel_rfl) (by kernel_rfl) (by kernel_rfl) (by kernel_rfl) (fun w => (by kernel_rfl)) ?_
  refine fq 201 (.pointer (some ⟨b2, o2 + n * 29, none⟩)) (by kernel_rfl) (by kernel_rfl) (by kernel_rfl) (by kernel_rfl) (fun w => (by kernel_rfl)) ?_
  refine fq1 202 (.int .i64 nx) 3 (.tmp 201) b2 (o2 + n * 29) _ (by kernel_rfl) (by kernel_rfl) (by kernel_rfl) (by kernel_rfl) (by kernel_rfl) (by kernel_rfl) Tryz.underlying3 rfl (fun w hw => HID.out w hw.1) ?_
  refine fq 203 (.agg #[.int .i64 (0 : Nat), .int .i64 f, .int .i64 nx, .slice none 0 0, .int .i64 0, .int .i64 0]) (by kernel_rfl) (by kernel_rfl) (by kernel_rfl) (by kernel_rfl) (fun w => (by kernel_rfl)) ?_
  refine fq 204 (.pointer (some ⟨gd, 0, none⟩)) (by kernel_rfl) (by kernel_rfl) (by kernel_rfl) (by kernel_rfl) (fun w => (by kernel_rfl)) ?_
  refine fq 205 (.pointer (some ⟨gd, 0, none⟩)) (by kernel_rfl) (by kernel_rfl) (by kernel_rfl) (by kernel_rfl) (fun w => (by kernel_rfl)) ?_
  refine fq 206 (.pointer (some ⟨gd, 0, none⟩)) (by kernel_rfl) (by kernel_rfl) (by kernel_rfl) (by kernel_rfl) (fun w => (by kernel_rfl)) ?_
  refine fq 207 (.pointer (some ⟨gd, 0, none⟩)) (by kernel_rfl) (by kernel_rfl) (by kernel_rfl) (by kernel_rfl) (fun w => (by kernel_rfl)) ?_
  refine fq1 208 (.int .u64 g.secret) 23 (.tmp 207) gd 0 _ (by kernel_rfl) (by kernel_rfl) (by kernel_rfl) (by kernel_rfl) (by kernel_rfl) (by kernel_rfl) Tryz.underlying23 rfl (fun w hw => cell_on hw.1 HV11.out.d.lt f0) ?_
  refine fq 209 (.pointer (some ⟨b2, o2 + n * 29, none⟩)) (by kernel_rfl) (by kernel_rfl) (by kernel_rfl) (by kernel_rfl) (fun w => (by kernel_rfl)) ?_
  refine fq 210 (.pointer (some ⟨b2, o2 + n * 29, none⟩)) (by kernel_rfl) (by kernel_rfl) (by kernel_rfl) (by kernel_rfl) (fun w => (by kernel_rfl)) ?_
  refine fq 211 (.pointer (some ⟨b2, o2 + n * 29, none⟩)) (by kernel_rfl) (by kernel_rfl) (by kernel_rfl) (by kernel_rfl) (fun w => (by kernel_rfl)) ?_
  refine fq1 212 (.int .i64 nx) 3 (.tmp 211) b2 (o2 + n * 29) _ (by kernel_rfl) (by kernel_rfl) (by kernel_rfl) (by kernel_rfl) (by kernel_rfl) (by kernel_rfl) Tryz.underlying3 rfl (fun w hw => HID.out w hw.1) ?_
  refine fcall 213 55 #[.int .u64 g.secret, .int .i64 nx] (by kernel_rfl) (by kernel_rfl) (by kernel_rfl) (by kernel_rfl) (fun w => (by kernel_rfl)) (fun w hw => (key_any g.secret nx s0 s1 w).mono ?hx19_213) ?_
  case hx19_213 =>
    rintro e w' ⟨rfl, rfl⟩
    exact ⟨_, rfl, ⟨fun e => absurd e (by decide), fun _ => rfl, fun e => absurd e (by decide), fun e => absurd e (by decide), fun e => absurd e (by decide)⟩, hw.1, Below.refl _ _⟩
  rintro v ⟨w', hw', hW⟩
  obtain rfl := hW.2.1 rfl
  clear  hW hw' w'
  refine fcall 214 101 #[.int .u64 (keyI g.secret nx)] (by kernel_rfl) (by kernel_rfl) (by kernel_rfl) (by kernel_rfl) (fun w => (by kernel_rfl)) (fun w hw => (gEight_any (keyI g.secret nx) (keyI_range _ _).1 (keyI_range _ _).2 w).mono ?hx20_214) ?_
  case hx20_214 =>
    rintro e w' ⟨rfl, hE, hb⟩
    exact ⟨_, rfl, ⟨fun e => absurd e (by decide), fun e => absurd e (by decide), fun _ => ⟨w.heap.size, rfl, RdB.blk hE⟩, fun e => absurd e (by decide), fun e => absurd e (by decide)⟩, hw.1.trans (hb.mono hw.1.size), hb⟩
  rintro v ⟨w', hw', hW⟩
  obtain ⟨gE, rfl, h4⟩ := hW.2.2.1 rfl
  clear h4 hW hw' w'
  refine fq 215 (.agg (hfc (some ⟨gE, 0, none⟩) 8)) (by kernel_rfl) (by kernel_rfl) (by kernel_rfl) (by kernel_rfl) (fun w => (by kernel_rfl)) ?_
  refine fnew 216 (fun w => .slice (some ⟨w.heap.size, 0, none⟩) 1 1) (fun w => w.alloc (.cells (hfc (some ⟨gE, 0, none⟩) 8) 68)) (by kernel_rfl) (by kernel_rfl) (by kernel_rfl) (by kernel_rfl) (fun w => (by kernel_rfl)) (fun w hw => ⟨⟨fun e => absurd e (by decide), fun e => absurd e (by decide), fun e => absurd e (by decide), fun _ => ⟨w.heap.size, gE, rfl, RdX.oneF _ _ _ _ _, (by obtain ⟨gE2, e1, e2⟩ := (hw.2 _ List.mem_cons_self (by kernel_rfl)).2.2.1 rfl; obtain rfl : gE = gE2 := (by injection e1 with e1; simpa using e1); exact e2.below ((Below.refl _ _).alloc (Nat.le_refl _) _))⟩, fun e => absurd e (by decide)⟩, hw.1.alloc hw.1.size _, (Below.refl _ _).alloc (Nat.le_refl _) _⟩) ?_
  rintro v ⟨w', hw', hW⟩
  obtain ⟨gF, gE2, rfl, h4, h5⟩ := hW.2.2.2.1 rfl
  clear h4 h5 hW hw' w'
  refine fcall 217 23 #[.int .u64 (keyI 1 f), .agg #[.int .i64 (0 : Nat), .int .i64 f, .int .i64 nx, .slice none 0 0, .int .i64 0, .int .i64 0], .int .i64 (0 : Nat), .int .i64 (-1), .slice (some ⟨gF, 0, none⟩) 1 1] (by kernel_rfl) (by kernel_rfl) (by kernel_rfl) (by kernel_rfl) (fun w => (by kernel_rfl)) (fun w hw => ?hx23_217) ?_
  case hx23_217 =>
    obtain ⟨gF2, gE2, e1, e2, e3⟩ := (hw.2 _ List.mem_cons_self (by kernel_rfl)).2.2.2.1 rfl
    obtain rfl : gF = gF2 := by injection e1 with e1; simpa using e1
    refine (greet_any (keyI 1 f) (keyI_range _ _).1 (keyI_range _ _).2 f nx hf hnx5 none 0 0 [] rfl (by decide) (keyI g.secret nx).toNat (some ⟨gE2, 0, none⟩) 8 (by decide) (by decide) (some ⟨gF, 0, none⟩) w Rd.nil e2 e3).mono ?_
    rintro e w' ⟨D, dc, rfl, hD, hb⟩
    exact ⟨_, rfl, ⟨fun e => absurd e (by decide), fun e => absurd e (by decide), fun e => absurd e (by decide), fun e => absurd e (by decide), fun _ => ⟨D, dc, rfl, hD.mono (Nat.zero_le _)⟩⟩, hw.1.trans (hb.mono hw.1.size), hb⟩
  rintro v ⟨w', hw', hW⟩
  obtain ⟨D, dc, rfl, h4⟩ := hW.2.2.2.2 rfl
  clear h4 hW hw' w'
  refine fq 193 (.tuple #[.slice D 24 dc, .int .i64 0]) (by kernel_rfl) (by kernel_rfl) (by kernel_rfl) (by kernel_rfl) (fun w => (by kernel_rfl)) ?_
  refine fq 218 (.slice D 24 dc) (by kernel_rfl) (by kernel_rfl) (by kernel_rfl) (by kernel_rfl) (fun w => (by kernel_rfl)) ?_
  refine fq 219 (.int .i64 0) (by kernel_rfl) (by kernel_rfl) (by kernel_rfl) (by kernel_rfl) (fun w => (by kernel_rfl)) ?_
  refine fend [27, 28] (by kernel_rfl) (by kernel_rfl) ?_
  intro w12 hw12 hF
  obtain ⟨D2, dc2, e2, hOD⟩ := (hF _ List.mem_cons_self).2.2.2.2 rfl
  obtain ⟨rfl, rfl⟩ : D = D2 ∧ dc = dc2 := by injection e2 with e2; simpa using e2
  clear hF e2
  refine tval (some 20) (.slice D 24 dc) w12 (by kernel_rfl) (by kernel_rfl) (by kernel_rfl) ?_
  refine tval (some 13) (.int .i64 0) w12 (by kernel_rfl) (by kernel_rfl) (by kernel_rfl) ?_
  refine tend ?_
  go_simp
  refine (show ∀ (a : Act) (w : World), Code.wp _ _ _ a w → _ from by assumption) _ _ ?_
  refine wp_world (fun w' => OwnX u8c 1 w' 0 5 D dc (greetB (keyI 1 f) f nx [] (keyI g.secret nx).toNat) ∧ Below w11.heap.size w11 w') ⟨hOD, hw12⟩ ?_
  clear hOD hw12 HID f0
  rintro w13 ⟨hOD, hw13⟩
  have HV13 := Lib.hid (HV11.out.carry hw13)
  have f6 : w13.cell? ⟨q, 0, none⟩ = some (.int .i64 p) := (HP11.out.carry hw13).one0
  have hql : q < w13.heap.size := (HP11.out.carry hw13).lt
  have HB13 := Lib.hid (HB11.out.trans (hw13.mono (by have := HB11.out.size; omega)))
  have HOD := Lib.hid hOD
  have hGL : (greetB (keyI 1 f) f nx [] (keyI g.secret nx).toNat).length = 24 := greetB_len _ _ _ [] _ (by decide)
  have HGL := Lib.hid hGL
  clear hOD hw13 HV11 HP11 HH11 HB11 hGL
  go_wp2_with fail
  refine (send_yes p hp D 24 dc (greetB (keyI 1 f) f nx [] (keyI g.secret nx).toNat) HGL.out (by decide) base gd g.up (some ⟨b2, o2, none⟩) (n + 1) c7 (xs ++ [newN g f p x cA cc cB cd]) O m co hm10 ms HOK.out h1 h3 h5 w13 HV13.out HOD.out (by have := HB13.out.size; omega)).mono ?_
  rintro e w14 ⟨rfl, ⟨O', co', hV14⟩, hb14⟩
  go_wp2_with fail
  go_ret
  exact ⟨rfl, ⟨_, _, O', co', D, dc, cA, cc, cB, cd, hcc, hcd, hV14⟩, HB13.out.trans hb14⟩
  -- ]]p4
  -- ]]p7
  -- ]]p6
  -- ]]p5
  -- ]]p3
  -- ]]p2
  -- ]]p1
end Go.Proofs.YtbcagdjfegobnaaGreat
/- Gates whose connections have just begun: the contract of desk.first where a token is asked for. -/
namespace Go.Proofs.YtbcagdjfegobnaaGreat
open Go.ChangeShapes Go.WideShapes Go.ChangeAt Go.RowKit
set_option linter.unusedVariables false

def tl3 (t : Tly) : Array Value := #[.bool t.1, .int .i64 t.2.1, .int .i64 t.2.2]
theorem tl3_one (t : Tly) : ∀ u ∈ (tl3 t).toList, u.oneCell' = true := by
  intro u hu
  simp only [tl3, List.mem_cons, List.not_mem_nil, or_false] at hu
  rcases hu with rfl | rfl | rfl <;> rfl
theorem tly_part (g : GtD) (A : Option Addr) (n c : Nat) (O : Option Addr) (m co : Nat) (p : Nat) (hp : p < 4) : ∀ j v, (tl3 (g.t p))[j]? = some v → (dkc g A n c O m co)[4 + p * 3 + j]? = some v := by
  intro j v hv
  have hj : j < 3 := (Array.getElem?_eq_some_iff.1 hv).1
  rcases (show p = 0 ∨ p = 1 ∨ p = 2 ∨ p = 3 by omega) with rfl | rfl | rfl | rfl <;> rcases (show j = 0 ∨ j = 1 ∨ j = 2 by omega) with rfl | rfl | rfl <;> exact hv
theorem tly_at {w : World} {gd : Nat} {g : GtD} {A : Option Addr} {n c : Nat} {O : Option Addr} {m co : Nat} (h : Blk w gd 133 (dkc g A n c O m co)) (p : Nat) (hp : p < 4) : ∀ j v, (tl3 (g.t p))[j]? = some v → w.cell? ⟨gd, 4 + p * 3 + j, none⟩ = some v :=
  h.part (4 + p * 3) (tl3 (g.t p)) (tly_part g A n c O m co p hp)
theorem tly_put (g : GtD) (A : Option Addr) (n c : Nat) (O : Option Addr) (m co : Nat) (p : Nat) (hp : p < 4) (v : Tly) :
    ((dkc g A n c O m co).toList.take (4 + p * 3) ++ (tl3 v).toList ++ (dkc g A n c O m co).toList.drop (4 + p * 3 + (tl3 v).size)).toArray = dkc (g.set p v) A n c O m co := by
  rcases (show p = 0 ∨ p = 1 ∨ p = 2 ∨ p = 3 by omega) with rfl | rfl | rfl | rfl <;> simp [dkc, tl3, GtD.set, upd]




end Go.Proofs.YtbcagdjfegobnaaGreat
/- Gates whose connections have just begun: the contract of desk.flush: nothing is told. -/
namespace Go.Proofs.YtbcagdjfegobnaaGreat
open Go.ChangeShapes Go.WideShapes Go.ChangeAt Go.RowKit
set_option linter.unusedVariables false

section
variable {P : Program} {ops : Array Oper} {o : Oper} {a : Act} {w : World} {K : Act → World → Prop} {Q : Exit → Act → World → Prop} {E' : Prop}
end

set_option maxRecDepth 100000 in
set_option maxHeartbeats 4000000 in
theorem flush_beg (base gd : Nat) (g : GtD) (A : Option Addr) (n c : Nat) (xs : List NtB) (O : Option Addr) (m co : Nat) (ms : List MlB) (w : World) (h : DkV w base gd g A n c xs O m co ms) (hbase : base ≤ w.heap.size) (hn3 : n ≤ 3) (hr : ∀ x ∈ xs, BgR x.cs x.last) (n0 : 0 ≤ g.now) (n1 : g.now ≤ 1099511627776) :
    Calls Tryz.prog 62 #[.pointer (some ⟨gd, 0, none⟩)] w fun e w' => e = .returned (.tuple #[]) ∧ (∃ A' c', DkV w' base gd g A' n c' xs O m co ms) ∧ Below base w w' := by
  have HV := Lib.hid h
  have HR := Lib.hid hr
  have hgd := h.hg
  have hgl := h.d.lt
  have f3 : w.cell? ⟨gd, 3, none⟩ = some (.slice A n c) := by rw [h.d.cell]; rfl
  have hnc := h.nt.cap
  rw [h.hn] at hnc
  obtain ⟨hnc1, hnc2⟩ := hnc
  clear h hr
  go_enter Tryz.func62, Tryz.ntmps62
  go_wp2_with fail
  go_loopw [2, 16] (fun s2 s16 wr => ∃ (k : Nat) (D : Option Addr) (cd : Nat), k ≤ n ∧ s16 = .int .i64 k ∧ s2 = .slice D k cd ∧ OwnX ntc 29 wr w.heap.size 53 D cd (xs.take k) ∧ Below w.heap.size w wr) (fun _ s16 _ => n - (intOf s16).toNat)
  case atStart => exact ⟨0, none, 0, Nat.zero_le _, rfl, rfl, OwnX.nil _ _ _, Below.refl _ _⟩
  case round =>
    obtain ⟨k, D, cd, hk, rfl, rfl, hO, hbr⟩ := hrel
    have HO := Lib.hid hO
    have HBR := Lib.hid hbr
    have hwr := hbr.size
    clear hO
    by_cases hlt : k < n
    -- [[round1
    · have hkx : k < xs.length := by rw [HV.out.hn]; exact hlt
      have hmem : xs.getD k ntn ∈ xs := by simp [List.getD, hkx]
      have hbg := HR.out _ hmem
      have hTL : (xs.take k).length = k := by rw [List.length_take]; omega
      have HTL := Lib.hid hTL
      obtain ⟨b, off, rfl, hcell⟩ := (RdX.below HV.out.nt.rd hbr).nt (by omega)
      have hc := hcell k hkx
      have HTK := Lib.hid (takeD xs k ntn hkx)
      generalize xs.getD k ntn = x at *
      have HC := Lib.hid hc
      have HBG := Lib.hid hbg
      have hkn : (k : Int) < (n : Int) := by omega
      clear hcell hc hkx hbr f3 hmem hbg hTL
      go_upto_region 4 with (first
        | refine wpList_loadR rfl 53 (.tmp 18) rfl b (off + k * 29) rfl (nta x) _ Tryz.underlying53 rfl (by rw [nta_size]; kernel_rfl) HC.out ?_
        | (refine wpList_storeP rfl 53 (.tmp 4) (.tmp 19) rfl wr.heap.size 0 rfl (nta x) rfl 53 _ (Blk.new _ _ _) (by rw [nta_size]; kernel_rfl) (by rw [nta_size]; decide) (nta_one x) _ (splice_all _ _ (by rw [nta_size]; rfl)) ?_
           intro w2 hN hw2
           have hO2 := Lib.hid ((HO.out.alloc _).wr hw2 (fun a ha => by have := (HO.out.lt (n := k) a.block (by rw [slice_own, ha]; rfl)).2; omega))
           have hb2 := Lib.hid (hw2.trans_below (HBR.out.alloc hwr _) hwr)))
      obtain ⟨q, hq⟩ : ∃ q, wr.heap.size = q := ⟨_, rfl⟩
      rw [hq] at hN ⊢
      have hqw : w.heap.size ≤ q := by omega
      have hqs : q < w2.heap.size := hN.lt
      clear hw2 hq HC HO HBR hwr
      go_wp2_with fail
      refine wp_loop_rounds 1 ?_
      rw [rounds_succ]
      go_upto_region 6 with (fail)
      have HN := Lib.hid hN
      have f1 : w2.cell? ⟨gd, 1, none⟩ = some (.int .i64 g.now) := by rw [(HV.out.d.carry hb2.out).cell]; rfl
      clear hN
      go_cut [5, 6, 7, 8] (fun s5 s6 s7 s8 wx => s6 = .int .i64 0 ∧ s7 = .slice none 0 0 ∧ s8 = .int .i64 0 ∧ Below w2.heap.size w2 wx)
      case first =>
        -- [[fst
        refine wp_flow (fun k => decide (k < 14)) (fun k => k == 7 || k == 13) 90 [0, 1, 2, 3, 4, 5, 6, 7, 8, 9, 10, 11, 12, 13] (fun w' => Below w2.heap.size w2 w')
          (fun k a v w' => (k = 7 → ∃ cs, v = .tuple #[.agg cs, .int .i64 0, .slice none 0 0, .int .i64 0] ∧ BgR cs x.last) ∧ (k = 13 → ∃ g, v = .pointer (some ⟨g, 0, none⟩) ∧ w2.heap.size ≤ g ∧ ∃ z, z.size = 24 ∧ Blk w' g 43 z))
          (by kernel_rfl) ?hflB ?hpuB ?hksB (fun _ _ _ _ _ h => h) rfl ?hst ?hC ?hfl
        case hflB => kernel_rfl
        case hpuB => kernel_rfl
        case hksB => kernel_rfl
        case hst => exact ⟨fun w0 w1 h1 hb => h1.trans (hb.mono h1.size), fun k a v w0 w1 hW hb => ⟨hW.1, fun e => by obtain ⟨g1, e1, hg1, z, hz, hB⟩ := hW.2 e; exact ⟨g1, e1, hg1, z, hz, hB.carry hb⟩⟩, fun k a b v w0 _ h => h⟩
        case hC => exact (Below.refl _ _).drew
        case hfl =>
          refine fq 23 (.pointer (some ⟨q, 5, none⟩)) (by kernel_rfl) (by kernel_rfl) (by kernel_rfl) (by kernel_rfl) (fun w => by kernel_rfl) ?_
          refine fqR 24 x.cs 43 (.tmp 23) q 5 _ (by kernel_rfl) (by kernel_rfl) (by kernel_rfl) (by kernel_rfl) (by kernel_rfl) (by kernel_rfl) Tryz.underlying43 rfl (by rw [x.sz]; kernel_rfl) (fun w hw => (HN.out.carry hw.1).ntcs) ?_
          refine fq 25 (.pointer (some ⟨gd, 0, none⟩)) (by kernel_rfl) (by kernel_rfl) (by kernel_rfl) (by kernel_rfl) (fun w => by kernel_rfl) ?_
          refine fq 26 (.pointer (some ⟨gd, 0, none⟩)) (by kernel_rfl) (by kernel_rfl) (by kernel_rfl) (by kernel_rfl) (fun w => by kernel_rfl) ?_
          refine fq 27 (.pointer (some ⟨gd, 0, none⟩)) (by kernel_rfl) (by kernel_rfl) (by kernel_rfl) (by kernel_rfl) (fun w => by kernel_rfl) ?_
          refine fq 28 (.pointer (some ⟨gd, 1, none⟩)) (by kernel_rfl) (by kernel_rfl) (by kernel_rfl) (by kernel_rfl) (fun w => by kernel_rfl) ?_
          refine fq1 29 (.int .i64 g.now) 3 (.tmp 28) gd 1 (.int .i64) (by kernel_rfl) (by kernel_rfl) (by kernel_rfl) (by kernel_rfl) (by kernel_rfl) (by kernel_rfl) (by kernel_rfl) rfl (fun w hw => cell_on hw.1 (by have := hb2.out.size; omega) f1) ?_
          refine fcall 30 104 #[.agg x.cs, .int .i64 g.now] (by kernel_rfl) (by kernel_rfl) (by kernel_rfl) (by kernel_rfl) (fun w => by kernel_rfl) (fun w hw => (HBG.out.flush g.now n0 n1 w).mono ?hx1) ?_
          case hx1 =>
            rintro e w' ⟨cs, rfl, hcs, hb⟩
            exact ⟨_, rfl, ⟨fun _ => ⟨cs, rfl, hcs⟩, fun e => absurd e (by decide)⟩, hw.1.trans (hb.mono hw.1.size), hb⟩
          rintro v ⟨w', hw', hW⟩
          obtain ⟨cs, rfl, hcs⟩ := hW.1 rfl
          clear hW hw' w'
          refine fq 22 (.tuple #[.agg cs, .int .i64 0, .slice none 0 0, .int .i64 0]) (by kernel_rfl) (by kernel_rfl) (by kernel_rfl) (by kernel_rfl) (fun w => by kernel_rfl) ?_
          refine fq 31 (.agg cs) (by kernel_rfl) (by kernel_rfl) (by kernel_rfl) (by kernel_rfl) (fun w => by kernel_rfl) ?_
          refine fq 32 (.int .i64 0) (by kernel_rfl) (by kernel_rfl) (by kernel_rfl) (by kernel_rfl) (fun w => by kernel_rfl) ?_
          refine fq 33 (.slice none 0 0) (by kernel_rfl) (by kernel_rfl) (by kernel_rfl) (by kernel_rfl) (fun w => by kernel_rfl) ?_
          refine fq 34 (.int .i64 0) (by kernel_rfl) (by kernel_rfl) (by kernel_rfl) (by kernel_rfl) (fun w => by kernel_rfl) ?_
          refine fnew 5 (fun w => .pointer (some ⟨w.heap.size, 0, none⟩)) (fun w => w.alloc (.cells #[.bool false, .int .i64 0, .slice none 0 0, .int .i64 0, .slice none 0 0, .slice none 0 0, .int .i64 0, .int .i64 0, .int .i64 0, .int .i64 0, .int .i64 0, .int .i64 0, .int .i64 0, .int .i64 0, .int .i64 0, .int .i64 0, .int .i64 0, .slice none 0 0, .bool false, .slice none 0 0, .int .i64 0, .int .i64 0, .bool false, .int .i64 0] 43)) (by kernel_rfl) (by kernel_rfl) (by kernel_rfl) (by kernel_rfl) (fun w => by kernel_rfl) (fun w hw => ⟨⟨fun e => absurd e (by decide), fun _ => ⟨w.heap.size, rfl, hw.1.size, _, rfl, Blk.new _ _ _⟩⟩, hw.1.alloc hw.1.size _, (Below.refl _ _).alloc (Nat.le_refl _) _⟩) ?_
          rintro v ⟨w', hw', hW⟩
          obtain ⟨g1, rfl, hg1, h4⟩ := hW.2 rfl
          clear h4 hW hw' w'
          refine fend [14, 15, 16, 17] (by kernel_rfl) (by kernel_rfl) ?_
          intro w6 hw6 hF
          have h13 := hF _ List.mem_cons_self
          obtain ⟨g2, e2, hg2, z, hz, hZ⟩ := h13.2 rfl
          obtain rfl : g1 = g2 := by injection e2 with e2; injection e2 with e2; injection e2
          clear h13 hF e2
          refine tstoreP (by kernel_rfl) (by kernel_rfl) 43 (.tmp 5) (.tmp 31) (by kernel_rfl) g1 0 (by kernel_rfl) cs (by kernel_rfl) 43 z hZ (by rw [hcs.size]; kernel_rfl) (by rw [hcs.size, hz]; decide) hcs.one _ (splice_all _ _ (by rw [hz, hcs.size])) ?_
          intro w7 hB7 hw7
          refine tval (some 6) (.int .i64 0) w7 (by kernel_rfl) (by kernel_rfl) (by kernel_rfl) ?_
          refine tval (some 7) (.slice none 0 0) w7 (by kernel_rfl) (by kernel_rfl) (by kernel_rfl) ?_
          refine tval (some 8) (.int .i64 0) w7 (by kernel_rfl) (by kernel_rfl) (by kernel_rfl) ?_
          refine tend ?_
          refine (show ∀ (a : Act) (w : World), Met _ a w → _ from by assumption) _ _ ?_
          go_simp
          refine Met.intro ?_
          refine (show ∀ (a : Act) (w : World), _ → _ from by assumption) _ _ ?_
          (repeat apply Exists.intro)
          refine ⟨?rel, rfl⟩
          exact ⟨rfl, rfl, rfl, hw7.trans_below hw6 hg1⟩
        -- ]]fst
      case rest =>
        obtain ⟨rfl, rfl, rfl, hbx⟩ := hcut
        refine (show ∀ (a : Act) (w : World), Code.wp _ _ _ a w → _ from by assumption) _ _ ?_
        refine wp_world (fun w' => Below w2.heap.size w2 w') hbx ?_
        clear hbx
        rintro w5 hb5
        have HN5 := Lib.hid (HN.out.carry hb5)
        have HO5 := Lib.hid (hO2.out.carry hb5)
        have HB5 := Lib.hid (hb2.out.trans (hb5.mono hb2.out.size))
        have fc : w5.cell? ⟨q, 27, none⟩ = some (.bool false) := HN5.out.ntcs 22 _ HBG.out.closed
        have h25 := hb5.size
        clear hb5 HN hO2 hb2 f1
        go_wp2_with (first
          | refine wpList_loadR rfl 53 (.tmp 4) rfl q 0 rfl (nta x) _ Tryz.underlying53 rfl (by rw [nta_size]; kernel_rfl) HN5.out.whole ?_
          | refine wpList_buildOne rfl 24 53 (.tmp 81) rfl (nta x) rfl Tryz.underlying24 _ 29 312 ntInfo (nta_size _) (nta_size _) (by decide) (by decide) ?_
          | (at_builtin
             refine wpList_appL ntc 29 ntc_one _ rfl (.tmp 80) (.tmp 82) _ rfl w.heap.size 53 _ 312 Tryz.underlying24 ntInfo (nta_size _) (by decide) (by decide) D k cd _ rfl HTL.out (HO5.out.alloc _) _ 1 1 [x] rfl rfl (RdX.oneN _ _ _) _ HTK.out.symm (k + 1) rfl (by omega) (by simp; omega) ?_
             intro A7 c7 w7 hO7 hc7 hm7 hb7 hg7 ha7))
        go_roundw
        case rel => exact ⟨k + 1, A7, c7, by omega, by go_num, rfl, hO7, (HB5.out.alloc (by omega) _).trans hb7⟩
        case measure => simp [intOf]; omega
      -- ]]round1
    -- [[fin
    · obtain rfl : k = n := by omega
      rw [List.take_of_length_le (by rw [HV.out.hn]; exact Nat.le_refl _)] at HO
      have HVr := Lib.hid (HV.out.carry HBR.out)
      have f3 : wr.cell? ⟨gd, 3, none⟩ = some (.slice A k c) := by rw [HVr.out.d.cell]; rfl
      have z3 := HVr.out.d.zs 3
      have hl2 : gd < wr.heap.size := HVr.out.d.lt
      clear hbr
      go_wp2_with fail
      go_end0
      refine ⟨rfl, ⟨D, cd, HV.out.hn, HV.out.hm, hgd, (HVr.out.d.set_ 3 _).as (by rfl), (HO.out.mono hbase).wr (Wr.set _ gd 3 _) (own_ne HO.out HVr.out.d (by decide)), HVr.out.ml.wr (Wr.set _ gd 3 _) (own_ne HVr.out.ml HVr.out.d (by decide)), fun y hy => ⟨(HVr.out.dat y hy).1.wr (Wr.set _ gd 3 _) (own_ne (HVr.out.dat y hy).1 HVr.out.d (by decide)), (HVr.out.dat y hy).2⟩⟩, (Wr.set _ gd 3 _).trans_below (HBR.out.mono hbase) hgd⟩
    -- ]]fin
end Go.Proofs.YtbcagdjfegobnaaGreat
/- A region that draws its order, walked once: append onto nothing. -/
namespace Go.Proofs.YtbcagdjfegobnaaGreat
open Go.RowKit
set_option linter.unusedVariables false

theorem run_append_none {P : Program} (t ty e : TypeId) (i : TypeInfo) (ht : P.underlying t = some (.slice e)) (hi : P.info? e = some i) (X : Option Addr) (cx : Nat) (A : Option Addr) (c : Nat) (w : World) :
    (Builtin.append_ #[t, t] ty #[.slice X 0 cx, .slice A 0 c]).run P w = .ok (.slice X 0 cx) w := by
  cases X <;> cases A <;> simp [Builtin.append_, run_underlying ht, sizeOf, typeInfo, hi, Builtin.lenOf, Builtin.firstCells, storeCells, loadCells, loadCellsFrom]
/-- append onto nothing that has no room: what is made is new. -/
theorem run_app_new {P : Program} {α : Type} (f : α → List Value) (size : Nat) (hone : ∀ (xs : List α), ∀ u ∈ xs.flatMap f, u.oneCell' = true) (t ty : TypeId) (base : Nat) (E : TypeId) (z : Value) (bytes : Nat) (ht : P.underlying t = some (.slice E)) (hinfo : (P.info? E).map (fun i => (i.zero, i.size, i.bytes)) = some (some z, size, bytes)) (hzs : z.cells.size = size) (hsz : 0 < size) (hb1 : 1 ≤ bytes)
    (b : Nat) (w : World) (hown : OwnX f size w base E (some ⟨b, 0, none⟩) 0 []) (A : Option Addr) (m c : Nat) (bs : List α) (hm : bs.length = m) (hr : RdX f size w A bs) (hbytes : m * bytes ≤ 140737488355328) (hbase : base ≤ w.heap.size) :
    ∃ A' c' w', (Builtin.append_ #[t, t] ty #[.slice (some ⟨b, 0, none⟩) 0 0, .slice A m c]).run P w = .ok (.slice A' m c') w' ∧ OwnX f size w' base E A' c' bs ∧ m ≤ c' ∧ c' ≤ 9223372036854775807 ∧ Below w.heap.size w w' := by
  subst hm
  obtain ⟨i, hi, hz, hsize, hby⟩ := info_parts hinfo
  have h63 : 0 + bs.length ≤ maxLen := by
    have : bs.length * 1 ≤ bs.length * bytes := Nat.mul_le_mul_left _ hb1
    unfold maxLen; omega
  obtain ⟨v', w', hrun, h2, h3, h4⟩ := run_append_any (P := P) w base t ty E i z size bytes ht hi hz hsize hby hzs hsz (.slice (some ⟨b, 0, none⟩) 0 0) 0 [] hown A bs.length c (bs.flatMap f) hr (hone bs) h63 (by rw [Nat.zero_add]; exact hbytes) hbase
  obtain ⟨A', c', rfl, hc1, hc2⟩ := own_shape _ h2
  have h2' : OwnX f size w' base E A' c' bs := by
    have h5 := h2
    rw [List.nil_append, Nat.zero_add] at h5
    exact h5
  refine ⟨A', c', w', ?_, h2', by omega, by unfold maxLen at hc2; omega, ?_⟩
  · rw [Nat.zero_add] at hrun; exact hrun
  by_cases h0 : bs.length = 0
  · rw [h0, run_append_none t ty E i ht hi] at hrun
    injection hrun with _ e
    rw [← e]
    exact Below.refl _ _
  · obtain ⟨b1, off, rfl, hcell⟩ := hr.2 (by omega)
    have hg := run_append_grow (P := P) (w := w) t ty E i z ht hi hz ⟨b, 0, none⟩ 0 0 [] (by simp) (fun j v h => by simp at h) ⟨b1, off, none⟩ bs.length c (bs.flatMap f) (by rw [hsize]; exact hr.1) (fun j v h => by rw [add_none]; exact hcell j v h) (by omega) (by unfold maxLen at h63; omega) (by rw [Nat.zero_add, nextslicecap_zero (by omega), hby]; omega)
    rw [hg] at hrun
    injection hrun with _ e
    rw [← e]
    exact (Below.refl _ _).drew.alloc (Nat.le_refl _) _
section
variable {P : Program} {ops : Array Oper} {core ev : Nat → Bool} {C : World → Prop} {W : Nat → Act → Value → World → Prop} {R : World → World → Prop} {Q : Exit → Act → World → Prop} {Fin : List Fact → Act → Prop} {k : Nat} {ks : List Nat} {F : List Fact} {a : Act} {w : World} {ts : List Nat}
/-- .. as_v an event. -/
theorem fapp0 {α : Type} (d : Tmp) (f : α → List Value) (size : Nat) (hone : ∀ (xs : List α), ∀ u ∈ xs.flatMap f, u.oneCell' = true) (s x : Operand) (t : TypeId) (hk : decide (k < ops.size) = true) (hd : (opK ops k).dst = some d) (hw : Region.wanted (opK ops k) (yielded ops a.tmps) = true) (he : ev k = true)
    (ho : (opK ops k).op = .call { callee := .builtin .append, args := #[s, x], argTypes := #[t, t] })
    (base : Nat) (E : TypeId) (z : Value) (bytes : Nat) (ht : P.underlying t = some (.slice E)) (hinfo : (P.info? E).map (fun i => (i.zero, i.size, i.bytes)) = some (some z, size, bytes)) (hzs : z.cells.size = size) (hsz : 0 < size) (hb1 : 1 ≤ bytes)
    (b : Nat) (hs : a.eval s = .slice (some ⟨b, 0, none⟩) 0 0) (A : Option Addr) (m c : Nat) (bs : List α) (hx : a.eval x = .slice A m c) (hm : bs.length = m) (hbytes : m * bytes ≤ 140737488355328)
    (hc : ∀ w, cls ops C F k w → OwnX f size w base E (some ⟨b, 0, none⟩) 0 [] ∧ RdX f size w A bs ∧ base ≤ w.heap.size ∧ (∀ A' c' w', OwnX f size w' base E A' c' bs → m ≤ c' → c' ≤ 9223372036854775807 → Below w.heap.size w w' → W k a (.slice A' m c') w' ∧ C w' ∧ R w w'))
    (h : ∀ v, (∃ w, C w ∧ W k a v w) → flowL P ops ev C W R Fin ks ((k, W k a v) :: F) (a.put (some d) v)) : flowL P ops ev C W R Fin (k :: ks) F a := by
  refine flow_event (opK_some hk) hw he (fun w hcl => ?_) (fun v hv => by rw [hd]; exact h v hv)
  obtain ⟨hown, hr, hbase, hK⟩ := hc w hcl
  obtain ⟨A', c', w', hrun, h1, h2, h3, h4⟩ := run_app_new (P := P) f size hone t (opK ops k).type base E z bytes ht hinfo hzs hsz hb1 b w hown A m c bs hm hr hbytes hbase
  have hfin := hK A' c' w' h1 h2 h3 h4
  unfold execOp
  simp only [ho, resolve, invoke, builtin, Sem.run_bind, Sem.run_pure, Result.andThen_ok, List.map_toArray, List.map_cons, List.map_nil, hs, hx, hrun]
  exact hfin
end
end Go.Proofs.YtbcagdjfegobnaaGreat
/- A region that draws its order, walked once: what is told stays by each step's own proof; stores as_v events. -/
namespace Go.Proofs.YtbcagdjfegobnaaGreat
open Go.RowKit
set_option linter.unusedVariables false

/-- What holds of the class, and what is told, stays. -/
def Stays (C : World → Prop) (V : Nat → Value → World → Prop) (w w' : World) : Prop := (C w → C w') ∧ ∀ k v, V k v w → V k v w'
theorem Stays.refl {C : World → Prop} {V : Nat → Value → World → Prop} (w : World) : Stays C V w w := ⟨id, fun _ _ h => h⟩
section
variable {P : Program} {ops : Array Oper} {core ev : Nat → Bool} {C : World → Prop} {W : Nat → Act → Value → World → Prop} {R : World → World → Prop} {Q : Exit → Act → World → Prop} {Fin : List Fact → Act → Prop} {k : Nat} {ks : List Nat} {F : List Fact} {a : Act} {w : World} {ts : List Nat}
theorem wp_flowS {id : Nat} {a : Act} {w : World} (core ev : Nat → Bool) (sz : Nat) (ks : List Nat) (C : World → Prop) (V : Nat → Value → World → Prop) (hm : P.follows .mixedOrders = true) (hB : flowB ops core sz = true) (hpu : pureB ops core ev = true) (hks : coreL ops core = ks) (hQ : ∀ c a d v w, Q (.panic c) (a.put (some d) v) w → Q (.panic c) a w) (hsz : a.tmps.size = sz)
    (hC : C w.drew) (hfl : flowL P ops ev C (fun k _ v w => V k v w) (Stays C V) (flowFin P ops core C Q) ks [] a) : (Code.region id ops true).wp P Q a w :=
  wp_flowR core ev sz ks C (fun k _ v w => V k v w) (Stays C V) hm hB hpu hks hQ hsz ⟨fun w => Stays.refl w, fun a b c h k => ⟨fun x => k.1 (h.1 x), fun j v x => k.2 j v (h.2 j v x)⟩, fun w w' h k => k.1 h, fun k _ v w w' h r => r.2 k v h, fun k a b v w _ h => h⟩ hC hfl
/-- A struct is stored as_v a whole. -/
theorem fstoreP (hk : decide (k < ops.size) = true) (hd : (opK ops k).dst = none) (hw : Region.wanted (opK ops k) (yielded ops a.tmps) = true) (he : ev k = true) (ty : TypeId) (x y : Operand) (ho : (opK ops k).op = .store ty x y) (g off : Nat) (hx : a.eval x = .pointer (some ⟨g, off, none⟩)) (p : Array Value) (hy : a.eval y = .agg p)
    (t : TypeId) (hi : (P.info? ty).map (·.size) = some p.size) (h1 : ∀ v ∈ p.toList, v.oneCell' = true)
    (hc : ∀ w, cls ops C F k w → ∃ cs, Blk w g t cs ∧ off + p.size ≤ cs.size ∧ (∀ w', Blk w' g t (cs.toList.take off ++ p.toList ++ cs.toList.drop (off + p.size)).toArray → Wr g w w' → W k a undef w' ∧ C w' ∧ R w w'))
    (h : ∀ v, (∃ w, C w ∧ W k a v w) → flowL P ops ev C W R Fin ks ((k, W k a v) :: F) (a.put none v)) : flowL P ops ev C W R Fin (k :: ks) F a := by
  refine flow_event (opK_some hk) hw he (fun w hcl => ?_) (fun v hv => by rw [hd]; exact h v hv)
  obtain ⟨cs, hg, hs, hK⟩ := hc w hcl
  have hfin := hK _ (setRow_heap w g cs _ t (0, 0) hg) (Wr.row w g _)
  unfold execOp
  simp only [ho, hx, hy, Instr.storeAt, Instr.sureAddr, Sem.run_bind, Sem.run_pure, Result.andThen_ok, run_storeVar_part (P := P) ty g off t cs p hg hi hs h1 _ rfl]
  exact hfin
end
end Go.Proofs.YtbcagdjfegobnaaGreat
/- The contract of head.Decode. -/
namespace Go.Proofs.YtbcagdjfegobnaaGreat
open Go.ChangeShapes Go.WideShapes Go.ChangeAt Go.RowKit
set_option linter.unusedVariables false

theorem andNot3 (c : Nat) (h : c < 256) : bits .andNot .u8 (c : Int) 3 = ((c / 4 * 4 : Nat) : Int) := by
  have key : ∀ c : Fin 256, (bits .andNot .u8 ((c.val : Nat) : Int) 3 == ((c.val / 4 * 4 : Nat) : Int)) = true := of_decide_eq_true (by kernel_rfl)
  simpa using key ⟨c, h⟩

theorem and3 (c : Nat) (h : c < 256) : bits .and .u8 (c : Int) 3 = ((c % 4 : Nat) : Int) := by
  have key : ∀ c : Fin 256, (bits .and .u8 ((c.val : Nat) : Int) 3 == ((c.val % 4 : Nat) : Int)) = true := of_decide_eq_true (by kernel_rfl)
  simpa using key ⟨c, h⟩

/-- What Decode answers where something is wrong. -/
def HBad (w : World) (E : Int) (e : Ending) (w' : World) : Prop := e = .returned (.tuple #[.agg #[.int .i64 0, .int .i64 0, .int .i64 0, .slice none 0 0, .int .i64 0, .int .i64 0], .int .i64 0, .int .i64 E]) ∧ Below w.heap.size w w'

set_option maxRecDepth 100000 in
theorem hDec_nil (A : Option Addr) (c : Nat) (w : World) :
    Calls Tryz.prog 31 #[.slice A 0 c] w (HBad w 4) := by
  have hC : Blk (w.alloc (.cells #[.int .i64 0, .int .i64 0, .int .i64 0, .slice none 0 0, .int .i64 0, .int .i64 0] 61)) w.heap.size 61 #[.int .i64 0, .int .i64 0, .int .i64 0, .slice none 0 0, .int .i64 0, .int .i64 0] := Blk.new _ _ _
  have hbz : Below w.heap.size w (w.alloc (.cells #[.int .i64 0, .int .i64 0, .int .i64 0, .slice none 0 0, .int .i64 0, .int .i64 0] 61)) := (Below.refl _ _).alloc (Nat.le_refl _) _
  have FC := hC.facts6
  go_enter Tryz.func31, Tryz.ntmps31
  go_wp2_with fail
  refine bodyPost_ret (v := .tuple #[.agg #[.int .i64 0, .int .i64 0, .int .i64 0, .slice none 0 0, .int .i64 0, .int .i64 0], .int .i64 0, .int .i64 4]) ?_ rfl ⟨rfl, ?_⟩
  · simp [results, Tryz.results31, go_sem, FC] <;> rfl
  · (repeat (first | with_reducible exact hbz | with_reducible refine Below.drew ?_ | (with_reducible refine Below.set4 ?_ ?side _ _ _ _; case side => (first | omega | (simp; omega) | (simp; done))) | (with_reducible refine Below.setCell ?_ ?side _; case side => (first | omega | (simp; omega) | (simp; done))) | (with_reducible refine Below.alloc ?_ ?side _; case side => (first | omega | (simp; omega) | (simp; done)))))

set_option maxRecDepth 100000 in
set_option maxHeartbeats 1000000 in
theorem hDec_none (A : Option Addr) (bs : List UInt8) (n c : Nat) (w : World) (hn : bs.length = n) (h : RdB w A bs) (hc : n ≤ c) (hm : c ≤ 9223372036854775807) (h0 : 1 ≤ n) (b : Nat) (hb : (bs.getD 0 0).toNat = b) (h1 : b / 4 ≠ 16) (h2 : b / 4 ≠ 48) (h3 : b ≠ 240) :
    Calls Tryz.prog 31 #[.slice A n c] w (HBad w 2) := by
  obtain ⟨B, off, rfl, hcell⟩ := h.cell (by omega)
  have hc0 := hcell 0 (by omega)
  rw [hb] at hc0
  have hb256 : b < 256 := by have := (bs.getD 0 0).toNat_lt; omega
  simp only [Nat.add_zero] at hc0
  obtain ⟨x, hx⟩ : ∃ x, bits .andNot .u8 (b : Int) 3 = x := ⟨_, rfl⟩
  have hxv := andNot3 b hb256
  rw [hx] at hxv
  have e1 : (x == 64) = false := by rw [hxv]; simp; omega
  have e2 : (x == 192) = false := by rw [hxv]; simp; omega
  have e3 : ((b : Int) == 240) = false := by simp; omega
  have hg := World.block_lt_of_cell? w _ hc0
  clear hxv hcell h hn hb
  have hC : Blk ((w.alloc (.cells #[.int .i64 0, .int .i64 0, .int .i64 0, .slice none 0 0, .int .i64 0, .int .i64 0] 61)).alloc (.cells #[.int .i64 0, .int .i64 0, .int .i64 0, .slice none 0 0, .int .i64 0, .int .i64 0] 61)) w.heap.size 61 #[.int .i64 0, .int .i64 0, .int .i64 0, .slice none 0 0, .int .i64 0, .int .i64 0] := (Blk.new _ _ _).alloc _
  have hbz : Below w.heap.size w ((w.alloc (.cells #[.int .i64 0, .int .i64 0, .int .i64 0, .slice none 0 0, .int .i64 0, .int .i64 0] 61)).alloc (.cells #[.int .i64 0, .int .i64 0, .int .i64 0, .slice none 0 0, .int .i64 0, .int .i64 0] 61)) := ((Below.refl _ _).alloc (Nat.le_refl _) _).alloc (by simp) _
  have FC := hC.facts6
  go_enter Tryz.func31, Tryz.ntmps31
  go_wp2_with fail
  refine bodyPost_ret (v := .tuple #[.agg #[.int .i64 0, .int .i64 0, .int .i64 0, .slice none 0 0, .int .i64 0, .int .i64 0], .int .i64 0, .int .i64 2]) ?_ rfl ⟨rfl, ?_⟩
  · simp [results, Tryz.results31, go_sem, FC] <;> rfl
  · (repeat (first | with_reducible exact hbz | with_reducible refine Below.drew ?_ | (with_reducible refine Below.set4 ?_ ?side _ _ _ _; case side => (first | omega | (simp; omega) | (simp; done))) | (with_reducible refine Below.setCell ?_ ?side _; case side => (first | omega | (simp; omega) | (simp; done))) | (with_reducible refine Below.alloc ?_ ?side _; case side => (first | omega | (simp; omega) | (simp; done)))))
/-- What Decode answers where a head was read. -/
def HGood (w : World) (H : HeadD) (u : Nat) (e : Ending) (w' : World) : Prop := ∃ T d, e = .returned (.tuple #[.agg (hcells H T d), .int .i64 u, .int .i64 0]) ∧ RdB w' T H.tok ∧ H.tok.length ≤ d ∧ d ≤ 9223372036854775807 ∧ Below w.heap.size w w'
def HTail (bs : List UInt8) (n k tt f : Nat) (t : List UInt8) (u s : Nat) (w : World) (e : Ending) (w' : World) : Prop :=
  (n < u + s ∧ HBad w 4 e w') ∨ (u + s ≤ n ∧ HGood w ⟨k, tt, f, t, valB ((bs.drop u).take s) 0, s⟩ (u + s) e w')

theorem rd_of_own8 {w : World} {base : Nat} {e : TypeId} {A : Option Addr} {l c : Nat} {bs : List UInt8} (h : w.ownsRow base e 1 (.slice A l c) l (u8s bs)) (hl : bs.length = l) : RdB w A bs := by
  subst hl; exact RdB.of_own h
theorem own_cap8 {w : World} {base : Nat} {e : TypeId} {A : Option Addr} {l c : Nat} {bs : List Value} (h : w.ownsRow base e 1 (.slice A l c) l bs) : l ≤ c ∧ c ≤ 9223372036854775807 := by
  rcases h.2 with ⟨h1, h2⟩ | ⟨g, cap, cur, hv, _, _, h3, h4, _⟩
  · injection h1 with _ h1 h3; omega
  · injection hv with _ h5 h6; unfold maxLen at h4; omega

set_option maxRecDepth 100000 in
set_option maxHeartbeats 2000000 in
theorem hDec_short (A : Option Addr) (bs : List UInt8) (n c : Nat) (w : World) (hn : bs.length = n) (h : RdB w A bs) (hc : n ≤ c) (hm : c ≤ 9223372036854775807) (h2n : 2 ≤ n) (b s : Nat) (hb : (bs.getD 0 0).toNat = b) (h1 : b / 4 = 16) (hs : b % 4 + 1 = s) :
    Calls Tryz.prog 31 #[.slice A n c] w (HTail bs n 2 (bs.getD 1 0).toNat 0 [] 2 s w) := by
  obtain ⟨B, off, rfl, hcell⟩ := h.cell (by omega)
  have hc0 := hcell 0 (by omega)
  have hc1 := hcell 1 (by omega)
  rw [hb] at hc0
  have hb256 : b < 256 := by have := (bs.getD 0 0).toNat_lt; omega
  obtain ⟨tt, hto⟩ : ∃ tt, (bs.getD 1 0).toNat = tt := ⟨_, rfl⟩
  have hto256 : tt < 256 := by have := (bs.getD 1 0).toNat_lt; omega
  rw [hto] at hc1 ⊢
  simp only [Nat.add_zero] at hc0
  obtain ⟨x, hx⟩ : ∃ x, bits .andNot .u8 (b : Int) 3 = x := ⟨_, rfl⟩
  have hxv := andNot3 b hb256
  rw [hx] at hxv
  have e1 : (x == 64) = true := by rw [hxv]; simp; try omega
  obtain ⟨y, hy⟩ : ∃ y, bits .and .u8 (b : Int) 3 = y := ⟨_, rfl⟩
  have hyv := and3 b hb256
  rw [hy] at hyv
  have hy0 : 0 ≤ y := by omega
  have hy3 : y ≤ 3 := by omega
  have e2 : y + 1 = (s : Int) := by omega
  have hs1 : 1 ≤ s := by omega
  have hs4 : s ≤ 4 := by omega
  have hg := World.block_lt_of_cell? w _ hc0
  have HR := Lib.hid h
  have HN := Lib.hid hn
  clear hxv hyv hcell h hn hb hto h1
  go_enter Tryz.func31, Tryz.ntmps31
  go_upto_region 12 with (fail)
  refine wp_world (fun w' => Blk w' w.heap.size 61 #[.int .i64 0, .int .i64 0, .int .i64 0, .slice none 0 0, .int .i64 0, .int .i64 0] ∧ Blk w' (w.heap.size + 1) 61 #[.int .i64 2, .int .i64 0, .int .i64 0, .slice none 0 0, .int .i64 0, .int .i64 s] ∧ w'.cell? ⟨B, off + 1, none⟩ = some (.int .u8 tt) ∧ Below w.heap.size w w')
    ⟨(Blk.new _ _ _).alloc _, (Blk.new1 _ _ _ _).as (by rw [← e2]), by go_simp, ((Below.refl _ _).alloc (Nat.le_refl _) _).alloc (by simp) _⟩ ?_
  clear hc0 hc1 hx hy e1 e2
  rintro w1 ⟨hB2, hB5, hc1, hb1⟩
  have hFH := hB5.facts6
  have hz1 := hb1.size
  go_upto_region 30 with (fail)
  refine wp_world (fun w' => Blk w' w.heap.size 61 #[.int .i64 0, .int .i64 0, .int .i64 0, .slice none 0 0, .int .i64 0, .int .i64 0] ∧ Blk w' (w.heap.size + 1) 61 #[.int .i64 2, .int .i64 tt, .int .i64 0, .slice none 0 0, .int .i64 0, .int .i64 s] ∧ Below w.heap.size w w')
    ⟨by (apply Blk.as; (case h => (repeat (first | with_reducible exact hB2 | with_reducible apply Blk.drew | with_reducible apply Blk.set4 | with_reducible apply Blk.set_ | (with_reducible apply Blk.far4 (hne := ?side); case side => (first | omega | (simp; omega) | (simp; done))) | (with_reducible apply Blk.far (hp := ?side); case side => (first | omega | (simp; omega) | (simp; done))) | with_reducible apply Blk.alloc))); (case e => (first | with_reducible rfl | (simp; done) | rfl))), by (apply Blk.as; (case h => (repeat (first | with_reducible exact hB5 | with_reducible apply Blk.drew | with_reducible apply Blk.set4 | with_reducible apply Blk.set_ | (with_reducible apply Blk.far4 (hne := ?side); case side => (first | omega | (simp; omega) | (simp; done))) | (with_reducible apply Blk.far (hp := ?side); case side => (first | omega | (simp; omega) | (simp; done))) | with_reducible apply Blk.alloc))); (case e => (first | with_reducible rfl | (simp; done) | rfl))), by (repeat (first | with_reducible exact hb1 | with_reducible refine Below.drew ?_ | (with_reducible refine Below.set4 ?_ ?side _ _ _ _; case side => (first | omega | (simp; omega) | (simp; done))) | (with_reducible refine Below.setCell ?_ ?side _; case side => (first | omega | (simp; omega) | (simp; done))) | (with_reducible refine Below.alloc ?_ ?side _; case side => (first | omega | (simp; omega) | (simp; done)))))⟩ ?_
  clear hFH hB2 hB5 hb1 hc1
  rintro w2 ⟨hB2, hB5, hbz⟩
  have HT : Hid (w2.ownsRow (w.heap.size + 2) 5 1 (.slice none 0 0) 0 (u8s [])) := OwnB.nil w2 _ _
  have HG2 : Hid (w.heap.size + 2 ≤ w2.heap.size) := hB5.lt
  have HB2 := Lib.hid hB2
  have HB5 := Lib.hid hB5
  have HBZ := Lib.hid hbz
  clear hB2 hB5 hbz hz1
  have hFC := HB2.out.facts6
  have hFH := HB5.out.facts6
  have hu0 : 2 + s ≤ 9223372036854775807 := by omega
  by_cases hsh : n < 2 + s
  · go_wp2_with fail
    refine bodyPost_ret (v := .tuple #[.agg #[.int .i64 0, .int .i64 0, .int .i64 0, .slice none 0 0, .int .i64 0, .int .i64 0], .int .i64 0, .int .i64 4]) ?_ rfl ?_
    · simp [results, Tryz.results31, go_sem, hFC] <;> rfl
    · refine Or.inl ⟨hsh, rfl, ?_⟩
      (repeat (first | with_reducible exact HBZ.out | with_reducible refine Below.drew ?_ | (with_reducible refine Below.set4 ?_ ?side _ _ _ _; case side => (first | omega | (simp; omega) | (simp; done))) | (with_reducible refine Below.setCell ?_ ?side _; case side => (first | omega | (simp; omega) | (simp; done))) | (with_reducible refine Below.alloc ?_ ?side _; case side => (first | omega | (simp; omega) | (simp; done)))))
  · obtain ⟨ms, hms⟩ : ∃ ms, (bs.drop 2).take s = ms := ⟨_, rfl⟩
    have hmsl : ms.length = s := by rw [← hms, List.length_take, List.length_drop, HN.out]; omega
    have hcell : ∀ (w' : World), Below w.heap.size w w' → ∀ k, k < s → w'.cell? ⟨B, off + 2 + k, none⟩ = some (.int .u8 ((ms.getD k 0).toNat : Int)) := by
      intro w' hw' k hk
      obtain ⟨B', off', hA', hc'⟩ := (HR.out.below hw').cell (by have := HN.out; omega)
      injection hA' with hA'
      injection hA' with h1 h2
      subst h1 h2
      have := hc' (2 + k) (by have := HN.out; omega)
      rw [← Nat.add_assoc] at this
      rw [this, ← hms]
      simp [List.getD, hk, List.getElem?_drop]
    have HMS := Lib.hid hms
    have HML := Lib.hid hmsl
    have HCELL := Lib.hid hcell
    have hz2 : w.heap.size ≤ w2.heap.size := HBZ.out.size
    have hnu : 2 + s - 2 = s := by omega
    have hcu : ((2 + s : Nat) : Int) ≤ (c : Int) := by omega
    clear hms hmsl hcell
    have HFC := Lib.hid hFC
    clear hFC
    have hcu1 : (if c = 2 then (some (⟨B, off, none⟩ : Addr)) else some ⟨B, off + 2, none⟩) = (if c = 2 then some ⟨B, off, none⟩ else some ⟨B, off + 2, none⟩) := rfl
    go_wp2_with fail
    clear hFH
    go_loopw [118] (fun i wr => ∃ k : Nat, k ≤ s ∧ i = .int .i64 k ∧ Blk wr (w.heap.size + 1) 61 #[.int .i64 2, .int .i64 tt, .int .i64 0, .slice none 0 0, .int .i64 (valB (ms.take k) 0 : Nat), .int .i64 s] ∧ Blk wr w.heap.size 61 #[.int .i64 0, .int .i64 0, .int .i64 0, .slice none 0 0, .int .i64 0, .int .i64 0] ∧ Below w.heap.size w wr ∧ wr.ownsRow (w.heap.size + 2) 5 1 (.slice none 0 0) 0 (u8s []) ∧ w.heap.size + 2 ≤ wr.heap.size) (fun i _ => s - (intOf i).toNat)
    case atStart => exact ⟨0, Nat.zero_le _, rfl, HB5.out, HB2.out, HBZ.out, HT.out, HG2.out⟩
    case round =>
      obtain ⟨k, hk, rfl, hB5, hB2, hbz, hT, hg2⟩ := hrel
      have HTT := Lib.hid hT
      clear hT
      have HB5 := Lib.hid hB5
      have HB2 := Lib.hid hB2
      have hFH := hB5.facts6
      clear hB5 hB2
      by_cases hlt : k < s
      · have hck := HCELL.out wr hbz k hlt
        have hv : Hid (valB (ms.take (k + 1)) 0 = valB (ms.take k) 0 * 256 + (ms.getD k 0).toNat) := by
          show _ = _
          rw [List.take_succ_eq_append_getElem (by rw [HML.out]; exact hlt), valB_snoc]; simp [List.getD, HML.out, hlt]
        have hvl : valB (ms.take k) 0 < 18014398509481984 := by
          have h1 := valB_bound (ms.take k)
          have h2 : 256 ^ (ms.take k).length ≤ 256 ^ 4 := Nat.pow_le_pow_right (by decide) (by rw [List.length_take]; omega)
          omega
        have hv0 : valB (ms.take k) 0 * 256 < 4611686018427387904 := by omega
        generalize hbk : ms.getD k 0 = bk at *
        generalize hvk : valB (ms.take k) 0 = vk at *
        obtain ⟨vn, hvn⟩ : ∃ vn, valB (ms.take (k + 1)) 0 = vn := ⟨_, rfl⟩
        have h9 : (bk.toNat : Int) < 256 := by have := bk.toNat_lt; omega
        have hor := or_byte vk bk.toNat hvl (by omega)
        have hvn' : Hid (vk * 256 + bk.toNat = vn) := by show _ = _; rw [← hvn]; exact hv.out.symm
        have HVN := Lib.hid hvn
        rw [hvn'.out] at hor
        clear hbk hvk hvn hv
        go_wp2_with fail
        go_roundw
        case rel => exact ⟨k + 1, by omega, by go_num, by rw [HVN.out]; (apply Blk.as; (case h => (repeat (first | with_reducible exact HB5.out | with_reducible apply Blk.drew | with_reducible apply Blk.set4 | with_reducible apply Blk.set_ | (with_reducible apply Blk.far4 (hne := ?side); case side => (first | omega | (simp; omega) | (simp; done))) | (with_reducible apply Blk.far (hp := ?side); case side => (first | omega | (simp; omega) | (simp; done))) | with_reducible apply Blk.alloc))); (case e => (first | with_reducible rfl | (simp; done) | rfl))), by (apply Blk.as; (case h => (repeat (first | with_reducible exact HB2.out | with_reducible apply Blk.drew | with_reducible apply Blk.set4 | with_reducible apply Blk.set_ | (with_reducible apply Blk.far4 (hne := ?side); case side => (first | omega | (simp; omega) | (simp; done))) | (with_reducible apply Blk.far (hp := ?side); case side => (first | omega | (simp; omega) | (simp; done))) | with_reducible apply Blk.alloc))); (case e => (first | with_reducible rfl | (simp; done) | rfl))), by (repeat (first | with_reducible exact hbz | with_reducible refine Below.drew ?_ | (with_reducible refine Below.set4 ?_ ?side _ _ _ _; case side => (first | omega | (simp; omega) | (simp; done))) | (with_reducible refine Below.setCell ?_ ?side _; case side => (first | omega | (simp; omega) | (simp; done))) | (with_reducible refine Below.alloc ?_ ?side _; case side => (first | omega | (simp; omega) | (simp; done))))), by (repeat (first | with_reducible exact HTT.out | with_reducible refine World.ownsRow.drew ?_ | (with_reducible refine ownsRow_setCell_below ?_ ?side _; case side => (first | omega | (simp; omega) | (simp; done))) | with_reducible refine World.ownsRow.alloc ?_ _)), by simp; omega⟩
        case measure => simp [intOf]; omega
      · obtain rfl : k = s := by omega
        have hfin : valB (ms.take k) 0 = valB ((bs.drop 2).take k) 0 := by rw [HMS.out, List.take_of_length_le (by rw [HML.out]; exact Nat.le_refl _)]
        have HFIN := Lib.hid hfin
        have hFC := HB2.out.facts6
        have hvk : valB (ms.take k) 0 < 4611686018427387904 := by
          have h1 := valB_bound (ms.take k)
          have h2 : 256 ^ (ms.take k).length ≤ 256 ^ 4 := Nat.pow_le_pow_right (by decide) (by rw [List.length_take]; omega)
          omega
        generalize valB (ms.take k) 0 = vk at *
        clear hfin hlt
        go_wp2_with fail
        go_region
        all_goals
          go_wp2_with fail
          refine bodyPost_ret (v := .tuple #[.agg #[.int .i64 2, .int .i64 tt, .int .i64 0, .slice none 0 0, .int .i64 vk, .int .i64 k], .int .i64 ((2 : Int) + k), .int .i64 0]) ?_ rfl ?_
          · simp [results, Tryz.results31, go_sem, hFC] <;> rfl
          · refine Or.inr ⟨by omega, none, 0, ?_, ?_, ?_, ?_, ?_⟩
            · simp [hcells, List.length_nil, ← HFIN.out]
            · refine rd_of_own8 (base := w.heap.size + 2) (e := 5) (l := 0) (c := 0) ?_ (by simp [List.length_nil])
              (repeat (first | with_reducible exact HTT.out | with_reducible refine World.ownsRow.drew ?_ | (with_reducible refine ownsRow_setCell_below ?_ ?side _; case side => (first | omega | (simp; omega) | (simp; done))) | with_reducible refine World.ownsRow.alloc ?_ _))
            · have := own_cap8 HTT.out; simp only [List.length_nil]; exact this.1
            · exact (own_cap8 HTT.out).2
            · (repeat (first | with_reducible exact hbz | with_reducible refine Below.drew ?_ | (with_reducible refine Below.set4 ?_ ?side _ _ _ _; case side => (first | omega | (simp; omega) | (simp; done))) | (with_reducible refine Below.setCell ?_ ?side _; case side => (first | omega | (simp; omega) | (simp; done))) | (with_reducible refine Below.alloc ?_ ?side _; case side => (first | omega | (simp; omega) | (simp; done)))))

set_option maxRecDepth 100000 in
set_option maxHeartbeats 1000000 in
theorem hDec_short1 (A : Option Addr) (bs : List UInt8) (c : Nat) (w : World) (hn : bs.length = 1) (h : RdB w A bs) (hc : 1 ≤ c) (hm : c ≤ 9223372036854775807) (b : Nat) (hb : (bs.getD 0 0).toNat = b) (h1 : b / 4 = 16) :
    Calls Tryz.prog 31 #[.slice A 1 c] w (HBad w 4) := by
  obtain ⟨B, off, rfl, hcell⟩ := h.cell (by omega)
  have hc0 := hcell 0 (by omega)
  rw [hb] at hc0
  have hb256 : b < 256 := by have := (bs.getD 0 0).toNat_lt; omega
  simp only [Nat.add_zero] at hc0
  obtain ⟨x, hx⟩ : ∃ x, bits .andNot .u8 (b : Int) 3 = x := ⟨_, rfl⟩
  have hxv := andNot3 b hb256
  rw [hx] at hxv
  have e1 : (x == 64) = true := by rw [hxv]; simp; try omega
  obtain ⟨y, hy⟩ : ∃ y, bits .and .u8 (b : Int) 3 = y := ⟨_, rfl⟩
  have hyv := and3 b hb256
  rw [hy] at hyv
  have hy0 : 0 ≤ y := by omega
  have hy3 : y ≤ 3 := by omega
  have hg := World.block_lt_of_cell? w _ hc0
  clear hxv hyv hcell h hn hb h1
  go_enter Tryz.func31, Tryz.ntmps31
  go_upto_region 12 with (fail)
  refine wp_world (fun w' => Blk w' w.heap.size 61 #[.int .i64 0, .int .i64 0, .int .i64 0, .slice none 0 0, .int .i64 0, .int .i64 0] ∧ Blk w' (w.heap.size + 1) 61 #[.int .i64 2, .int .i64 0, .int .i64 0, .slice none 0 0, .int .i64 0, .int .i64 (y + 1)] ∧ Below w.heap.size w w')
    ⟨(Blk.new _ _ _).alloc _, Blk.new1 _ _ _ _, ((Below.refl _ _).alloc (Nat.le_refl _) _).alloc (by simp) _⟩ ?_
  clear hc0 hx hy e1
  rintro w1 ⟨hB2, hB5, hb1⟩
  have hFH := hB5.facts6
  have hFC := hB2.facts6
  go_wp2_with fail
  refine bodyPost_ret (v := .tuple #[.agg #[.int .i64 0, .int .i64 0, .int .i64 0, .slice none 0 0, .int .i64 0, .int .i64 0], .int .i64 0, .int .i64 4]) ?_ rfl ⟨rfl, ?_⟩
  · simp [results, Tryz.results31, go_sem, hFC] <;> rfl
  · (repeat (first | with_reducible exact hb1 | with_reducible refine Below.drew ?_ | (with_reducible refine Below.set4 ?_ ?side _ _ _ _; case side => (first | omega | (simp; omega) | (simp; done))) | (with_reducible refine Below.setCell ?_ ?side _; case side => (first | omega | (simp; omega) | (simp; done))) | (with_reducible refine Below.alloc ?_ ?side _; case side => (first | omega | (simp; omega) | (simp; done)))))

theorem RdB.mid {w : World} {B off : Nat} {bs : List UInt8} (h : RdB w (some ⟨B, off, none⟩) bs) (u m c : Nat) (hu : u + m ≤ bs.length) (hc : bs.length ≤ c) : RdB w (if c = u then some ⟨B, off, none⟩ else some ⟨B, off + u, none⟩) ((bs.drop u).take m) := by
  have h1 := (h.cut (k := u) (cap := c) (by omega) hc).front (k := m) (by simp; omega)
  simpa [add_none] using h1

end Go.Proofs.YtbcagdjfegobnaaGreat
