/- The walk of the law ClientTokens: a client takes one token, and no other one; what is not for it changes nothing. -/
import Derived.Test.YtbcagdjfegobnaaGreatC48
import Derived.Test.YtbcagdjfegobnaaGreatC50
import Derived.Test.YtbcagdjfegobnaaGreatC49
import Derived.Test.YtbcagdjfegobnaaGreatC04
import Derived.Laws.IdiomStrings
namespace Go.Proofs.YtbcagdjfegobnaaGreat
open Go.ChangeShapes Go.WideShapes Go.ChangeAt Go.RowKit
set_option linter.unusedVariables false

section
variable {ops : Array Oper} {core ev : Nat → Bool} {C : World → Prop} {W : Nat → Act → Value → World → Prop} {R : World → World → Prop} {Fin : List Fact → Act → Prop} {k : Nat} {ks : List Nat} {F : List Fact} {a : Act}
/-- A string of bytes. -/
theorem fstr (d : Tmp) (x : Operand) (A : Option Addr) (n c : Nat) (bs : List UInt8) (hk : decide (k < ops.size) = true) (hd : (opK ops k).dst = some d) (hw : Region.wanted (opK ops k) (yielded ops a.tmps) = true) (he : ev k = false)
    (ho : (opK ops k).op = .convert 30 9 x) (hx : a.eval x = .slice A n c) (hn : bs.length = n) (hc : ∀ w, cls ops C F k w → RdB w A bs)
    (h : flowL Tryz.prog ops ev C W R Fin ks F (a.put (some d) (.string (byt bs)))) : flowL Tryz.prog ops ev C W R Fin (k :: ks) F a :=
  flow_quiet (v := .string (byt bs)) (opK_some hk) hw he (fun w hcl => still_run (by
    unfold execOp
    simp only [ho, hx, Sem.run_bind, strN (hc w hcl) hn, Result.andThen_ok, Sem.run_pure])) (fun hp => absurd hp (by simp [pu, opK_some hk, pureOp, ho])) (by rw [hd]; exact h)
end

set_option maxRecDepth 100000 in
set_option maxHeartbeats 8000000 in
theorem clientTokens_walk (peer id_ word : Int) (s : ByteArray) (w : World) (hpe : (Lit.int .i64 peer).wf = true) (hid : (Lit.int .i64 id_).wf = true) (hwo : (Lit.int .i64 word).wf = true) (hs : s.size ≤ maxLen) :
    Calls Tryz.prog 8 #[.int .i64 peer, .int .i64 id_, .int .i64 word, .string s] w fun e w' => e = .returned (.bool true) ∧ Below w.heap.size w w' := by
  obtain ⟨v0, v1⟩ := i64_bounds hpe
  obtain ⟨u0, u1⟩ := i64_bounds hid
  have hs9 : s.size ≤ 9223372036854775807 := hs
  have hwr := wrap_range word
  clear hpe hid hwo hs
  obtain ⟨p_, HP, p0, p1⟩ := mod_ex peer 4 (by decide)
  obtain ⟨i_, HI, i0, i1⟩ := mod_ex id_ 256 (by decide)
  obtain ⟨p, rfl⟩ : ∃ p : Nat, p_ = p := ⟨p_.toNat, by omega⟩
  obtain ⟨id, rfl⟩ : ∃ i : Nat, i_ = i := ⟨i_.toNat, by omega⟩
  have hp4 : p < 4 := by omega
  have hid255 : id ≤ 255 := by omega
  obtain ⟨cs, hcs⟩ : ∃ cs, cutS s 30 = cs := ⟨_, rfl⟩
  have hcs30 : cs.size ≤ 30 := by rw [← hcs]; exact cutS_size _ _
  have HCS := Lib.hid (fun W => cutS_any s 30 hs9 (by decide) W)
  rw [hcs] at HCS
  clear hcs
  go_enter Tryz.func8, Tryz.ntmps8
  -- [[a1
  go_wp2_with fail
  refine (picked_at peer 4 p v0 v1 (by decide) (by decide) HP _).mono ?_
  rintro e w' ⟨rfl, rfl⟩
  go_wp2_with fail
  refine (picked_at id_ 256 id u0 u1 (by decide) (by decide) HI _).mono ?_
  rintro e w' ⟨rfl, rfl⟩
  go_wp2_with fail
  refine (clBegin_ok p id hp4 hid255 (IntKind.u64.wrap word) 3 (by decide) (by decide) _).mono ?_
  rintro e w1 ⟨rfl, hb1⟩
  obtain ⟨x, hx⟩ : ∃ x : ClM, (⟨p, id, 0, IntKind.u64.wrap word, 0, 3, [], none, 0, 0, none, 0, none, 0⟩ : ClM) = x := ⟨_, rfl⟩
  rw [hx]
  have hxok : ∀ W, ClOk W x := fun W => by subst hx; exact ⟨hp4, hid255, by simp, hwr.1, hwr.2, by simp, by simp, rfl, by simp, by simp, by simp, Rd.nil, by simp, by simp, by simp, by simp⟩
  have hxpl : x.pl = (p, id, 0, IntKind.u64.wrap word, 0, 3, []) := by subst hx; rfl
  obtain ⟨ex1, ex2, ex3, ex4, ex5, ex6, ex7⟩ := (by simpa [ClM.pl] using hxpl : x.p = p ∧ x.id = id ∧ x.to_ = 0 ∧ x.word = IntKind.u64.wrap word ∧ x.key = 0 ∧ x.last = 3 ∧ x.tok = [])
  have HX := Lib.hid (And.intro ex2 (And.intro ex3 (And.intro ex4 ex7)))
  have HXOK := Lib.hid hxok
  clear hx hxok hxpl ex1 ex2 ex3 ex4 ex5 ex6 ex7 HP HI p0 p1 i0 i1
  go_upto_region 2 with (first
    | (refine wpList_storeP rfl 45 (.tmp 9) (.tmp 35) rfl w1.heap.size 0 rfl (clc x) rfl 45 _ (Blk.new _ _ _) (by kernel_rfl) (by simp [clc]) (clc_one _) _ (splice_all _ _ (by simp [clc])) ?_
       intro w2 hBw2 hw2))
  have hb2 : Below w1.heap.size w1 w2 := hw2.trans_below ((Below.refl _ _).alloc (Nat.le_refl _) _) (Nat.le_refl _)
  obtain ⟨g9, hg9⟩ : ∃ q, w1.heap.size = q := ⟨_, rfl⟩
  refine wp_world (fun w' => Blk w' g9 45 (clc x) ∧ Below w.heap.size w w') ⟨by rw [← hg9]; exact hBw2, hb1.trans (hb2.mono hb1.size)⟩ ?_
  rw [hg9]
  clear hg9 hb2 hw2 hBw2 hb1
  rintro w3 ⟨hC, hb⟩
  have HC3 := Lib.hid hC
  have HB3 := Lib.hid hb
  clear hC hb
  go_wp2_with fail
  refine (HCS.out _).mono ?_
  rintro e w' ⟨rfl, rfl⟩
  have hcv : ∀ st W, (convert 9 30 (.string st)).run Tryz.prog W = .ok (.slice (some ⟨W.heap.size, 0, none⟩) st.size (grownCap W st.size 0 5)) (W.drew.alloc (.cells (bytesRow st (grownCap W st.size 0 5)) 5 ((bytesRow st (grownCap W st.size 0 5)).size, (bytesRow st (grownCap W st.size 0 5)).size + 1))) := fun st W => run_bytes_of_string W _ _ _ st Tryz.underlying9 Tryz.underlying30 Tryz.underlying5
  go_upto_region 3 with (fail)
  obtain ⟨gt, hgt⟩ : ∃ q, w3.heap.size = q := ⟨_, rfl⟩
  obtain ⟨tok, htok⟩ : ∃ tok, bts (({ data := #[116] } : ByteArray) ++ cs) = tok := ⟨_, rfl⟩
  have htl : tok.length = 1 + cs.size := by rw [← htok, bts_len]; simp [ByteArray.size_append]; rfl
  obtain ⟨tcap, htcap⟩ : ∃ t, grownCap w3 (1 + cs.size) 0 5 = t := ⟨_, rfl⟩
  refine wp_world (fun w' => Blk w' g9 45 (clc x) ∧ RdB w' (some ⟨gt, 0, none⟩) tok ∧ Below w.heap.size w w') ⟨HC3.out.carry (((Below.refl _ _).alloc (Nat.le_refl _) _).drew), ?gtk, HB3.out.trans ((((Below.refl _ _).alloc (Nat.le_refl _) _).drew).mono HB3.out.size)⟩ ?_
  case gtk => rw [← htok]; exact RdB.below (bytes_rd2 _ _ _ _ _ hgt) (Below.refl _ _).drew
  rw [htcap, hgt, ← htl]
  have ht31 : tok.length ≤ 31 := by omega
  have ht1 : 0 < tok.length := by omega
  clear htcap hgt htok htl HC3 HB3 hcv HCS hcs30
  obtain ⟨TA, hTA⟩ : ∃ TA : Option Addr, (some ⟨gt, 0, none⟩ : Option Addr) = TA := ⟨_, rfl⟩
  rw [hTA]
  clear hTA
  rintro w4 ⟨hC, hT, hb⟩
  have HC := Lib.hid hC
  have HT := Lib.hid hT
  have HB4 := Lib.hid hb
  obtain ⟨e2, e3, e4, e7⟩ := HX.out
  have f1 : w4.cell? ⟨g9, 1, none⟩ = some (.int .i64 id) := by rw [(clFacts hC).2.2.1, e2]
  have hgl := hC.lt
  clear hC hT hb e2 e3 e4 e7
  -- [[a2
  go_wp2_with fail
  refine (hEnc_retry id 0 tok tok.length tcap TA hid255 (by decide) rfl (by omega) _ HT.out).mono ?_
  rintro e w5 ⟨B, bn, bc, rfl, hbn, hO, hbc, hbm, hb5⟩
  obtain rfl : bn = 4 + tok.length := by rw [← hbn]; exact retryB_len id tok (by omega)
  have HC := Lib.hid (HC.out.carry hb5)
  have HT := Lib.hid (HT.out.below hb5)
  have HBY := Lib.hid (show RdB w5 B (retryB id tok) from hO.rd)
  have HB5 := Lib.hid (HB4.out.trans (hb5.mono HB4.out.size))
  have HBL := Lib.hid (show (retryB id tok).length = 4 + tok.length from retryB_len id tok (by omega))
  clear hb5 HB4 hO hbn f1 hgl
  have HE1 := Lib.hid (show ∀ W, ClOk W x → RdB W B (retryB id tok) → _ from fun W h1 h2 => clHear_retry x 3 (by decide) (by decide) 0 tok HX.out.2.2.2 ht1 (by omega) HX.out.2.1 B (4 + tok.length) bc (retryB id tok) HBL.out hbc hbm (by omega) (by rw [HX.out.1, ← HBL.out]; exact retryB_dec id tok hid255 (by omega)) W h1 h2)
  go_wp2_with (refine wpList_loadR rfl 45 (.tmp 9) rfl g9 0 rfl (clc x) _ Tryz.underlying45 rfl (by kernel_rfl) HC.out.whole ?_)
  refine (HE1.out _ (HXOK.out _) HBY.out).mono ?_
  rintro e w6 ⟨⟨y1, O, D, dc, rfl, hy1, ⟨T, d, hpl1⟩, hBO, hOD, hle, hown1⟩, hb6⟩
  obtain ⟨q1, q2, q3, q4, q5, q6, q7⟩ := ClM.pl_eq hpl1
  have HY1 := Lib.hid (And.intro (q2.trans HX.out.1) (And.intro (q3.trans HX.out.2.1) (And.intro (q4.trans HX.out.2.2.1) q7)))
  have hn1 : y1.tn = tok.length := by rw [← hy1.htn, q7]; rfl
  have HN1 := Lib.hid hn1
  have HC := Lib.hid (HC.out.carry hb6)
  have HT := Lib.hid (HT.out.below hb6)
  have HBY := Lib.hid (HBY.out.below hb6)
  have HB6 := Lib.hid (HB5.out.trans (hb6.mono HB5.out.size))
  have HOK1 := Lib.hid hy1
  have HBO := Lib.hid hBO
  have HOD := Lib.hid hOD.rd.b
  clear hb6 HB5 hy1 hBO hOD hown1 q1 q2 q3 q4 q5 q6 q7 hpl1 hle HE1 hn1
  -- [[a3
  go_upto_region 5 with (first
    | (refine wpList_storeP rfl 45 (.tmp 14) (.tmp 53) rfl w6.heap.size 0 rfl (clc y1) rfl 45 _ (Blk.new _ _ _) (by kernel_rfl) (by simp [clc]) (clc_one _) _ (splice_all _ _ (by simp [clc])) ?_
       intro w7 hBw7 hw7))
  have hb7 : Below w6.heap.size w6 w7 := hw7.trans_below ((Below.refl _ _).alloc (Nat.le_refl _) _) (Nat.le_refl _)
  obtain ⟨gx, hgx⟩ : ∃ q, w6.heap.size = q := ⟨_, rfl⟩
  refine wp_world (fun w' => Blk w' gx 45 (clc y1) ∧ Blk w' g9 45 (clc x) ∧ RdB w' TA tok ∧ RdB w' B (retryB id tok) ∧ ClOk w' y1 ∧ Blk w' O 30 #[.slice D (24 + tok.length) dc] ∧ RdB w' D (greetB (keyI 1 x.id) 0 x.id tok x.word.toNat) ∧ Below w.heap.size w w')
    ⟨by rw [← hgx]; exact hBw7, HC.out.carry hb7, HT.out.below hb7, HBY.out.below hb7, HOK1.out.below hb7, HBO.out.carry hb7, HOD.out.below hb7, HB6.out.trans (hb7.mono HB6.out.size)⟩ ?_
  rw [hgx]
  clear hgx hb7 hw7 hBw7 HC HT HBY HB6 HOK1 HBO HOD
  rintro w8 ⟨h1, h2, h3, h4, h5, h6, h7, hb⟩
  have HGX := Lib.hid h1
  have HC := Lib.hid h2
  have HT := Lib.hid h3
  have HBY := Lib.hid h4
  have HOK1 := Lib.hid h5
  have HBO := Lib.hid h6
  have HOD := Lib.hid h7
  have HB8 := Lib.hid hb
  clear h1 h2 h3 h4 h5 h6 h7 hb
  have HE2 := Lib.hid (show ∀ W, ClOk W y1 → RdB W B (retryB id tok) → _ from fun W h1 h2 => clHear_again y1 3 (by decide) (by decide) 0 tok (by rw [HY1.out.2.2.2]; exact ht1) HY1.out.2.1 _ B (4 + tok.length) bc (retryB id tok) HBL.out hbc hbm (by omega) (by rw [HY1.out.1]; exact retryB_dec id tok hid255 (by omega)) W h1 h2)
  go_wp2_with (refine wpList_loadR rfl 45 (.tmp 14) rfl gx 0 rfl (clc y1) _ Tryz.underlying45 rfl (by kernel_rfl) HGX.out.whole ?_)
  refine (HE2.out _ HOK1.out HBY.out).mono ?_
  rintro e w9 ⟨⟨y2, rfl, hy2, hpl2, hown2⟩, hb9⟩
  have HY2 := Lib.hid ((ClM.pl_eq hpl2).2.2.2.2.2.2.trans HY1.out.2.2.2)
  have hn2 : y2.tn = tok.length := by rw [← hy2.htn, HY2.out]; rfl
  have HN2 := Lib.hid hn2
  have HGX := Lib.hid (HGX.out.carry hb9)
  have HC := Lib.hid (HC.out.carry hb9)
  have HT := Lib.hid (HT.out.below hb9)
  have HOK1 := Lib.hid (HOK1.out.below hb9)
  have HBO := Lib.hid (HBO.out.carry hb9)
  have HOD := Lib.hid (HOD.out.below hb9)
  have HB9 := Lib.hid (HB8.out.trans (hb9.mono HB8.out.size))
  have HR2 := Lib.hid hy2.rd
  clear hb9 HB8 hy2 hown2 hpl2 hn2 HE2 HBY
  -- [[a4
  go_upto_region 6 with (first
    | (refine wpList_storeP rfl 45 (.tmp 17) (.tmp 60) rfl w9.heap.size 0 rfl (clc y2) rfl 45 _ (Blk.new _ _ _) (by kernel_rfl) (by simp [clc]) (clc_one _) _ (splice_all _ _ (by simp [clc])) ?_
       intro w10 hBw10 hw10))
  have hb10 : Below w9.heap.size w9 w10 := hw10.trans_below ((Below.refl _ _).alloc (Nat.le_refl _) _) (Nat.le_refl _)
  obtain ⟨gy, hgy⟩ : ∃ q, w9.heap.size = q := ⟨_, rfl⟩
  refine wp_world (fun w' => Blk w' gy 45 (clc y2) ∧ Blk w' gx 45 (clc y1) ∧ Blk w' g9 45 (clc x) ∧ RdB w' TA tok ∧ ClOk w' y1 ∧ RdB w' y2.T y2.tok ∧ Blk w' O 30 #[.slice D (24 + tok.length) dc] ∧ RdB w' D (greetB (keyI 1 x.id) 0 x.id tok x.word.toNat) ∧ Below w.heap.size w w')
    ⟨by rw [← hgy]; exact hBw10, HGX.out.carry hb10, HC.out.carry hb10, HT.out.below hb10, HOK1.out.below hb10, HR2.out.below hb10, HBO.out.carry hb10, HOD.out.below hb10, HB9.out.trans (hb10.mono HB9.out.size)⟩ ?_
  rw [hgy]
  clear hgy hb10 hw10 hBw10 HC HT HGX HB9 HOK1 HBO HOD HR2
  rintro w11 ⟨h0, h1, h2, h3, h5, h8, h6, h7, hb⟩
  have HGY := Lib.hid h0
  have HGX := Lib.hid h1
  have HC := Lib.hid h2
  have HT := Lib.hid h3
  have HOK1 := Lib.hid h5
  have HR2 := Lib.hid h8
  have HBO := Lib.hid h6
  have HOD := Lib.hid h7
  have HB11 := Lib.hid hb
  have f1 : w11.cell? ⟨g9, 1, none⟩ = some (.int .i64 id) := by rw [(clFacts h2).2.2.1, HX.out.1]
  have hgl := h2.lt
  clear h0 h1 h2 h3 h5 h6 h7 h8 hb
  obtain ⟨q, hq, hq255, hqne⟩ : ∃ q : Nat, ((id : Int) + 1).tmod 256 = (q : Int) ∧ q ≤ 255 ∧ q ≠ id := ⟨(id + 1) % 256, by rw [Int.tmod_eq_emod_of_nonneg (by omega)]; omega, by omega, by omega⟩
  -- [[a5
  go_wp2_with fail
  refine (hEnc_retry q 0 tok tok.length tcap TA hq255 (by decide) rfl (by omega) _ HT.out).mono ?_
  rintro e w12 ⟨B2, bn2, bc2, rfl, hbn2, hO2, hbc2, hbm2, hb12⟩
  obtain rfl : bn2 = 4 + tok.length := by rw [← hbn2]; exact retryB_len q tok (by omega)
  have HBY2 := Lib.hid (show RdB w12 B2 (retryB q tok) from hO2.rd)
  have HGY := Lib.hid (HGY.out.carry hb12)
  have HGX := Lib.hid (HGX.out.carry hb12)
  have HC := Lib.hid (HC.out.carry hb12)
  have HT := Lib.hid (HT.out.below hb12)
  have HOK1 := Lib.hid (HOK1.out.below hb12)
  have HR2 := Lib.hid (HR2.out.below hb12)
  have HBO := Lib.hid (HBO.out.carry hb12)
  have HOD := Lib.hid (HOD.out.below hb12)
  have HB12 := Lib.hid (HB11.out.trans (hb12.mono HB11.out.size))
  have HBL2 := Lib.hid (show (retryB q tok).length = 4 + tok.length from retryB_len q tok (by omega))
  clear hb12 HB11 hO2 hbn2 f1 hgl hq
  have HE3 := Lib.hid (show ∀ W, ClOk W x → RdB W B2 (retryB q tok) → _ from fun W h1 h2 => clHear_other x 3 (by decide) (by decide) 1 q 0 0 tok (by rw [HX.out.1]; exact hqne) _ B2 (4 + tok.length) bc2 (retryB q tok) HBL2.out hbc2 hbm2 (by omega) (retryB_dec q tok hq255 (by omega)) W h1 h2)
  go_wp2_with (refine wpList_loadR rfl 45 (.tmp 9) rfl g9 0 rfl (clc x) _ Tryz.underlying45 rfl (by kernel_rfl) HC.out.whole ?_)
  refine (HE3.out _ (HXOK.out _) HBY2.out).mono ?_
  rintro e w13 ⟨⟨y3, rfl, hy3, hpl3, hown3⟩, hb13⟩
  have HGY := Lib.hid (HGY.out.carry hb13)
  have HGX := Lib.hid (HGX.out.carry hb13)
  have HT := Lib.hid (HT.out.below hb13)
  have HOK1 := Lib.hid (HOK1.out.below hb13)
  have HR2 := Lib.hid (HR2.out.below hb13)
  have HBO := Lib.hid (HBO.out.carry hb13)
  have HOD := Lib.hid (HOD.out.below hb13)
  have HB13 := Lib.hid (HB12.out.trans (hb13.mono HB12.out.size))
  clear hb13 HB12 hy3 hpl3 hown3 HE3 HC HBY2
  -- [[a6
  go_upto_region 8 with (first
    | (refine wpList_storeP rfl 45 (.tmp 22) (.tmp 77) rfl w13.heap.size 0 rfl (clc y3) rfl 45 _ (Blk.new _ _ _) (by kernel_rfl) (by simp [clc]) (clc_one _) _ (splice_all _ _ (by simp [clc])) ?_
       intro w14 hBw14 hw14))
  have hb14 : Below w13.heap.size w13 w14 := hw14.trans_below ((Below.refl _ _).alloc (Nat.le_refl _) _) (Nat.le_refl _)
  refine wp_world (fun w' => Below w13.heap.size w13 w') hb14 ?_
  clear hb14 hw14 hBw14
  rintro w15 hb15
  have HGY := Lib.hid (HGY.out.carry hb15)
  have HGX := Lib.hid (HGX.out.carry hb15)
  have HT := Lib.hid (HT.out.below hb15)
  have HOK1 := Lib.hid (HOK1.out.below hb15)
  have HR2 := Lib.hid (HR2.out.below hb15)
  have HBO := Lib.hid (HBO.out.carry hb15)
  have HOD := Lib.hid (HOD.out.below hb15)
  have HB15 := Lib.hid (HB13.out.trans (hb15.mono HB13.out.size))
  clear hb15 HB13
  go_wp2_with (refine wpList_loadR rfl 45 (.tmp 14) rfl gx 0 rfl (clc y1) _ Tryz.underlying45 rfl (by kernel_rfl) HGX.out.whole ?_)
  refine (clHello_ok y1 _ HOK1.out (by rw [HN1.out]; omega)).mono ?_
  rintro e w9 ⟨D2, dc2, rfl, hO, hb16⟩
  rw [HN1.out]
  have HGY := Lib.hid (HGY.out.carry hb16)
  have HGX := Lib.hid (HGX.out.carry hb16)
  have HTA := Lib.hid (HT.out.below hb16)
  have HT1 := Lib.hid (show RdB w9 y1.T tok by have := (HOK1.out.below hb16).rd; rw [HY1.out.2.2.2] at this; exact this)
  have HT2 := Lib.hid (show RdB w9 y2.T tok by have := HR2.out.below hb16; rw [HY2.out] at this; exact this)
  have HOB := Lib.hid (HBO.out.carry hb16)
  have HRD := Lib.hid (show RdB w9 D (greetB (keyI 1 (id : Nat)) 0 id tok (IntKind.u64.wrap word).toNat) by have := HOD.out.below hb16; rw [HX.out.1, HX.out.2.2.1] at this; exact this)
  have HRD2 := Lib.hid (show RdB w9 D2 (greetB (keyI 1 (id : Nat)) 0 id tok (IntKind.u64.wrap word).toNat) by have := hO.rd.b; rw [HY1.out.1, HY1.out.2.2.1, HY1.out.2.2.2] at this; exact this)
  have HGL := Lib.hid (greetB_len (keyI 1 (id : Nat)) 0 id tok (IntKind.u64.wrap word).toNat (by omega))
  have HB9 := Lib.hid (HB15.out.trans (hb16.mono HB15.out.size))
  have f3x : w9.cell? ⟨gx, 3, none⟩ = some (.slice y1.T tok.length y1.tc) := by rw [(clFacts HGX.out).2.2.2.2.1, HN1.out]
  have f3y : w9.cell? ⟨gy, 3, none⟩ = some (.slice y2.T tok.length y2.tc) := by rw [(clFacts HGY.out).2.2.2.2.1, HN2.out]
  obtain ⟨GB, hGB⟩ : ∃ GB, greetB (keyI 1 (id : Nat)) 0 id tok (IntKind.u64.wrap word).toNat = GB := ⟨_, rfl⟩
  rw [hGB] at HRD HRD2 HGL
  clear hGB
  clear hb16 HB15 hO HT HOK1 HR2 HBO HOD
  go_upto_region 9 with (fail)
  -- [[a7
  refine wp_flowF (fun k => decide (k < 60)) (fun k => k == 0) 145 [0, 1, 2, 3, 4, 5, 6, 7, 8, 9, 10, 11, 12, 13, 14, 15, 16, 17, 18, 19, 20, 21, 22, 23, 24, 25, 26, 27, 28, 29, 30, 31, 32, 33, 34, 35, 36, 37, 38, 39, 40, 41, 42, 43, 44, 45, 46, 47, 48, 49, 50, 51, 52, 53, 54, 55, 56, 57, 58, 59] (fun w' => Below w9.heap.size w9 w') (fun k a v w' => (k = 0 → v = .bool true)) (by kernel_rfl) ?hflB ?hpuB ?hksB (fun _ _ _ _ _ h => h) rfl ?hst ?hC ?_
  case hflB => kernel_rfl
  case hpuB => kernel_rfl
  case hksB => kernel_rfl
  case hst => exact ⟨fun w0 w1 h1 hb => h1.trans (hb.mono h1.size), fun k a v w0 w1 hW hb => (fun e => (fun hp => hp) (hW e)), fun k a b v w0 _ h => h⟩
  case hC => exact (Below.refl _ _).drew
  refine fcall 85 17 #[] (by kernel_rfl) (by kernel_rfl) (by kernel_rfl) (by kernel_rfl) (fun w => (by kernel_rfl)) (fun w hw => (gateTells_ok w).mono ?hx0_85) ?_
  case hx0_85 =>
    rintro e w' ⟨rfl, hb⟩
    exact ⟨_, rfl, (fun _ => rfl), hw.1.trans (hb.mono hw.1.size), hb⟩
  rintro v ⟨w', hw', hW⟩
  obtain rfl := hW rfl
  clear  hW hw' w'
  refine fq 86 (.bool true) (by kernel_rfl) (by kernel_rfl) (by kernel_rfl) (by kernel_rfl) (fun w => (by kernel_rfl)) ?_
  refine fq 87 (.int .i64 0) (by kernel_rfl) (by kernel_rfl) (by kernel_rfl) (by kernel_rfl) (fun w => (by kernel_rfl)) ?_
  refine fq 88 (.bool true) (by kernel_rfl) (by kernel_rfl) (by kernel_rfl) (by kernel_rfl) (fun w => (by kernel_rfl)) ?_
  refine fq 89 (.bool true) (by kernel_rfl) (by kernel_rfl) (by kernel_rfl) (by kernel_rfl) (fun w => (by kernel_rfl)) ?_
  refine fq 90 (.bool true) (by kernel_rfl) (by kernel_rfl) (by kernel_rfl) (by kernel_rfl) (fun w => (by kernel_rfl)) ?_
  refine fq 91 (.int .i64 0) (by kernel_rfl) (by kernel_rfl) (by kernel_rfl) (by kernel_rfl) (fun w => (by kernel_rfl)) ?_
  refine fq 92 (.bool true) (by kernel_rfl) (by kernel_rfl) (by kernel_rfl) (by kernel_rfl) (fun w => (by kernel_rfl)) ?_
  refine fq 93 (.bool true) (by kernel_rfl) (by kernel_rfl) (by kernel_rfl) (by kernel_rfl) (fun w => (by kernel_rfl)) ?_
  refine fq 94 (.bool true) (by kernel_rfl) (by kernel_rfl) (by kernel_rfl) (by kernel_rfl) (fun w => (by kernel_rfl)) ?_
  refine fq 95 (.int .i64 0) (by kernel_rfl) (by kernel_rfl) (by kernel_rfl) (by kernel_rfl) (fun w => (by kernel_rfl)) ?_
  refine fq 96 (.bool true) (by kernel_rfl) (by kernel_rfl) (by kernel_rfl) (by kernel_rfl) (fun w => (by kernel_rfl)) ?_
  refine fq 97 (.bool true) (by kernel_rfl) (by kernel_rfl) (by kernel_rfl) (by kernel_rfl) (fun w => (by kernel_rfl)) ?_
  refine fq 98 (.bool true) (by kernel_rfl) (by kernel_rfl) (by kernel_rfl) (by kernel_rfl) (fun w => (by kernel_rfl)) ?_
  refine fq 99 (.int .i64 9) (by kernel_rfl) (by kernel_rfl) (by kernel_rfl) (by kernel_rfl) (fun w => (by kernel_rfl)) ?_
  refine fq 100 (.bool true) (by kernel_rfl) (by kernel_rfl) (by kernel_rfl) (by kernel_rfl) (fun w => (by kernel_rfl)) ?_
  refine fq 101 (.bool true) (by kernel_rfl) (by kernel_rfl) (by kernel_rfl) (by kernel_rfl) (fun w => (by kernel_rfl)) ?_
  refine fq 102 (.bool true) (by kernel_rfl) (by kernel_rfl) (by kernel_rfl) (by kernel_rfl) (fun w => (by kernel_rfl)) ?_
  refine fq 103 (.int .i64 5) (by kernel_rfl) (by kernel_rfl) (by kernel_rfl) (by kernel_rfl) (fun w => (by kernel_rfl)) ?_
  refine fq 104 (.bool true) (by kernel_rfl) (by kernel_rfl) (by kernel_rfl) (by kernel_rfl) (fun w => (by kernel_rfl)) ?_
  refine fq 105 (.bool true) (by kernel_rfl) (by kernel_rfl) (by kernel_rfl) (by kernel_rfl) (fun w => (by kernel_rfl)) ?_
  refine fq 106 (.bool true) (by kernel_rfl) (by kernel_rfl) (by kernel_rfl) (by kernel_rfl) (fun w => (by kernel_rfl)) ?_
  refine fq 107 (.int .i64 0) (by kernel_rfl) (by kernel_rfl) (by kernel_rfl) (by kernel_rfl) (fun w => (by kernel_rfl)) ?_
  refine fq 108 (.bool true) (by kernel_rfl) (by kernel_rfl) (by kernel_rfl) (by kernel_rfl) (fun w => (by kernel_rfl)) ?_
  refine fq 109 (.bool true) (by kernel_rfl) (by kernel_rfl) (by kernel_rfl) (by kernel_rfl) (fun w => (by kernel_rfl)) ?_
  refine fq 110 (.bool true) (by kernel_rfl) (by kernel_rfl) (by kernel_rfl) (by kernel_rfl) (fun w => (by kernel_rfl)) ?_
  refine fq 111 (.slice (some ⟨O, 0, none⟩) 1 1) (by kernel_rfl) (by kernel_rfl) (by kernel_rfl) (by kernel_rfl) (fun w => (by kernel_rfl)) ?_
  refine fq 112 (.int .i64 1) (by kernel_rfl) (by kernel_rfl) (by kernel_rfl) (by kernel_rfl) (fun w => (by kernel_rfl)) ?_
  refine fq 113 (.bool true) (by kernel_rfl) (by kernel_rfl) (by kernel_rfl) (by kernel_rfl) (fun w => (by kernel_rfl)) ?_
  refine fq 114 (.bool true) (by kernel_rfl) (by kernel_rfl) (by kernel_rfl) (by kernel_rfl) (fun w => (by kernel_rfl)) ?_
  refine fq 115 (.bool true) (by kernel_rfl) (by kernel_rfl) (by kernel_rfl) (by kernel_rfl) (fun w => (by kernel_rfl)) ?_
  refine fq 116 (.slice none 0 0) (by kernel_rfl) (by kernel_rfl) (by kernel_rfl) (by kernel_rfl) (fun w => (by kernel_rfl)) ?_
  refine fq 117 (.int .i64 0) (by kernel_rfl) (by kernel_rfl) (by kernel_rfl) (by kernel_rfl) (fun w => (by kernel_rfl)) ?_
  refine fq 118 (.bool true) (by kernel_rfl) (by kernel_rfl) (by kernel_rfl) (by kernel_rfl) (fun w => (by kernel_rfl)) ?_
  refine fq 119 (.bool true) (by kernel_rfl) (by kernel_rfl) (by kernel_rfl) (by kernel_rfl) (fun w => (by kernel_rfl)) ?_
  refine fq 120 (.bool true) (by kernel_rfl) (by kernel_rfl) (by kernel_rfl) (by kernel_rfl) (fun w => (by kernel_rfl)) ?_
  refine fq 121 (.slice (some ⟨O, 0, none⟩) 1 1) (by kernel_rfl) (by kernel_rfl) (by kernel_rfl) (by kernel_rfl) (fun w => (by kernel_rfl)) ?_
  refine fidx 122 89 (.tmp 121) (.const (.int .i64 0)) O 0 1 1 .i64 0 1 0 (by kernel_rfl) (by kernel_rfl) (by kernel_rfl) (by kernel_rfl) (by kernel_rfl) (by kernel_rfl) (by kernel_rfl) Tryz.underlying89 (fun w => (by kernel_rfl)) (by decide) (by decide) (by simp) ?_
  refine fq1 123 (.slice D (24 + tok.length) dc) 30 (.tmp 122) O 0 _ (by kernel_rfl) (by kernel_rfl) (by kernel_rfl) (by kernel_rfl) (by kernel_rfl) (by kernel_rfl) Tryz.underlying30 rfl (fun w hw => cell_on hw.1 HOB.out.lt HOB.out.one0) ?_
  refine fstr 124 (.tmp 123) D (24 + tok.length) dc GB (by kernel_rfl) (by kernel_rfl) (by kernel_rfl) (by kernel_rfl) (by kernel_rfl) (by kernel_rfl) HGL.out (fun w hw => (HRD.out.below hw.1)) ?_
  refine fq 125 (.slice D2 (24 + tok.length) dc2) (by kernel_rfl) (by kernel_rfl) (by kernel_rfl) (by kernel_rfl) (fun w => (by kernel_rfl)) ?_
  refine fstr 126 (.tmp 125) D2 (24 + tok.length) dc2 GB (by kernel_rfl) (by kernel_rfl) (by kernel_rfl) (by kernel_rfl) (by kernel_rfl) (by kernel_rfl) HGL.out (fun w hw => (HRD2.out.below hw.1)) ?_
  refine fqe 127 (.bool ((byt GB).toList == (byt GB).toList)) (.bool true) (by simp) (by kernel_rfl) (by kernel_rfl) (by kernel_rfl) (by kernel_rfl) (fun w => (by kernel_rfl)) ?_
  refine fq 128 (.bool true) (by kernel_rfl) (by kernel_rfl) (by kernel_rfl) (by kernel_rfl) (fun w => (by kernel_rfl)) ?_
  refine fq 129 (.bool true) (by kernel_rfl) (by kernel_rfl) (by kernel_rfl) (by kernel_rfl) (fun w => (by kernel_rfl)) ?_
  refine fq 130 (.pointer (some ⟨gx, 3, none⟩)) (by kernel_rfl) (by kernel_rfl) (by kernel_rfl) (by kernel_rfl) (fun w => (by kernel_rfl)) ?_
  refine fq1 131 (.slice y1.T tok.length y1.tc) 30 (.tmp 130) gx 3 _ (by kernel_rfl) (by kernel_rfl) (by kernel_rfl) (by kernel_rfl) (by kernel_rfl) (by kernel_rfl) Tryz.underlying30 rfl (fun w hw => cell_on hw.1 HGX.out.lt f3x) ?_
  refine fstr 132 (.tmp 131) y1.T tok.length y1.tc tok (by kernel_rfl) (by kernel_rfl) (by kernel_rfl) (by kernel_rfl) (by kernel_rfl) (by kernel_rfl) rfl (fun w hw => (HT1.out.below hw.1)) ?_
  refine fq 133 (.slice TA tok.length tcap) (by kernel_rfl) (by kernel_rfl) (by kernel_rfl) (by kernel_rfl) (fun w => (by kernel_rfl)) ?_
  refine fstr 134 (.tmp 133) TA tok.length tcap tok (by kernel_rfl) (by kernel_rfl) (by kernel_rfl) (by kernel_rfl) (by kernel_rfl) (by kernel_rfl) rfl (fun w hw => (HTA.out.below hw.1)) ?_
  refine fqe 135 (.bool ((byt tok).toList == (byt tok).toList)) (.bool true) (by simp) (by kernel_rfl) (by kernel_rfl) (by kernel_rfl) (by kernel_rfl) (fun w => (by kernel_rfl)) ?_
  refine fq 136 (.bool true) (by kernel_rfl) (by kernel_rfl) (by kernel_rfl) (by kernel_rfl) (fun w => (by kernel_rfl)) ?_
  refine fq 137 (.bool true) (by kernel_rfl) (by kernel_rfl) (by kernel_rfl) (by kernel_rfl) (fun w => (by kernel_rfl)) ?_
  refine fq 138 (.pointer (some ⟨gy, 3, none⟩)) (by kernel_rfl) (by kernel_rfl) (by kernel_rfl) (by kernel_rfl) (fun w => (by kernel_rfl)) ?_
  refine fq1 139 (.slice y2.T tok.length y2.tc) 30 (.tmp 138) gy 3 _ (by kernel_rfl) (by kernel_rfl) (by kernel_rfl) (by kernel_rfl) (by kernel_rfl) (by kernel_rfl) Tryz.underlying30 rfl (fun w hw => cell_on hw.1 HGY.out.lt f3y) ?_
  refine fstr 140 (.tmp 139) y2.T tok.length y2.tc tok (by kernel_rfl) (by kernel_rfl) (by kernel_rfl) (by kernel_rfl) (by kernel_rfl) (by kernel_rfl) rfl (fun w hw => (HT2.out.below hw.1)) ?_
  refine fq 141 (.slice TA tok.length tcap) (by kernel_rfl) (by kernel_rfl) (by kernel_rfl) (by kernel_rfl) (fun w => (by kernel_rfl)) ?_
  refine fstr 142 (.tmp 141) TA tok.length tcap tok (by kernel_rfl) (by kernel_rfl) (by kernel_rfl) (by kernel_rfl) (by kernel_rfl) (by kernel_rfl) rfl (fun w hw => (HTA.out.below hw.1)) ?_
  refine fqe 143 (.bool ((byt tok).toList == (byt tok).toList)) (.bool true) (by simp) (by kernel_rfl) (by kernel_rfl) (by kernel_rfl) (by kernel_rfl) (fun w => (by kernel_rfl)) ?_
  refine fq 144 (.bool true) (by kernel_rfl) (by kernel_rfl) (by kernel_rfl) (by kernel_rfl) (fun w => (by kernel_rfl)) ?_
  refine fend [60] (by kernel_rfl) (by kernel_rfl) ?_
  intro w10 hw10 _
  refine tval (some 8) (.bool true) w10 (by kernel_rfl) (by kernel_rfl) (by kernel_rfl) ?_
  refine tend ?_
  go_simp
  refine (show ∀ (a : Act) (w : World), Code.wp _ _ _ a w → _ from by assumption) _ _ ?_
  go_wp2_with fail
  go_ret
  exact ⟨rfl, HB9.out.trans (hw10.mono HB9.out.size)⟩
  -- ]]a7
  -- ]]a6
  -- ]]a5
  -- ]]a4
  -- ]]a3
  -- ]]a2
  -- ]]a1
end Go.Proofs.YtbcagdjfegobnaaGreat
