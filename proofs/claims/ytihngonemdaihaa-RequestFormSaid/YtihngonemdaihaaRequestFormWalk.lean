/- The walk of the law RequestForm: a body ahead of its fields, fields that come twice, a request that ends too early, and one without a path are refused. -/
import Derived.Test.YtihngonemdaihaaRqTwo
import Derived.Test.YtihngonemdaihaaRqFlow
namespace Go.Proofs.Ytihngonemdaihaa
open Go.ChangeShapes Go.WideShapes Go.ChangeAt Go.RowKit
set_option linter.unusedVariables false

theorem own65 (W : World) (base H : Nat) (hb : base ≤ H) (hH : W.heap.size = H) : OwnX u8c 1 (W.alloc (.cells #[.int .u8 0, .int .u8 1, .int .u8 65] 5)) base 5 (some ⟨H, 0, none⟩) 3 [0, 1, 65] := by
  subst hH
  have h := (Blk.new W 5 #[.int .u8 0, .int .u8 1, .int .u8 65]).own (base := base) (n := 3) (size := 1) hb (by simp) (by decide)
  unfold OwnX
  simpa [u8c] using h
/-- Rows that begin otherwise lie in two blocks. -/
theorem rows_apart {w : World} {b1 b2 : Nat} {E1 E2 : TypeId} {A B : Option Addr} {c d : Nat} {xs ys : List UInt8} {xs' ys' : List UInt8} (h : OwnX u8c 1 w b1 E1 A c xs') (k : OwnX u8c 1 w b2 E2 B d ys') (hx : xs' = 0 :: xs) (hy : ys' = 1 :: ys) : A.map (·.block) ≠ B.map (·.block) := by
  subst hx; subst hy
  obtain ⟨q, o, rfl, hc⟩ := h.rd.2 (by simp)
  obtain ⟨q', o', rfl, hc'⟩ := k.rd.2 (by simp)
  have e0 : o = 0 := by
    rcases h.2 with ⟨h1, _⟩ | ⟨q2, cap, cur, hv, _⟩
    · cases h1
    · injection hv with h1; injection h1 with h1; injection h1
  have e1 : o' = 0 := by
    rcases k.2 with ⟨h1, _⟩ | ⟨q2, cap, cur, hv, _⟩
    · cases h1
    · injection hv with h1; injection h1 with h1; injection h1
  subst e0; subst e1
  intro e
  have e2 : q = q' := by simpa using e
  subst e2
  have h1 := hc 0 (.int .u8 0) (by simp [u8c])
  have h2 := hc' 0 (.int .u8 1) (by simp [u8c])
  rw [h1] at h2
  simp at h2
theorem OwnX.bv {w : World} {base : Nat} {E : TypeId} {A : Option Addr} {c n : Nat} {bs : List UInt8} (h : OwnX u8c 1 w base E A c bs) (hn : bs.length = n) : BV w A n c bs :=
  ⟨hn, by have := h.cap; omega, h.cap.2, h.rd.b⟩
theorem RdX.fcutR {w : World} {A : Option Addr} {xs : List Fld} (h : RdX fcells 2 w A xs) {k cap : Nat} (hk : k ≤ xs.length) (hc : xs.length ≤ cap) : RdX fcells 2 w (if cap = k then A else A.map (·.add (k * 2))) (xs.drop k) := RdX.cut (f := fcells) (m := 2) (fun _ => rfl) h hk hc

set_option maxRecDepth 100000 in
set_option maxHeartbeats 8000000 in
theorem requestForm_walk (RA : Option Addr) (len cap : Nat) (rs : List RawD) (s : ByteArray) (n wh : Int) (w : World) (h : IsRaws w RA len cap rs) (hs : s.size ≤ maxLen) (hn : (Lit.int .i64 n).wf = true) (hwh : (Lit.int .i64 wh).wf = true) :
    Calls Try.prog 5 #[.slice RA len cap, .string s, .int .i64 n, .int .i64 wh] w fun e w' => e = .returned (.bool true) ∧ Below w.heap.size w w' := by
  obtain ⟨n0, n1⟩ := i64_bounds' hn
  obtain ⟨v0, v1⟩ := i64_bounds' hwh
  have HRS := Lib.hid h
  have hs9 : s.size ≤ 9223372036854775807 := hs
  clear hn h hs hwh
  go_enter Try.func5, Try.ntmps5
  go_wp2_with fail
  refine (requestOf_any _ RA len cap rs HRS.out s hs9 n n0 n1).mono ?_
  rintro e w1 ⟨L, m, cL, fs, BA, bn, bc, body, rfl, hF, hm, hmc, hcL, hrd, hB, hbn, hb1⟩
  have HF := Lib.hid hF
  have HM := Lib.hid hm
  have HRD := Lib.hid hrd
  have HB := Lib.hid hB
  have HB1 := Lib.hid hb1
  have hbl : body.length ≤ 200 := by rw [hB.hn]; exact hbn
  have hfl : fs.length ≤ 8 := hF.ok.few
  have hm8 : m ≤ 8 := by omega
  clear hF hm hrd hB hb1
  go_upto_region 2 with (fail)
  obtain ⟨gR, hgR⟩ : ∃ q, w1.heap.size = q := ⟨_, rfl⟩
  refine wp_world (fun w' => Blk w' gR 26 #[.slice L m cL, .slice BA bn bc] ∧ RdX fcells 2 w' L fs ∧ BV w' BA bn bc body ∧ Below w.heap.size w w') ⟨Blk.newR hgR, RdX.below HRD.out ((Below.refl _ _).alloc (Nat.le_refl _) _), HB.out.below ((Below.refl _ _).alloc (Nat.le_refl _) _), HB1.out.alloc HB1.out.size _⟩ ?_
  try rw [hgR]
  clear hgR HRD HB HB1
  rintro w2 ⟨hR2, hrd2, hB2, hb2⟩
  have HR2 := Lib.hid hR2
  have HRD2 := Lib.hid hrd2
  have HBV2 := Lib.hid hB2
  have HB2 := Lib.hid hb2
  clear hR2 hrd2 hB2 hb2
  have FR := HR2.out.two
  go_wp2_with fail
  refine (rWrite_new _ 0 (by decide) false L m cL fs HM.out hmc hcL HRD2.out HF.out BA bn bc body HBV2.out hbn).mono ?_
  rintro e w4 ⟨A, n', c, A1, n1', c1, A2, n2, c2, T, told, S, rfl, hT8, hS, hn2, hn2p, hah, hd1, hd2, hV4, hX4, hb4⟩
  obtain rfl : T = 0 := hah rfl
  have hd0 : fdecR 0 [] S = (fs, 0) := by rcases hd2 with ⟨_, h⟩ | ⟨h, _⟩; · exact h
                                          · exact absurd h (by decide)
  have HR4 := Lib.hid (HR2.out.carry hb4)
  have HRD4 := Lib.hid (RdX.below HRD2.out hb4)
  have HB4 := Lib.hid (HB2.out.trans (hb4.mono HB2.out.size))
  have HD0 := Lib.hid hd0
  have HX4 := Lib.hid hX4
  clear hah hd1 hd2 hd0 hV4 hX4 hb4 HR2 HRD2 HBV2 HB2 FR
  go_upto_region 3 with (fail)
  refine wp_world (fun w' => Blk w' gR 26 #[.slice L m cL, .slice BA bn bc] ∧ RdX fcells 2 w' L fs ∧ BV w' A2 n2 c2 (frmB 1 S ++ bodF body) ∧ Below w.heap.size w w') ⟨HR4.out.alloc _, RdX.below HRD4.out ((Below.refl _ _).alloc (Nat.le_refl _) _), HX4.out.below ((Below.refl _ _).alloc (Nat.le_refl _) _), HB4.out.alloc HB4.out.size _⟩ ?_
  clear HR4 HRD4 HX4 HB4
  rintro w5 ⟨hR5, hrd5, hX5, hb5⟩
  have HR5 := Lib.hid hR5
  have HRD5 := Lib.hid hrd5
  have HX5 := Lib.hid hX5
  have HB5 := Lib.hid hb5
  have hal := hX5.hn
  have HAL := Lib.hid hal
  have hnc2 : n2 ≤ c2 := hX5.hnc
  have hcm2 : c2 ≤ 9223372036854775807 := hX5.hcm
  clear hal hR5 hrd5 hX5 hb5
  obtain ⟨k_, HK, k0, k1⟩ := mod_ex wh 4 (by decide)
  go_wp2_with fail
  refine (picked_at wh 4 k_ v0 v1 (by decide) (by decide) HK _).mono ?_
  rintro e w' ⟨rfl, rfl⟩
  go_upto_region 4 with (fail)
  obtain ⟨p, rfl⟩ : ∃ p, n2 = p + 1 := ⟨n2 - 1, by omega⟩
  have hE : ∃ E : Int, (E = if k_ < 2 then 3 else 4) := ⟨_, rfl⟩
  obtain ⟨E, hE⟩ := hE
  have HE := Lib.hid hE
  clear hE
  have hk : k_ = 0 ∨ k_ = 1 ∨ k_ = 2 ∨ k_ = 3 := by omega
  go_cut [15] (fun s15 wx => ∃ (X : Option Addr) (m d : Nat) (bs : List UInt8), s15 = .slice X m d ∧ BV wx X m d bs ∧ m ≤ 800 ∧ feedGo S fs 0 true 3 ⟨bs, [], false, [], false⟩ = some (rdr0, E) ∧ Below w5.heap.size w5 wx)
  case first =>
    -- [[r4
    have hp1 : p ≤ c2 := by omega
    have hpl : p = (frmB 1 S ++ bodF body).length - 1 := by rw [HAL.out]; rfl
    have HPL := Lib.hid hpl
    have hwr1 : IntKind.i64.wrap (((p + 1 : Nat) : Int) - 1) = (p : Int) := by rw [IntKind.wrap_i64]; omega
    have hpif : (if (p : Int) < 0 then (0 : Int) else (p : Int)) = (p : Int) := if_neg (by omega)
    clear HK k0 k1 hpl HRS HF HM
    rcases hk with rfl | rfl | rfl | rfl
    -- [[c0
    · -- case 0
      have hE := HE.out
      simp at hE
      subst hE
      refine wp_flow (fun k => !(k == 7 || k == 14 || k == 16 || k == 17 || k == 18)) (fun k => k == 0 || k == 2 || k == 3 || k == 5) 85 [0, 1, 2, 3, 4, 5, 6, 8, 9, 10, 11, 12, 13, 15] (fun w' => Below w5.heap.size w5 w') (fun k a v w' => (k = 0 → ∃ g, v = .slice (some ⟨g, 0, none⟩) 3 3 ∧ OwnX u8c 1 w' w5.heap.size 5 (some ⟨g, 0, none⟩) 3 [0, 1, 65]) ∧ (k = 2 → ∃ A c, v = .slice A (3 + (p + 1)) c ∧ OwnX u8c 1 w' w5.heap.size 5 A c ([0, 1, 65] ++ (frmB 1 S ++ bodF body)) ∧ 3 + (p + 1) ≤ c ∧ c ≤ 9223372036854775807) ∧ (k = 3 → ∃ g, v = .slice (some ⟨g, 0, none⟩) 0 0 ∧ OwnX u8c 1 w' w5.heap.size 5 (some ⟨g, 0, none⟩) 0 []) ∧ (k = 5 → ∃ A c, v = .slice A (0 + (p + 1)) c ∧ OwnX u8c 1 w' w5.heap.size 5 A c ([] ++ (frmB 1 S ++ bodF body)) ∧ 0 + (p + 1) ≤ c ∧ c ≤ 9223372036854775807)) (by kernel_rfl) ?hflB ?hpuB ?hksB (fun _ _ _ _ _ h => h) (by kernel_rfl) ?hst ?hC ?_
      case hflB => kernel_rfl
      case hpuB => kernel_rfl
      case hksB => kernel_rfl
      case hst => exact ⟨fun w0 w1 h1 hb => h1.trans (hb.mono h1.size), fun k a v w0 w1 hW hb => ⟨fun e => (fun hp => by obtain ⟨g, e1, e2⟩ := hp; exact ⟨g, e1, e2.carry hb⟩) (hW.1 e), fun e => (fun hp => by obtain ⟨A, c, e1, e2, e3⟩ := hp; exact ⟨A, c, e1, e2.carry hb, e3⟩) (hW.2.1 e), fun e => (fun hp => by obtain ⟨g, e1, e2⟩ := hp; exact ⟨g, e1, e2.carry hb⟩) (hW.2.2.1 e), fun e => (fun hp => by obtain ⟨A, c, e1, e2, e3⟩ := hp; exact ⟨A, c, e1, e2.carry hb, e3⟩) (hW.2.2.2 e)⟩, fun k a b v w0 _ h => h⟩
      case hC => exact (Below.refl _ _).drew
      refine fnew 33 (fun w => .slice (some ⟨w.heap.size, 0, none⟩) 3 3) (fun w => w.alloc (.cells #[.int .u8 0, .int .u8 1, .int .u8 65] 5)) (by kernel_rfl) (by kernel_rfl) (by kernel_rfl) (by kernel_rfl) (fun w => (by kernel_rfl)) (fun w hw => ⟨⟨fun _ => ⟨w.heap.size, rfl, own65 w _ _ hw.1.size rfl⟩, fun e => absurd e (by decide), fun e => absurd e (by decide), fun e => absurd e (by decide)⟩, hw.1.alloc hw.1.size _, (Below.refl _ _).alloc (Nat.le_refl _) _⟩) ?_
      rintro v ⟨w', hw', hW⟩
      obtain ⟨g33, rfl, h4⟩ := hW.1 rfl
      clear h4 hW hw' w'
      refine fq 34 (.slice A2 (p + 1) c2) (by kernel_rfl) (by kernel_rfl) (by kernel_rfl) (by kernel_rfl) (fun w => (by kernel_rfl)) ?_
      refine fappF 35 u8c 1 u8c_one (.tmp 33) (.tmp 34) _ (by kernel_rfl) (by kernel_rfl) (by kernel_rfl) (by kernel_rfl) (by kernel_rfl) w5.heap.size 5 _ 1 Try.underlying24 u8_infoP rfl (by decide) (by decide) g33 3 [0, 1, 65] rfl rfl (by kernel_rfl) A2 (p + 1) c2 (frmB 1 S ++ bodF body) (by kernel_rfl) HAL.out (by omega) (by omega) (fun W hW => ?ap2) ?_
      case ap2 =>
        obtain ⟨g_, e_, hO⟩ := (hW.2 _ List.mem_cons_self (by kernel_rfl)).1 rfl
        obtain rfl : g33 = g_ := by injection e_ with e_; simpa using e_
        exact ⟨hO, (by intro j v hj; obtain ⟨b, off, e, hc⟩ := hO.rd.2 (by decide); injection e with e; injection e with e1 e2; subst e1; subst e2; have := hc j v hj; rwa [Nat.zero_add] at this), RdX.below HX5.out.rd.x hW.1, hW.1.size, fun A1 c1 w1 h1 h2 h3 h4 => ⟨⟨fun e => absurd e (by decide), fun _ => ⟨A1, c1, rfl, h1, h2, h3⟩, fun e => absurd e (by decide), fun e => absurd e (by decide)⟩, hW.1.trans (h4.mono hW.1.size), h4⟩⟩
      rintro v ⟨w', hw', hWv⟩
      obtain ⟨A6, c6, rfl, hOA6, hcA6, hmA6⟩ := hWv.2.1 rfl
      clear hOA6 hWv hw' w'
      refine fnew 36 (fun w => .slice (some ⟨w.heap.size, 0, none⟩) 0 0) (fun w => w.alloc (.cells #[] 5)) (by kernel_rfl) (by kernel_rfl) (by kernel_rfl) (by kernel_rfl) (fun w => (by kernel_rfl)) (fun w hw => ⟨⟨fun e => absurd e (by decide), fun e => absurd e (by decide), fun _ => ⟨w.heap.size, rfl, OwnX.madeH u8c 1 w _ _ hw.1.size rfl⟩, fun e => absurd e (by decide)⟩, hw.1.alloc hw.1.size _, (Below.refl _ _).alloc (Nat.le_refl _) _⟩) ?_
      rintro v ⟨w', hw', hW⟩
      obtain ⟨g36, rfl, h4⟩ := hW.2.2.1 rfl
      clear h4 hW hw' w'
      refine fq 37 (.slice A2 (p + 1) c2) (by kernel_rfl) (by kernel_rfl) (by kernel_rfl) (by kernel_rfl) (fun w => (by kernel_rfl)) ?_
      refine fappF 38 u8c 1 u8c_one (.tmp 36) (.tmp 37) _ (by kernel_rfl) (by kernel_rfl) (by kernel_rfl) (by kernel_rfl) (by kernel_rfl) w5.heap.size 5 _ 1 Try.underlying24 u8_infoP rfl (by decide) (by decide) g36 0 [] rfl rfl (by kernel_rfl) A2 (p + 1) c2 (frmB 1 S ++ bodF body) (by kernel_rfl) HAL.out (by omega) (by omega) (fun W hW => ?ap5) ?_
      case ap5 =>
        obtain ⟨g_, e_, hO⟩ := (hW.2 _ List.mem_cons_self (by kernel_rfl)).2.2.1 rfl
        obtain rfl : g36 = g_ := by injection e_ with e_; simpa using e_
        exact ⟨hO, (by intro j v hj; simp at hj), RdX.below HX5.out.rd.x hW.1, hW.1.size, fun A1 c1 w1 h1 h2 h3 h4 => ⟨⟨fun e => absurd e (by decide), fun e => absurd e (by decide), fun e => absurd e (by decide), fun _ => ⟨A1, c1, rfl, h1, h2, h3⟩⟩, hW.1.trans (h4.mono hW.1.size), h4⟩⟩
      rintro v ⟨w', hw', hWv⟩
      obtain ⟨A7, c7, rfl, hOA7, hcA7, hmA7⟩ := hWv.2.2.2 rfl
      clear hOA7 hWv hw' w'
      refine fq 39 (.slice A2 (p + 1) c2) (by kernel_rfl) (by kernel_rfl) (by kernel_rfl) (by kernel_rfl) (fun w => (by kernel_rfl)) ?_
      refine fq 41 (.slice A2 (p + 1) c2) (by kernel_rfl) (by kernel_rfl) (by kernel_rfl) (by kernel_rfl) (fun w => (by kernel_rfl)) ?_
      refine fq 42 (.slice A2 (p + 1) c2) (by kernel_rfl) (by kernel_rfl) (by kernel_rfl) (by kernel_rfl) (fun w => (by kernel_rfl)) ?_
      refine fq 43 (.int .i64 ((p + 1 : Nat) : Int)) (by kernel_rfl) (by kernel_rfl) (by kernel_rfl) (by kernel_rfl) (fun w => (by kernel_rfl)) ?_
      refine fqe 44 (.int .i64 (IntKind.i64.wrap (((p + 1 : Nat) : Int) - 1))) (.int .i64 (p : Int)) (by rw [hwr1]) (by kernel_rfl) (by kernel_rfl) (by kernel_rfl) (by kernel_rfl) (fun w => (by kernel_rfl)) ?_
      refine fqe 45 (.int .i64 (if (p : Int) < 0 then 0 else (p : Int))) (.int .i64 (p : Int)) (by rw [hpif]) (by kernel_rfl) (by kernel_rfl) (by kernel_rfl) (by kernel_rfl) (fun w => (by kernel_rfl)) ?_
      refine fslh 46 24 (.tmp 41) (.tmp 45) A2 (p + 1) c2 p .i64 1 (by kernel_rfl) (by kernel_rfl) (by kernel_rfl) (by kernel_rfl) (by kernel_rfl) (by kernel_rfl) (by kernel_rfl) Try.underlying24 (fun w => (by kernel_rfl)) hp1 ?_
      refine fq 48 (.int .i64 0) (by kernel_rfl) (by kernel_rfl) (by kernel_rfl) (by kernel_rfl) (fun w => (by kernel_rfl)) ?_
      refine fend [7, 14, 16, 17, 18] (by kernel_rfl) (by kernel_rfl) ?_
      intro w6 hw6 hF
      obtain ⟨A6_, c6_, e6, hO6, hc6, hm6⟩ := (hF _ (List.mem_cons_of_mem _ (List.mem_cons_of_mem _ List.mem_cons_self))).2.1 rfl
      obtain ⟨rfl, rfl⟩ : A6 = A6_ ∧ c6 = c6_ := by injection e6 with e1 e2 e3; exact ⟨e1, e3⟩
      obtain ⟨A7_, c7_, e7, hO7, hc7, hm7⟩ := (hF _ List.mem_cons_self).2.2.2 rfl
      obtain ⟨rfl, rfl⟩ : A7 = A7_ ∧ c7 = c7_ := by injection e7 with e1 e2 e3; exact ⟨e1, e3⟩
      clear hF e6 e7
      refine tapp 40 u8c 1 u8c_one (.tmp 38) (.tmp 39) _ (by kernel_rfl) (by kernel_rfl) (by kernel_rfl) w5.heap.size 5 _ 1 Try.underlying24 u8_infoP rfl (by decide) (by decide) A7 (0 + (p + 1)) c7 ([] ++ (frmB 1 S ++ bodF body)) (by kernel_rfl) (by rw [List.nil_append, HAL.out, Nat.zero_add]) hO7 A2 (p + 1) c2 (frmB 1 S ++ bodF body) (by kernel_rfl) HAL.out (RdX.below HX5.out.rd.x hw6) ([] ++ (frmB 1 S ++ bodF body) ++ (frmB 1 S ++ bodF body)) rfl (0 + (p + 1) + (p + 1)) rfl (by omega) hw6.size ?_
      intro A8 c8 w8 hO8 hc8 hm8 hb8 hg8 hl8
      have hb58 : Below w5.heap.size w5 w8 := hw6.trans hb8
      have hO68 : OwnX u8c 1 w8 w5.heap.size 5 A6 c6 ([0, 1, 65] ++ (frmB 1 S ++ bodF body)) := hO6.grown hg8 (.inr (rows_apart hO6 hO7 (xs := 1 :: 65 :: (frmB 1 S ++ bodF body)) rfl (ys := (encB S.length ++ S) ++ bodF body) (by unfold frmB; rfl)))
      refine tval (some 47) (.slice (some ⟨w8.heap.size, 0, none⟩) 4 4) (w8.alloc (.cells #[.slice A6 (3 + (p + 1)) c6, .slice A8 (0 + (p + 1) + (p + 1)) c8, .slice A2 p c2, .slice none 0 0] 24)) (by kernel_rfl) (by kernel_rfl) (by kernel_rfl) ?_
      refine tval (some 49) (.pointer (some ⟨w8.heap.size, 0, none⟩)) (w8.alloc (.cells #[.slice A6 (3 + (p + 1)) c6, .slice A8 (0 + (p + 1) + (p + 1)) c8, .slice A2 p c2, .slice none 0 0] 24)) (by kernel_rfl) (by kernel_rfl) (by kernel_rfl) ?_
      refine tloadQ (some 50) (.slice A6 (3 + (p + 1)) c6) 24 (.tmp 49) w8.heap.size 0 _ (by kernel_rfl) (by kernel_rfl) (by kernel_rfl) (by kernel_rfl) Try.underlying24 rfl (by rw [(Blk.new w8 _ _).cell]; rfl) ?_
      refine tval (some 15) (.slice A6 (3 + (p + 1)) c6) (w8.alloc (.cells #[.slice A6 (3 + (p + 1)) c6, .slice A8 (0 + (p + 1) + (p + 1)) c8, .slice A2 p c2, .slice none 0 0] 24)) (by kernel_rfl) (by kernel_rfl) (by kernel_rfl) ?_
      refine tend ?_
      go_wp2_with fail
      try go_meet
      exact ⟨_, _, _, _, rfl, (OwnX.bv hO68 (by simp [HAL.out]; omega)).below ((Below.refl _ _).alloc (Nat.le_refl _) _), by omega, feed_ahead S fs _ true 2, hb58.alloc hb58.size _⟩
    -- ]]c0
    -- [[c1
    · -- case 1
      have hE := HE.out
      simp at hE
      subst hE
      refine wp_flow (fun k => !(k == 7 || k == 14 || k == 16 || k == 17 || k == 18)) (fun k => k == 0 || k == 2 || k == 3 || k == 5) 85 [0, 1, 2, 3, 4, 5, 6, 8, 9, 10, 11, 12, 13, 15] (fun w' => Below w5.heap.size w5 w') (fun k a v w' => (k = 0 → ∃ g, v = .slice (some ⟨g, 0, none⟩) 3 3 ∧ OwnX u8c 1 w' w5.heap.size 5 (some ⟨g, 0, none⟩) 3 [0, 1, 65]) ∧ (k = 2 → ∃ A c, v = .slice A (3 + (p + 1)) c ∧ OwnX u8c 1 w' w5.heap.size 5 A c ([0, 1, 65] ++ (frmB 1 S ++ bodF body)) ∧ 3 + (p + 1) ≤ c ∧ c ≤ 9223372036854775807) ∧ (k = 3 → ∃ g, v = .slice (some ⟨g, 0, none⟩) 0 0 ∧ OwnX u8c 1 w' w5.heap.size 5 (some ⟨g, 0, none⟩) 0 []) ∧ (k = 5 → ∃ A c, v = .slice A (0 + (p + 1)) c ∧ OwnX u8c 1 w' w5.heap.size 5 A c ([] ++ (frmB 1 S ++ bodF body)) ∧ 0 + (p + 1) ≤ c ∧ c ≤ 9223372036854775807)) (by kernel_rfl) ?hflB ?hpuB ?hksB (fun _ _ _ _ _ h => h) (by kernel_rfl) ?hst ?hC ?_
      case hflB => kernel_rfl
      case hpuB => kernel_rfl
      case hksB => kernel_rfl
      case hst => exact ⟨fun w0 w1 h1 hb => h1.trans (hb.mono h1.size), fun k a v w0 w1 hW hb => ⟨fun e => (fun hp => by obtain ⟨g, e1, e2⟩ := hp; exact ⟨g, e1, e2.carry hb⟩) (hW.1 e), fun e => (fun hp => by obtain ⟨A, c, e1, e2, e3⟩ := hp; exact ⟨A, c, e1, e2.carry hb, e3⟩) (hW.2.1 e), fun e => (fun hp => by obtain ⟨g, e1, e2⟩ := hp; exact ⟨g, e1, e2.carry hb⟩) (hW.2.2.1 e), fun e => (fun hp => by obtain ⟨A, c, e1, e2, e3⟩ := hp; exact ⟨A, c, e1, e2.carry hb, e3⟩) (hW.2.2.2 e)⟩, fun k a b v w0 _ h => h⟩
      case hC => exact (Below.refl _ _).drew
      refine fnew 33 (fun w => .slice (some ⟨w.heap.size, 0, none⟩) 3 3) (fun w => w.alloc (.cells #[.int .u8 0, .int .u8 1, .int .u8 65] 5)) (by kernel_rfl) (by kernel_rfl) (by kernel_rfl) (by kernel_rfl) (fun w => (by kernel_rfl)) (fun w hw => ⟨⟨fun _ => ⟨w.heap.size, rfl, own65 w _ _ hw.1.size rfl⟩, fun e => absurd e (by decide), fun e => absurd e (by decide), fun e => absurd e (by decide)⟩, hw.1.alloc hw.1.size _, (Below.refl _ _).alloc (Nat.le_refl _) _⟩) ?_
      rintro v ⟨w', hw', hW⟩
      obtain ⟨g33, rfl, h4⟩ := hW.1 rfl
      clear h4 hW hw' w'
      refine fq 34 (.slice A2 (p + 1) c2) (by kernel_rfl) (by kernel_rfl) (by kernel_rfl) (by kernel_rfl) (fun w => (by kernel_rfl)) ?_
      refine fappF 35 u8c 1 u8c_one (.tmp 33) (.tmp 34) _ (by kernel_rfl) (by kernel_rfl) (by kernel_rfl) (by kernel_rfl) (by kernel_rfl) w5.heap.size 5 _ 1 Try.underlying24 u8_infoP rfl (by decide) (by decide) g33 3 [0, 1, 65] rfl rfl (by kernel_rfl) A2 (p + 1) c2 (frmB 1 S ++ bodF body) (by kernel_rfl) HAL.out (by omega) (by omega) (fun W hW => ?ap2) ?_
      case ap2 =>
        obtain ⟨g_, e_, hO⟩ := (hW.2 _ List.mem_cons_self (by kernel_rfl)).1 rfl
        obtain rfl : g33 = g_ := by injection e_ with e_; simpa using e_
        exact ⟨hO, (by intro j v hj; obtain ⟨b, off, e, hc⟩ := hO.rd.2 (by decide); injection e with e; injection e with e1 e2; subst e1; subst e2; have := hc j v hj; rwa [Nat.zero_add] at this), RdX.below HX5.out.rd.x hW.1, hW.1.size, fun A1 c1 w1 h1 h2 h3 h4 => ⟨⟨fun e => absurd e (by decide), fun _ => ⟨A1, c1, rfl, h1, h2, h3⟩, fun e => absurd e (by decide), fun e => absurd e (by decide)⟩, hW.1.trans (h4.mono hW.1.size), h4⟩⟩
      rintro v ⟨w', hw', hWv⟩
      obtain ⟨A6, c6, rfl, hOA6, hcA6, hmA6⟩ := hWv.2.1 rfl
      clear hOA6 hWv hw' w'
      refine fnew 36 (fun w => .slice (some ⟨w.heap.size, 0, none⟩) 0 0) (fun w => w.alloc (.cells #[] 5)) (by kernel_rfl) (by kernel_rfl) (by kernel_rfl) (by kernel_rfl) (fun w => (by kernel_rfl)) (fun w hw => ⟨⟨fun e => absurd e (by decide), fun e => absurd e (by decide), fun _ => ⟨w.heap.size, rfl, OwnX.madeH u8c 1 w _ _ hw.1.size rfl⟩, fun e => absurd e (by decide)⟩, hw.1.alloc hw.1.size _, (Below.refl _ _).alloc (Nat.le_refl _) _⟩) ?_
      rintro v ⟨w', hw', hW⟩
      obtain ⟨g36, rfl, h4⟩ := hW.2.2.1 rfl
      clear h4 hW hw' w'
      refine fq 37 (.slice A2 (p + 1) c2) (by kernel_rfl) (by kernel_rfl) (by kernel_rfl) (by kernel_rfl) (fun w => (by kernel_rfl)) ?_
      refine fappF 38 u8c 1 u8c_one (.tmp 36) (.tmp 37) _ (by kernel_rfl) (by kernel_rfl) (by kernel_rfl) (by kernel_rfl) (by kernel_rfl) w5.heap.size 5 _ 1 Try.underlying24 u8_infoP rfl (by decide) (by decide) g36 0 [] rfl rfl (by kernel_rfl) A2 (p + 1) c2 (frmB 1 S ++ bodF body) (by kernel_rfl) HAL.out (by omega) (by omega) (fun W hW => ?ap5) ?_
      case ap5 =>
        obtain ⟨g_, e_, hO⟩ := (hW.2 _ List.mem_cons_self (by kernel_rfl)).2.2.1 rfl
        obtain rfl : g36 = g_ := by injection e_ with e_; simpa using e_
        exact ⟨hO, (by intro j v hj; simp at hj), RdX.below HX5.out.rd.x hW.1, hW.1.size, fun A1 c1 w1 h1 h2 h3 h4 => ⟨⟨fun e => absurd e (by decide), fun e => absurd e (by decide), fun e => absurd e (by decide), fun _ => ⟨A1, c1, rfl, h1, h2, h3⟩⟩, hW.1.trans (h4.mono hW.1.size), h4⟩⟩
      rintro v ⟨w', hw', hWv⟩
      obtain ⟨A7, c7, rfl, hOA7, hcA7, hmA7⟩ := hWv.2.2.2 rfl
      clear hOA7 hWv hw' w'
      refine fq 39 (.slice A2 (p + 1) c2) (by kernel_rfl) (by kernel_rfl) (by kernel_rfl) (by kernel_rfl) (fun w => (by kernel_rfl)) ?_
      refine fq 41 (.slice A2 (p + 1) c2) (by kernel_rfl) (by kernel_rfl) (by kernel_rfl) (by kernel_rfl) (fun w => (by kernel_rfl)) ?_
      refine fq 42 (.slice A2 (p + 1) c2) (by kernel_rfl) (by kernel_rfl) (by kernel_rfl) (by kernel_rfl) (fun w => (by kernel_rfl)) ?_
      refine fq 43 (.int .i64 ((p + 1 : Nat) : Int)) (by kernel_rfl) (by kernel_rfl) (by kernel_rfl) (by kernel_rfl) (fun w => (by kernel_rfl)) ?_
      refine fqe 44 (.int .i64 (IntKind.i64.wrap (((p + 1 : Nat) : Int) - 1))) (.int .i64 (p : Int)) (by rw [hwr1]) (by kernel_rfl) (by kernel_rfl) (by kernel_rfl) (by kernel_rfl) (fun w => (by kernel_rfl)) ?_
      refine fqe 45 (.int .i64 (if (p : Int) < 0 then 0 else (p : Int))) (.int .i64 (p : Int)) (by rw [hpif]) (by kernel_rfl) (by kernel_rfl) (by kernel_rfl) (by kernel_rfl) (fun w => (by kernel_rfl)) ?_
      refine fslh 46 24 (.tmp 41) (.tmp 45) A2 (p + 1) c2 p .i64 1 (by kernel_rfl) (by kernel_rfl) (by kernel_rfl) (by kernel_rfl) (by kernel_rfl) (by kernel_rfl) (by kernel_rfl) Try.underlying24 (fun w => (by kernel_rfl)) hp1 ?_
      refine fq 48 (.int .i64 1) (by kernel_rfl) (by kernel_rfl) (by kernel_rfl) (by kernel_rfl) (fun w => (by kernel_rfl)) ?_
      refine fend [7, 14, 16, 17, 18] (by kernel_rfl) (by kernel_rfl) ?_
      intro w6 hw6 hF
      obtain ⟨A6_, c6_, e6, hO6, hc6, hm6⟩ := (hF _ (List.mem_cons_of_mem _ (List.mem_cons_of_mem _ List.mem_cons_self))).2.1 rfl
      obtain ⟨rfl, rfl⟩ : A6 = A6_ ∧ c6 = c6_ := by injection e6 with e1 e2 e3; exact ⟨e1, e3⟩
      obtain ⟨A7_, c7_, e7, hO7, hc7, hm7⟩ := (hF _ List.mem_cons_self).2.2.2 rfl
      obtain ⟨rfl, rfl⟩ : A7 = A7_ ∧ c7 = c7_ := by injection e7 with e1 e2 e3; exact ⟨e1, e3⟩
      clear hF e6 e7
      refine tapp 40 u8c 1 u8c_one (.tmp 38) (.tmp 39) _ (by kernel_rfl) (by kernel_rfl) (by kernel_rfl) w5.heap.size 5 _ 1 Try.underlying24 u8_infoP rfl (by decide) (by decide) A7 (0 + (p + 1)) c7 ([] ++ (frmB 1 S ++ bodF body)) (by kernel_rfl) (by rw [List.nil_append, HAL.out, Nat.zero_add]) hO7 A2 (p + 1) c2 (frmB 1 S ++ bodF body) (by kernel_rfl) HAL.out (RdX.below HX5.out.rd.x hw6) ([] ++ (frmB 1 S ++ bodF body) ++ (frmB 1 S ++ bodF body)) rfl (0 + (p + 1) + (p + 1)) rfl (by omega) hw6.size ?_
      intro A8 c8 w8 hO8 hc8 hm8 hb8 hg8 hl8
      have hb58 : Below w5.heap.size w5 w8 := hw6.trans hb8
      have hO68 : OwnX u8c 1 w8 w5.heap.size 5 A6 c6 ([0, 1, 65] ++ (frmB 1 S ++ bodF body)) := hO6.grown hg8 (.inr (rows_apart hO6 hO7 (xs := 1 :: 65 :: (frmB 1 S ++ bodF body)) rfl (ys := (encB S.length ++ S) ++ bodF body) (by unfold frmB; rfl)))
      refine tval (some 47) (.slice (some ⟨w8.heap.size, 0, none⟩) 4 4) (w8.alloc (.cells #[.slice A6 (3 + (p + 1)) c6, .slice A8 (0 + (p + 1) + (p + 1)) c8, .slice A2 p c2, .slice none 0 0] 24)) (by kernel_rfl) (by kernel_rfl) (by kernel_rfl) ?_
      refine tval (some 49) (.pointer (some ⟨w8.heap.size, 1, none⟩)) (w8.alloc (.cells #[.slice A6 (3 + (p + 1)) c6, .slice A8 (0 + (p + 1) + (p + 1)) c8, .slice A2 p c2, .slice none 0 0] 24)) (by kernel_rfl) (by kernel_rfl) (by kernel_rfl) ?_
      refine tloadQ (some 50) (.slice A8 (0 + (p + 1) + (p + 1)) c8) 24 (.tmp 49) w8.heap.size 1 _ (by kernel_rfl) (by kernel_rfl) (by kernel_rfl) (by kernel_rfl) Try.underlying24 rfl (by rw [(Blk.new w8 _ _).cell]; rfl) ?_
      refine tval (some 15) (.slice A8 (0 + (p + 1) + (p + 1)) c8) (w8.alloc (.cells #[.slice A6 (3 + (p + 1)) c6, .slice A8 (0 + (p + 1) + (p + 1)) c8, .slice A2 p c2, .slice none 0 0] 24)) (by kernel_rfl) (by kernel_rfl) (by kernel_rfl) ?_
      refine tend ?_
      go_wp2_with fail
      try go_meet
      exact ⟨_, _, _, _, rfl, (OwnX.bv hO8 (by rw [List.nil_append, List.length_append, HAL.out])).below ((Below.refl _ _).alloc (Nat.le_refl _) _), by omega, feed_twice S body fs (by omega) hbl true 0, hb58.alloc hb58.size _⟩
    -- ]]c1
    -- [[c2
    · -- case 2
      have hE := HE.out
      simp at hE
      subst hE
      refine wp_flow (fun k => !(k == 7 || k == 14 || k == 16 || k == 17 || k == 18)) (fun k => k == 0 || k == 2 || k == 3 || k == 5) 85 [0, 1, 2, 3, 4, 5, 6, 8, 9, 10, 11, 12, 13, 15] (fun w' => Below w5.heap.size w5 w') (fun k a v w' => (k = 0 → ∃ g, v = .slice (some ⟨g, 0, none⟩) 3 3 ∧ OwnX u8c 1 w' w5.heap.size 5 (some ⟨g, 0, none⟩) 3 [0, 1, 65]) ∧ (k = 2 → ∃ A c, v = .slice A (3 + (p + 1)) c ∧ OwnX u8c 1 w' w5.heap.size 5 A c ([0, 1, 65] ++ (frmB 1 S ++ bodF body)) ∧ 3 + (p + 1) ≤ c ∧ c ≤ 9223372036854775807) ∧ (k = 3 → ∃ g, v = .slice (some ⟨g, 0, none⟩) 0 0 ∧ OwnX u8c 1 w' w5.heap.size 5 (some ⟨g, 0, none⟩) 0 []) ∧ (k = 5 → ∃ A c, v = .slice A (0 + (p + 1)) c ∧ OwnX u8c 1 w' w5.heap.size 5 A c ([] ++ (frmB 1 S ++ bodF body)) ∧ 0 + (p + 1) ≤ c ∧ c ≤ 9223372036854775807)) (by kernel_rfl) ?hflB ?hpuB ?hksB (fun _ _ _ _ _ h => h) (by kernel_rfl) ?hst ?hC ?_
      case hflB => kernel_rfl
      case hpuB => kernel_rfl
      case hksB => kernel_rfl
      case hst => exact ⟨fun w0 w1 h1 hb => h1.trans (hb.mono h1.size), fun k a v w0 w1 hW hb => ⟨fun e => (fun hp => by obtain ⟨g, e1, e2⟩ := hp; exact ⟨g, e1, e2.carry hb⟩) (hW.1 e), fun e => (fun hp => by obtain ⟨A, c, e1, e2, e3⟩ := hp; exact ⟨A, c, e1, e2.carry hb, e3⟩) (hW.2.1 e), fun e => (fun hp => by obtain ⟨g, e1, e2⟩ := hp; exact ⟨g, e1, e2.carry hb⟩) (hW.2.2.1 e), fun e => (fun hp => by obtain ⟨A, c, e1, e2, e3⟩ := hp; exact ⟨A, c, e1, e2.carry hb, e3⟩) (hW.2.2.2 e)⟩, fun k a b v w0 _ h => h⟩
      case hC => exact (Below.refl _ _).drew
      refine fnew 33 (fun w => .slice (some ⟨w.heap.size, 0, none⟩) 3 3) (fun w => w.alloc (.cells #[.int .u8 0, .int .u8 1, .int .u8 65] 5)) (by kernel_rfl) (by kernel_rfl) (by kernel_rfl) (by kernel_rfl) (fun w => (by kernel_rfl)) (fun w hw => ⟨⟨fun _ => ⟨w.heap.size, rfl, own65 w _ _ hw.1.size rfl⟩, fun e => absurd e (by decide), fun e => absurd e (by decide), fun e => absurd e (by decide)⟩, hw.1.alloc hw.1.size _, (Below.refl _ _).alloc (Nat.le_refl _) _⟩) ?_
      rintro v ⟨w', hw', hW⟩
      obtain ⟨g33, rfl, h4⟩ := hW.1 rfl
      clear h4 hW hw' w'
      refine fq 34 (.slice A2 (p + 1) c2) (by kernel_rfl) (by kernel_rfl) (by kernel_rfl) (by kernel_rfl) (fun w => (by kernel_rfl)) ?_
      refine fappF 35 u8c 1 u8c_one (.tmp 33) (.tmp 34) _ (by kernel_rfl) (by kernel_rfl) (by kernel_rfl) (by kernel_rfl) (by kernel_rfl) w5.heap.size 5 _ 1 Try.underlying24 u8_infoP rfl (by decide) (by decide) g33 3 [0, 1, 65] rfl rfl (by kernel_rfl) A2 (p + 1) c2 (frmB 1 S ++ bodF body) (by kernel_rfl) HAL.out (by omega) (by omega) (fun W hW => ?ap2) ?_
      case ap2 =>
        obtain ⟨g_, e_, hO⟩ := (hW.2 _ List.mem_cons_self (by kernel_rfl)).1 rfl
        obtain rfl : g33 = g_ := by injection e_ with e_; simpa using e_
        exact ⟨hO, (by intro j v hj; obtain ⟨b, off, e, hc⟩ := hO.rd.2 (by decide); injection e with e; injection e with e1 e2; subst e1; subst e2; have := hc j v hj; rwa [Nat.zero_add] at this), RdX.below HX5.out.rd.x hW.1, hW.1.size, fun A1 c1 w1 h1 h2 h3 h4 => ⟨⟨fun e => absurd e (by decide), fun _ => ⟨A1, c1, rfl, h1, h2, h3⟩, fun e => absurd e (by decide), fun e => absurd e (by decide)⟩, hW.1.trans (h4.mono hW.1.size), h4⟩⟩
      rintro v ⟨w', hw', hWv⟩
      obtain ⟨A6, c6, rfl, hOA6, hcA6, hmA6⟩ := hWv.2.1 rfl
      clear hOA6 hWv hw' w'
      refine fnew 36 (fun w => .slice (some ⟨w.heap.size, 0, none⟩) 0 0) (fun w => w.alloc (.cells #[] 5)) (by kernel_rfl) (by kernel_rfl) (by kernel_rfl) (by kernel_rfl) (fun w => (by kernel_rfl)) (fun w hw => ⟨⟨fun e => absurd e (by decide), fun e => absurd e (by decide), fun _ => ⟨w.heap.size, rfl, OwnX.madeH u8c 1 w _ _ hw.1.size rfl⟩, fun e => absurd e (by decide)⟩, hw.1.alloc hw.1.size _, (Below.refl _ _).alloc (Nat.le_refl _) _⟩) ?_
      rintro v ⟨w', hw', hW⟩
      obtain ⟨g36, rfl, h4⟩ := hW.2.2.1 rfl
      clear h4 hW hw' w'
      refine fq 37 (.slice A2 (p + 1) c2) (by kernel_rfl) (by kernel_rfl) (by kernel_rfl) (by kernel_rfl) (fun w => (by kernel_rfl)) ?_
      refine fappF 38 u8c 1 u8c_one (.tmp 36) (.tmp 37) _ (by kernel_rfl) (by kernel_rfl) (by kernel_rfl) (by kernel_rfl) (by kernel_rfl) w5.heap.size 5 _ 1 Try.underlying24 u8_infoP rfl (by decide) (by decide) g36 0 [] rfl rfl (by kernel_rfl) A2 (p + 1) c2 (frmB 1 S ++ bodF body) (by kernel_rfl) HAL.out (by omega) (by omega) (fun W hW => ?ap5) ?_
      case ap5 =>
        obtain ⟨g_, e_, hO⟩ := (hW.2 _ List.mem_cons_self (by kernel_rfl)).2.2.1 rfl
        obtain rfl : g36 = g_ := by injection e_ with e_; simpa using e_
        exact ⟨hO, (by intro j v hj; simp at hj), RdX.below HX5.out.rd.x hW.1, hW.1.size, fun A1 c1 w1 h1 h2 h3 h4 => ⟨⟨fun e => absurd e (by decide), fun e => absurd e (by decide), fun e => absurd e (by decide), fun _ => ⟨A1, c1, rfl, h1, h2, h3⟩⟩, hW.1.trans (h4.mono hW.1.size), h4⟩⟩
      rintro v ⟨w', hw', hWv⟩
      obtain ⟨A7, c7, rfl, hOA7, hcA7, hmA7⟩ := hWv.2.2.2 rfl
      clear hOA7 hWv hw' w'
      refine fq 39 (.slice A2 (p + 1) c2) (by kernel_rfl) (by kernel_rfl) (by kernel_rfl) (by kernel_rfl) (fun w => (by kernel_rfl)) ?_
      refine fq 41 (.slice A2 (p + 1) c2) (by kernel_rfl) (by kernel_rfl) (by kernel_rfl) (by kernel_rfl) (fun w => (by kernel_rfl)) ?_
      refine fq 42 (.slice A2 (p + 1) c2) (by kernel_rfl) (by kernel_rfl) (by kernel_rfl) (by kernel_rfl) (fun w => (by kernel_rfl)) ?_
      refine fq 43 (.int .i64 ((p + 1 : Nat) : Int)) (by kernel_rfl) (by kernel_rfl) (by kernel_rfl) (by kernel_rfl) (fun w => (by kernel_rfl)) ?_
      refine fqe 44 (.int .i64 (IntKind.i64.wrap (((p + 1 : Nat) : Int) - 1))) (.int .i64 (p : Int)) (by rw [hwr1]) (by kernel_rfl) (by kernel_rfl) (by kernel_rfl) (by kernel_rfl) (fun w => (by kernel_rfl)) ?_
      refine fqe 45 (.int .i64 (if (p : Int) < 0 then 0 else (p : Int))) (.int .i64 (p : Int)) (by rw [hpif]) (by kernel_rfl) (by kernel_rfl) (by kernel_rfl) (by kernel_rfl) (fun w => (by kernel_rfl)) ?_
      refine fslh 46 24 (.tmp 41) (.tmp 45) A2 (p + 1) c2 p .i64 1 (by kernel_rfl) (by kernel_rfl) (by kernel_rfl) (by kernel_rfl) (by kernel_rfl) (by kernel_rfl) (by kernel_rfl) Try.underlying24 (fun w => (by kernel_rfl)) hp1 ?_
      refine fq 48 (.int .i64 2) (by kernel_rfl) (by kernel_rfl) (by kernel_rfl) (by kernel_rfl) (fun w => (by kernel_rfl)) ?_
      refine fend [7, 14, 16, 17, 18] (by kernel_rfl) (by kernel_rfl) ?_
      intro w6 hw6 hF
      obtain ⟨A6_, c6_, e6, hO6, hc6, hm6⟩ := (hF _ (List.mem_cons_of_mem _ (List.mem_cons_of_mem _ List.mem_cons_self))).2.1 rfl
      obtain ⟨rfl, rfl⟩ : A6 = A6_ ∧ c6 = c6_ := by injection e6 with e1 e2 e3; exact ⟨e1, e3⟩
      obtain ⟨A7_, c7_, e7, hO7, hc7, hm7⟩ := (hF _ List.mem_cons_self).2.2.2 rfl
      obtain ⟨rfl, rfl⟩ : A7 = A7_ ∧ c7 = c7_ := by injection e7 with e1 e2 e3; exact ⟨e1, e3⟩
      clear hF e6 e7
      refine tapp 40 u8c 1 u8c_one (.tmp 38) (.tmp 39) _ (by kernel_rfl) (by kernel_rfl) (by kernel_rfl) w5.heap.size 5 _ 1 Try.underlying24 u8_infoP rfl (by decide) (by decide) A7 (0 + (p + 1)) c7 ([] ++ (frmB 1 S ++ bodF body)) (by kernel_rfl) (by rw [List.nil_append, HAL.out, Nat.zero_add]) hO7 A2 (p + 1) c2 (frmB 1 S ++ bodF body) (by kernel_rfl) HAL.out (RdX.below HX5.out.rd.x hw6) ([] ++ (frmB 1 S ++ bodF body) ++ (frmB 1 S ++ bodF body)) rfl (0 + (p + 1) + (p + 1)) rfl (by omega) hw6.size ?_
      intro A8 c8 w8 hO8 hc8 hm8 hb8 hg8 hl8
      have hb58 : Below w5.heap.size w5 w8 := hw6.trans hb8
      have hO68 : OwnX u8c 1 w8 w5.heap.size 5 A6 c6 ([0, 1, 65] ++ (frmB 1 S ++ bodF body)) := hO6.grown hg8 (.inr (rows_apart hO6 hO7 (xs := 1 :: 65 :: (frmB 1 S ++ bodF body)) rfl (ys := (encB S.length ++ S) ++ bodF body) (by unfold frmB; rfl)))
      refine tval (some 47) (.slice (some ⟨w8.heap.size, 0, none⟩) 4 4) (w8.alloc (.cells #[.slice A6 (3 + (p + 1)) c6, .slice A8 (0 + (p + 1) + (p + 1)) c8, .slice A2 p c2, .slice none 0 0] 24)) (by kernel_rfl) (by kernel_rfl) (by kernel_rfl) ?_
      refine tval (some 49) (.pointer (some ⟨w8.heap.size, 2, none⟩)) (w8.alloc (.cells #[.slice A6 (3 + (p + 1)) c6, .slice A8 (0 + (p + 1) + (p + 1)) c8, .slice A2 p c2, .slice none 0 0] 24)) (by kernel_rfl) (by kernel_rfl) (by kernel_rfl) ?_
      refine tloadQ (some 50) (.slice A2 p c2) 24 (.tmp 49) w8.heap.size 2 _ (by kernel_rfl) (by kernel_rfl) (by kernel_rfl) (by kernel_rfl) Try.underlying24 rfl (by rw [(Blk.new w8 _ _).cell]; rfl) ?_
      refine tval (some 15) (.slice A2 p c2) (w8.alloc (.cells #[.slice A6 (3 + (p + 1)) c6, .slice A8 (0 + (p + 1) + (p + 1)) c8, .slice A2 p c2, .slice none 0 0] 24)) (by kernel_rfl) (by kernel_rfl) (by kernel_rfl) ?_
      refine tend ?_
      go_wp2_with fail
      try go_meet
      exact ⟨_, _, _, _, rfl, ((HX5.out.below (hb58.alloc hb58.size _)).frontR (k := p) (by omega)), by omega, (by have h := feed_short S body fs (by omega) hbl 1; rw [← HPL.out] at h; exact h), hb58.alloc hb58.size _⟩
    -- ]]c2
    -- [[c3
    · -- case 3
      have hE := HE.out
      simp at hE
      subst hE
      refine wp_flow (fun k => !(k == 7 || k == 14 || k == 16 || k == 17 || k == 18)) (fun k => k == 0 || k == 2 || k == 3 || k == 5) 85 [0, 1, 2, 3, 4, 5, 6, 8, 9, 10, 11, 12, 13, 15] (fun w' => Below w5.heap.size w5 w') (fun k a v w' => (k = 0 → ∃ g, v = .slice (some ⟨g, 0, none⟩) 3 3 ∧ OwnX u8c 1 w' w5.heap.size 5 (some ⟨g, 0, none⟩) 3 [0, 1, 65]) ∧ (k = 2 → ∃ A c, v = .slice A (3 + (p + 1)) c ∧ OwnX u8c 1 w' w5.heap.size 5 A c ([0, 1, 65] ++ (frmB 1 S ++ bodF body)) ∧ 3 + (p + 1) ≤ c ∧ c ≤ 9223372036854775807) ∧ (k = 3 → ∃ g, v = .slice (some ⟨g, 0, none⟩) 0 0 ∧ OwnX u8c 1 w' w5.heap.size 5 (some ⟨g, 0, none⟩) 0 []) ∧ (k = 5 → ∃ A c, v = .slice A (0 + (p + 1)) c ∧ OwnX u8c 1 w' w5.heap.size 5 A c ([] ++ (frmB 1 S ++ bodF body)) ∧ 0 + (p + 1) ≤ c ∧ c ≤ 9223372036854775807)) (by kernel_rfl) ?hflB ?hpuB ?hksB (fun _ _ _ _ _ h => h) (by kernel_rfl) ?hst ?hC ?_
      case hflB => kernel_rfl
      case hpuB => kernel_rfl
      case hksB => kernel_rfl
      case hst => exact ⟨fun w0 w1 h1 hb => h1.trans (hb.mono h1.size), fun k a v w0 w1 hW hb => ⟨fun e => (fun hp => by obtain ⟨g, e1, e2⟩ := hp; exact ⟨g, e1, e2.carry hb⟩) (hW.1 e), fun e => (fun hp => by obtain ⟨A, c, e1, e2, e3⟩ := hp; exact ⟨A, c, e1, e2.carry hb, e3⟩) (hW.2.1 e), fun e => (fun hp => by obtain ⟨g, e1, e2⟩ := hp; exact ⟨g, e1, e2.carry hb⟩) (hW.2.2.1 e), fun e => (fun hp => by obtain ⟨A, c, e1, e2, e3⟩ := hp; exact ⟨A, c, e1, e2.carry hb, e3⟩) (hW.2.2.2 e)⟩, fun k a b v w0 _ h => h⟩
      case hC => exact (Below.refl _ _).drew
      refine fnew 33 (fun w => .slice (some ⟨w.heap.size, 0, none⟩) 3 3) (fun w => w.alloc (.cells #[.int .u8 0, .int .u8 1, .int .u8 65] 5)) (by kernel_rfl) (by kernel_rfl) (by kernel_rfl) (by kernel_rfl) (fun w => (by kernel_rfl)) (fun w hw => ⟨⟨fun _ => ⟨w.heap.size, rfl, own65 w _ _ hw.1.size rfl⟩, fun e => absurd e (by decide), fun e => absurd e (by decide), fun e => absurd e (by decide)⟩, hw.1.alloc hw.1.size _, (Below.refl _ _).alloc (Nat.le_refl _) _⟩) ?_
      rintro v ⟨w', hw', hW⟩
      obtain ⟨g33, rfl, h4⟩ := hW.1 rfl
      clear h4 hW hw' w'
      refine fq 34 (.slice A2 (p + 1) c2) (by kernel_rfl) (by kernel_rfl) (by kernel_rfl) (by kernel_rfl) (fun w => (by kernel_rfl)) ?_
      refine fappF 35 u8c 1 u8c_one (.tmp 33) (.tmp 34) _ (by kernel_rfl) (by kernel_rfl) (by kernel_rfl) (by kernel_rfl) (by kernel_rfl) w5.heap.size 5 _ 1 Try.underlying24 u8_infoP rfl (by decide) (by decide) g33 3 [0, 1, 65] rfl rfl (by kernel_rfl) A2 (p + 1) c2 (frmB 1 S ++ bodF body) (by kernel_rfl) HAL.out (by omega) (by omega) (fun W hW => ?ap2) ?_
      case ap2 =>
        obtain ⟨g_, e_, hO⟩ := (hW.2 _ List.mem_cons_self (by kernel_rfl)).1 rfl
        obtain rfl : g33 = g_ := by injection e_ with e_; simpa using e_
        exact ⟨hO, (by intro j v hj; obtain ⟨b, off, e, hc⟩ := hO.rd.2 (by decide); injection e with e; injection e with e1 e2; subst e1; subst e2; have := hc j v hj; rwa [Nat.zero_add] at this), RdX.below HX5.out.rd.x hW.1, hW.1.size, fun A1 c1 w1 h1 h2 h3 h4 => ⟨⟨fun e => absurd e (by decide), fun _ => ⟨A1, c1, rfl, h1, h2, h3⟩, fun e => absurd e (by decide), fun e => absurd e (by decide)⟩, hW.1.trans (h4.mono hW.1.size), h4⟩⟩
      rintro v ⟨w', hw', hWv⟩
      obtain ⟨A6, c6, rfl, hOA6, hcA6, hmA6⟩ := hWv.2.1 rfl
      clear hOA6 hWv hw' w'
      refine fnew 36 (fun w => .slice (some ⟨w.heap.size, 0, none⟩) 0 0) (fun w => w.alloc (.cells #[] 5)) (by kernel_rfl) (by kernel_rfl) (by kernel_rfl) (by kernel_rfl) (fun w => (by kernel_rfl)) (fun w hw => ⟨⟨fun e => absurd e (by decide), fun e => absurd e (by decide), fun _ => ⟨w.heap.size, rfl, OwnX.madeH u8c 1 w _ _ hw.1.size rfl⟩, fun e => absurd e (by decide)⟩, hw.1.alloc hw.1.size _, (Below.refl _ _).alloc (Nat.le_refl _) _⟩) ?_
      rintro v ⟨w', hw', hW⟩
      obtain ⟨g36, rfl, h4⟩ := hW.2.2.1 rfl
      clear h4 hW hw' w'
      refine fq 37 (.slice A2 (p + 1) c2) (by kernel_rfl) (by kernel_rfl) (by kernel_rfl) (by kernel_rfl) (fun w => (by kernel_rfl)) ?_
      refine fappF 38 u8c 1 u8c_one (.tmp 36) (.tmp 37) _ (by kernel_rfl) (by kernel_rfl) (by kernel_rfl) (by kernel_rfl) (by kernel_rfl) w5.heap.size 5 _ 1 Try.underlying24 u8_infoP rfl (by decide) (by decide) g36 0 [] rfl rfl (by kernel_rfl) A2 (p + 1) c2 (frmB 1 S ++ bodF body) (by kernel_rfl) HAL.out (by omega) (by omega) (fun W hW => ?ap5) ?_
      case ap5 =>
        obtain ⟨g_, e_, hO⟩ := (hW.2 _ List.mem_cons_self (by kernel_rfl)).2.2.1 rfl
        obtain rfl : g36 = g_ := by injection e_ with e_; simpa using e_
        exact ⟨hO, (by intro j v hj; simp at hj), RdX.below HX5.out.rd.x hW.1, hW.1.size, fun A1 c1 w1 h1 h2 h3 h4 => ⟨⟨fun e => absurd e (by decide), fun e => absurd e (by decide), fun e => absurd e (by decide), fun _ => ⟨A1, c1, rfl, h1, h2, h3⟩⟩, hW.1.trans (h4.mono hW.1.size), h4⟩⟩
      rintro v ⟨w', hw', hWv⟩
      obtain ⟨A7, c7, rfl, hOA7, hcA7, hmA7⟩ := hWv.2.2.2 rfl
      clear hOA7 hWv hw' w'
      refine fq 39 (.slice A2 (p + 1) c2) (by kernel_rfl) (by kernel_rfl) (by kernel_rfl) (by kernel_rfl) (fun w => (by kernel_rfl)) ?_
      refine fq 41 (.slice A2 (p + 1) c2) (by kernel_rfl) (by kernel_rfl) (by kernel_rfl) (by kernel_rfl) (fun w => (by kernel_rfl)) ?_
      refine fq 42 (.slice A2 (p + 1) c2) (by kernel_rfl) (by kernel_rfl) (by kernel_rfl) (by kernel_rfl) (fun w => (by kernel_rfl)) ?_
      refine fq 43 (.int .i64 ((p + 1 : Nat) : Int)) (by kernel_rfl) (by kernel_rfl) (by kernel_rfl) (by kernel_rfl) (fun w => (by kernel_rfl)) ?_
      refine fqe 44 (.int .i64 (IntKind.i64.wrap (((p + 1 : Nat) : Int) - 1))) (.int .i64 (p : Int)) (by rw [hwr1]) (by kernel_rfl) (by kernel_rfl) (by kernel_rfl) (by kernel_rfl) (fun w => (by kernel_rfl)) ?_
      refine fqe 45 (.int .i64 (if (p : Int) < 0 then 0 else (p : Int))) (.int .i64 (p : Int)) (by rw [hpif]) (by kernel_rfl) (by kernel_rfl) (by kernel_rfl) (by kernel_rfl) (fun w => (by kernel_rfl)) ?_
      refine fslh 46 24 (.tmp 41) (.tmp 45) A2 (p + 1) c2 p .i64 1 (by kernel_rfl) (by kernel_rfl) (by kernel_rfl) (by kernel_rfl) (by kernel_rfl) (by kernel_rfl) (by kernel_rfl) Try.underlying24 (fun w => (by kernel_rfl)) hp1 ?_
      refine fq 48 (.int .i64 3) (by kernel_rfl) (by kernel_rfl) (by kernel_rfl) (by kernel_rfl) (fun w => (by kernel_rfl)) ?_
      refine fend [7, 14, 16, 17, 18] (by kernel_rfl) (by kernel_rfl) ?_
      intro w6 hw6 hF
      obtain ⟨A6_, c6_, e6, hO6, hc6, hm6⟩ := (hF _ (List.mem_cons_of_mem _ (List.mem_cons_of_mem _ List.mem_cons_self))).2.1 rfl
      obtain ⟨rfl, rfl⟩ : A6 = A6_ ∧ c6 = c6_ := by injection e6 with e1 e2 e3; exact ⟨e1, e3⟩
      obtain ⟨A7_, c7_, e7, hO7, hc7, hm7⟩ := (hF _ List.mem_cons_self).2.2.2 rfl
      obtain ⟨rfl, rfl⟩ : A7 = A7_ ∧ c7 = c7_ := by injection e7 with e1 e2 e3; exact ⟨e1, e3⟩
      clear hF e6 e7
      refine tapp 40 u8c 1 u8c_one (.tmp 38) (.tmp 39) _ (by kernel_rfl) (by kernel_rfl) (by kernel_rfl) w5.heap.size 5 _ 1 Try.underlying24 u8_infoP rfl (by decide) (by decide) A7 (0 + (p + 1)) c7 ([] ++ (frmB 1 S ++ bodF body)) (by kernel_rfl) (by rw [List.nil_append, HAL.out, Nat.zero_add]) hO7 A2 (p + 1) c2 (frmB 1 S ++ bodF body) (by kernel_rfl) HAL.out (RdX.below HX5.out.rd.x hw6) ([] ++ (frmB 1 S ++ bodF body) ++ (frmB 1 S ++ bodF body)) rfl (0 + (p + 1) + (p + 1)) rfl (by omega) hw6.size ?_
      intro A8 c8 w8 hO8 hc8 hm8 hb8 hg8 hl8
      have hb58 : Below w5.heap.size w5 w8 := hw6.trans hb8
      have hO68 : OwnX u8c 1 w8 w5.heap.size 5 A6 c6 ([0, 1, 65] ++ (frmB 1 S ++ bodF body)) := hO6.grown hg8 (.inr (rows_apart hO6 hO7 (xs := 1 :: 65 :: (frmB 1 S ++ bodF body)) rfl (ys := (encB S.length ++ S) ++ bodF body) (by unfold frmB; rfl)))
      refine tval (some 47) (.slice (some ⟨w8.heap.size, 0, none⟩) 4 4) (w8.alloc (.cells #[.slice A6 (3 + (p + 1)) c6, .slice A8 (0 + (p + 1) + (p + 1)) c8, .slice A2 p c2, .slice none 0 0] 24)) (by kernel_rfl) (by kernel_rfl) (by kernel_rfl) ?_
      refine tval (some 49) (.pointer (some ⟨w8.heap.size, 3, none⟩)) (w8.alloc (.cells #[.slice A6 (3 + (p + 1)) c6, .slice A8 (0 + (p + 1) + (p + 1)) c8, .slice A2 p c2, .slice none 0 0] 24)) (by kernel_rfl) (by kernel_rfl) (by kernel_rfl) ?_
      refine tloadQ (some 50) (.slice none 0 0) 24 (.tmp 49) w8.heap.size 3 _ (by kernel_rfl) (by kernel_rfl) (by kernel_rfl) (by kernel_rfl) Try.underlying24 rfl (by rw [(Blk.new w8 _ _).cell]; rfl) ?_
      refine tval (some 15) (.slice none 0 0) (w8.alloc (.cells #[.slice A6 (3 + (p + 1)) c6, .slice A8 (0 + (p + 1) + (p + 1)) c8, .slice A2 p c2, .slice none 0 0] 24)) (by kernel_rfl) (by kernel_rfl) (by kernel_rfl) ?_
      refine tend ?_
      go_wp2_with fail
      try go_meet
      exact ⟨_, _, _, _, rfl, BV.nilR _, by decide, feed_none S fs 2, hb58.alloc hb58.size _⟩
    -- ]]c3
    -- ]]r4
  case rest =>
    -- [[rest
    obtain ⟨X, mX, dX, bs, rfl, hbv, hmX, hfd, hbx⟩ := hcut
    refine (show ∀ (a : Act) (w : World), Code.wp _ _ _ a w → _ from by assumption) _ _ ?_
    refine wp_world (fun w' => BV w' X mX dX bs ∧ Below w5.heap.size w5 w') ⟨hbv, hbx⟩ ?_
    clear hbv hbx
    rintro w6 ⟨hbv, hb6⟩
    have HX6 := Lib.hid hbv
    have HR6 := Lib.hid (HR5.out.carry hb6)
    have HRD6 := Lib.hid (RdX.below HRD5.out hb6)
    have HB6 := Lib.hid (HB5.out.trans (hb6.mono HB5.out.size))
    have HFD := Lib.hid hfd
    clear hbv hb6 hfd HR5 HRD5 HX5 HB5
    go_wp2_with fail
    refine (rFeed_any _ 0 0 none 0 0 [] (tabNew _ 0 (by decide)) none 0 0 none 0 0 none 0 0 ⟨[], [], false, [], false⟩ (RdrV.nil _) rfl (by decide) (by decide) (by decide) X mX dX _ HX6.out hmX true S fs 0 HD0.out (fun _ => HF.out.ok) 3 _ E HFD.out).mono ?_
    rintro e w7 ⟨HA, hn, hc, FA, fn, fc, BB, bbn, bbc, rfl, hV7, hb7⟩
    have HR7 := Lib.hid (HR6.out.carry hb7)
    have HRD7 := Lib.hid (RdX.below HRD6.out hb7)
    have HB7 := Lib.hid (HB6.out.trans (hb7.mono HB6.out.size))
    have hn0 : hn = 0 := hV7.h.hn.symm
    subst hn0
    clear hV7 hb7 HR6 HRD6 HB6 HX6 HFD
    go_upto_region 6 with (fail)
    obtain ⟨gX, hgX⟩ : ∃ q, w7.heap.size = q := ⟨_, rfl⟩
    refine wp_world (fun w' => Blk w' gX 35 #[.slice HA 0 hc, .slice FA fn fc, .bool false, .slice BB bbn bbc, .bool false] ∧ Blk w' gR 26 #[.slice L m cL, .slice BA bn bc] ∧ RdX fcells 2 w' L fs ∧ Below w.heap.size w w') ⟨Blk.newR hgX, HR7.out.alloc _, RdX.below HRD7.out ((Below.refl _ _).alloc (Nat.le_refl _) _), HB7.out.alloc HB7.out.size _⟩ ?_
    try rw [hgX]
    clear hgX HR7 HRD7 HB7
    rintro w8 ⟨hX8, hR8, hrd8, hb8⟩
    have HX8 := Lib.hid hX8
    have HR8 := Lib.hid hR8
    have HRD8 := Lib.hid hrd8
    have HB8 := Lib.hid hb8
    clear hX8 hR8 hrd8 hb8 k0 k1
    go_cut [18] (fun s18 wx => s18 = .int .i64 E ∧ Below w8.heap.size w8 wx)
    case first =>
      rcases hk with rfl | rfl | rfl | rfl
      all_goals
        have hE := HE.out
        simp at hE
        subst hE
        go_wp2_with fail
        try go_meet
        exact ⟨rfl, by (repeat (first | with_reducible exact (Below.refl _ _) | with_reducible refine Below.drew ?_ | (with_reducible refine Below.set4 ?_ ?side _ _ _ _; case side => (first | omega | (simp; omega) | (simp; done))) | (with_reducible refine Below.setCell ?_ ?side _; case side => (first | omega | (simp; omega) | (simp; done))) | (with_reducible refine Below.alloc ?_ ?side _; case side => (first | omega | (simp; omega) | (simp; done)))))⟩
    case rest =>
      obtain ⟨rfl, hbx⟩ := hcut
      refine (show ∀ (a : Act) (w : World), Code.wp _ _ _ a w → _ from by assumption) _ _ ?_
      refine wp_world (fun w' => Below w8.heap.size w8 w') hbx ?_
      clear hbx
      rintro w9 hb9
      have HX9 := Lib.hid (HX8.out.carry hb9)
      have HR9 := Lib.hid (HR8.out.carry hb9)
      have HRD9 := Lib.hid (RdX.below HRD8.out hb9)
      have HB9 := Lib.hid (HB8.out.trans (hb9.mono HB8.out.size))
      clear hb9 HX8 HR8 HRD8 HB8
      go_wp2_with fail
      refine (requestTells_any _).mono ?_
      rintro e w10 ⟨rfl, hb10⟩
      have HX10 := Lib.hid (HX9.out.carry hb10)
      have HR10 := Lib.hid (HR9.out.carry hb10)
      have HRD10 := Lib.hid (RdX.below HRD9.out hb10)
      have HB10 := Lib.hid (HB9.out.trans (hb10.mono HB9.out.size))
      have FX := HX10.out.facts5R
      have FR := HR10.out.two
      clear hb10 HX9 HR9 HRD9 HB9
      have hm2 : 2 ≤ m := by
        have h := HM.out
        obtain ⟨q1, q2, hq, _⟩ := HF.out.ex
        rw [hq] at h; simp at h; omega
      have hz0 : (1 : Int) ≤ (m : Int) := by omega
      have hz1 : (m : Int) ≤ (cL : Int) := by omega
      have hz2 : (1 : Int) ≤ (cL : Int) := by omega
      have hz3 : ¬ cL = 1 := by omega
      have hz4 : 1 ≤ m := by omega
      obtain ⟨D, hD⟩ : ∃ D, Option.map (fun x : Addr => ({ block := x.block, off := x.off + 2 } : Addr)) L = D := ⟨_, rfl⟩
      have HD := Lib.hid (show RdX fcells 2 w10 D (fs.drop 1) from by
        have h := RdX.fcutR (k := 1) (cap := cL) HRD10.out (by rw [HM.out]; exact hz4) (by rw [HM.out]; exact hmc)
        rw [if_neg hz3] at h
        rw [← hD]; exact h)
      go_wp2_with fail
      refine (rCheck_any _ D (m - 1) (cL - 1) (fs.drop 1) (by rw [List.length_drop, HM.out]) (by omega) (by omega) (by omega) (fun f hf => HF.out.ok.ok f (List.mem_of_mem_drop hf)) HF.out.tail.1 HD.out 3 (by have h := HF.out.tail.2; rw [List.length_drop, HM.out] at h; rw [h, Bool.false_and]; rfl)).mono ?_
      rintro e w11 ⟨rfl, hb11⟩
      have HB11 := Lib.hid (HB10.out.trans (hb11.mono HB10.out.size))
      clear hb11 HX10 HR10 HRD10 HB10 FX FR HD hD
      go_wp2_with fail
      refine bodyPost_ret (v := .bool true) ?_ rfl ⟨rfl, ?_⟩
      · simp [results, Try.results5, go_sem] <;> rfl
      · have h := HB11.out
        (repeat (first | with_reducible exact h | with_reducible refine Below.drew ?_ | (with_reducible refine Below.set4 ?_ ?side _ _ _ _; case side => (first | omega | (simp; omega) | (simp; done))) | (with_reducible refine Below.setCell ?_ ?side _; case side => (first | omega | (simp; omega) | (simp; done))) | (with_reducible refine Below.alloc ?_ ?side _; case side => (first | omega | (simp; omega) | (simp; done)))))
    -- ]]rest
end Go.Proofs.Ytihngonemdaihaa
