/- Texts of the proof, laid together: Strange. -/
import Derived.Test.YtbcagdjfegobnaaGreatC37
import Derived.Test.YtbcagdjfegobnaaGreatC38
import Derived.Test.YtbcagdjfegobnaaGreatC39
/- What a stranger sends, and what a gate says of it; greeted, with what is known of the others' tallies. -/
namespace Go.Proofs.YtbcagdjfegobnaaGreat
open Go.ChangeShapes Go.WideShapes Go.ChangeAt Go.RowKit
set_option linter.unusedVariables false

/-- Bytes that are a short packet, or none. -/
def Strange (bs : List UInt8) : Prop := (∃ t f tok nu si U, hdec bs = (⟨2, t, f, tok, nu, si⟩, U, 0)) ∨ (∃ hd U E, ¬ E = 0 ∧ hdec bs = (hd, U, E))
theorem strange_nil : Strange [] := .inr ⟨hnil, 0, 4, by decide, rfl⟩
theorem strange_pkt (key : Int) (to_ n K : Nat) (hto : to_ ≤ 255) (h1 : 1 ≤ K) (h4 : K ≤ 4) (fs : List FrD) : Strange (pktB key ⟨2, to_, 0, [], 0, 0⟩ K n fs) :=
  .inl ⟨_, _, _, _, _, _, hdec_pkt key ⟨2, to_, 0, [], 0, 0⟩ ⟨.inr rfl, by simp, hto, by simp, fun _ => ⟨rfl, rfl⟩⟩ n K h1 h4 fs⟩
theorem strange_64 (b : UInt8) (bs : List UInt8) (hb : b.toNat / 4 = 16) : Strange (b :: bs) := by
  have h : hdec (b :: bs) = (if (b :: bs).length < 2 then (hnil, 0, 4) else htail (b :: bs) 2 ((b :: bs).getD 1 0).toNat 0 [] 2 (b.toNat % 4 + 1)) := by
    unfold hdec
    rw [if_neg (by simp)]
    simp only [List.getD_cons_zero, hb, if_true]
  by_cases h2 : (b :: bs).length < 2
  · exact .inr ⟨hnil, 0, 4, by decide, by rw [h, if_pos h2]⟩
  · rw [if_neg h2] at h
    unfold htail at h
    by_cases h3 : (b :: bs).length < 2 + (b.toNat % 4 + 1)
    · rw [if_pos h3] at h; exact .inr ⟨hnil, 0, 4, by decide, h⟩
    · rw [if_neg h3] at h; exact .inl ⟨_, _, _, _, _, _, h⟩
/-- Bytes in memory, which a stranger sends. -/
structure ByS (w : World) (A : Option Addr) (k c : Nat) (bs : List UInt8) : Prop where
  rd : RdB w A bs
  n : bs.length = k
  kc : k ≤ c
  cm : c ≤ 9223372036854775807
  k4 : k ≤ 400
  st : Strange bs
theorem ByS.below {w w' : World} {A : Option Addr} {k c : Nat} {bs : List UInt8} (h : ByS w A k c bs) (hb : Below w.heap.size w w') : ByS w' A k c bs := { h with rd := h.rd.below hb }
set_option maxHeartbeats 1000000 in
theorem hear_str (p : Nat) (hp : p < 4) (B : Option Addr) (bn bc : Nat) (bs : List UInt8) (g : GtD) (A : Option Addr) (n c : Nat) (xs : List NtB) (hkf : (g.t p).1 = false) (h1 : (g.t p).2.1 ≤ 1099511627376) (h3 : (g.t p).2.2 ≤ 1099511627376) (hnp : ∀ x ∈ xs, ¬ x.peer = (p : Nat)) (w : World) (hG : GtV w g A n c xs) (hB : ByS w B bn bc bs) :
    Calls Tryz.prog 27 #[.agg (gcs g A n c), .int .i64 p, .slice B bn bc] w fun e w' => ∃ (A2 : Option Addr) (c2 : Nat) (ys : List NtB) (O2 : Option Addr) (co2 : Nat) (E : Int), ¬ E = 0 ∧ e = .returned (.tuple #[.agg (gcs (g.set p (false, (g.t p).2.1 + bn, (g.t p).2.2)) A2 n c2), .slice O2 0 co2, .int .i64 E]) ∧ GtV w' (g.set p (false, (g.t p).2.1 + bn, (g.t p).2.2)) A2 n c2 ys ∧ ys.map NtB.pl = xs.map NtB.pl ∧ OwnX ntc 29 w' w.heap.size 53 A2 c2 ys ∧ Below w.heap.size w w' := by
  rcases hB.st with ⟨t, f, tok, nu, si, U, hd⟩ | ⟨hd, U, E, hE, hdc⟩
  · refine (hear_short p hp t f tok U B bn bc bs hB.n hB.kc hB.cm hB.k4 nu si hd g A n c xs hkf h1 h3 _ rfl w hG hB.rd hnp).mono ?_
    rintro e w' ⟨g2, A2, n2, c2, ys, zs, O2, m2, co2, ms2, rfl, hV, hpl, ⟨hz, rfl, rfl, rfl⟩, _, _, _, _, hO, hb⟩
    exact ⟨A2, c2, ys, O2, co2, 5, by decide, rfl, hV, hpl.trans hz, hO, hb⟩
  · refine (hear_bad p hp hd U E hE B bn bc bs hB.n hB.kc hB.cm hB.k4 hdc g A n c xs hkf h1 h3 _ rfl w hG hB.rd).mono ?_
    rintro e w' ⟨g2, A2, n2, c2, ys, zs, O2, m2, co2, ms2, rfl, hV, hpl, ⟨hz, rfl, rfl, rfl⟩, _, _, _, _, hO, hb⟩
    exact ⟨A2, c2, ys, O2, co2, E, hE, rfl, hV, hpl.trans hz, hO, hb⟩
/-- A note whose connection has just begun, cell by cell. -/
def nlit (id from_ peer key last : Int) (A : Option Addr) (c : Nat) (B : Option Addr) (d : Nat) : Array Value := #[.int .i64 id, .int .i64 from_, .int .i64 peer, .int .u64 key, .bool false] ++ bg0 false A c B d last 0 4
theorem nta_lit {x : NtB} {id from_ peer key last : Int} (h : x.pl = (id, from_, peer, key, false, last)) (hr : BgR x.cs x.last) : ∃ A c B d, nta x = nlit id from_ peer key last A c B d := by
  obtain ⟨A, c, B, d, _, _, e, _⟩ := hr
  simp only [NtB.pl, Prod.mk.injEq] at h
  obtain ⟨h1, h2, h3, h4, h5, h6⟩ := h
  refine ⟨A, c, B, d, ?_⟩
  unfold nta nlit
  rw [e, h1, h2, h3, h4, h5, h6]
/-- What greeted answers. -/
def GreetOut2 (secret : Int) (retry : Bool) (p : Nat) (w : World) (e : Ending) (w' : World) : Prop :=
  ∃ g2 A2 c2 ys y2, e = .returned (.tuple #[.agg (gcs g2 A2 1 c2), .agg (clc y2), .bool true]) ∧ GtV w' g2 A2 1 c2 ys ∧ ys.map NtB.pl = [((1 : Int), (7 : Int), (p : Int), sessI 99 (keyI secret 1), false, (0 : Int))] ∧ g2.secret = secret ∧ g2.next = 2 ∧ g2.retry = retry ∧ (g2.t p).1 = retry ∧ (∀ q, q ≠ p → g2.t q = (false, 0, 0)) ∧
    ClOk w' y2 ∧ y2.pl = (p, 7, 1, 99, sessI 99 (keyI secret 1), 0, if retry then tokB secret p 0 else []) ∧ Below w.heap.size w w'

set_option maxRecDepth 100000 in
set_option maxHeartbeats 8000000 in
theorem greeted_no2 (secret : Int) (s0 : 0 ≤ secret) (s1 : secret < 18446744073709551616) (p : Nat) (hp : p < 4) (w : World) :
    Calls Tryz.prog 16 #[.int .u64 secret, .bool false, .int .i64 p] w (GreetOut2 secret false p w) := by
  go_enter Tryz.func16, Tryz.ntmps16
  -- [[s1
  go_upto_region 1 with (fail)
  refine wp_world (fun w' => (∃ z1, z1.size = 18 ∧ Blk w' w.heap.size 29 z1) ∧ (∃ z2, z2.size = 30 ∧ Blk w' (w.heap.size + 1) 45 z2) ∧ Below w.heap.size w w') ⟨⟨_, rfl, (Blk.new _ _ _).alloc _⟩, ⟨_, rfl, Blk.new1 _ _ _ _⟩, ((Below.refl _ _).alloc (Nat.le_refl _) _).alloc (by simp) _⟩ ?_
  rintro w1 ⟨⟨z1, hz1, hR1⟩, ⟨z2, hz2, hR2⟩, hb1⟩
  obtain ⟨r1, hr1⟩ : ∃ q, w.heap.size = q := ⟨_, rfl⟩
  obtain ⟨r2, hr2⟩ : ∃ q, w.heap.size + 1 = q := ⟨_, rfl⟩
  have l3 : w.heap.size ≤ r1 := by omega
  have l4 : w.heap.size ≤ r2 := by omega
  rw [hr2] at hR2 ⊢
  rw [hr1] at hR1 ⊢
  have HR1 := Lib.hid hR1
  have HR2 := Lib.hid hR2
  have HB1 := Lib.hid hb1
  clear hR1 hR2 hb1 hr1 hr2
  go_wp2_with fail
  refine (gateBegin_ok secret false _).mono ?_
  rintro e w2 ⟨rfl, hb2⟩
  have HR1 := Lib.hid (HR1.out.carry hb2)
  have HR2 := Lib.hid (HR2.out.carry hb2)
  have HB2 := Lib.hid (HB1.out.trans (hb2.mono HB1.out.size))
  clear hb2 HB1
  -- [[s2
  go_upto_region 2 with (first
    | (refine wpList_storeP rfl 29 (.tmp 9) (.tmp 25) rfl w2.heap.size 0 rfl (gcs ⟨secret, 0, 1, fun _ => (false, 0, 0), false, 0⟩ none 0 0) rfl 29 _ (Blk.new _ _ _) (by kernel_rfl) (by simp [gcs]) (gcs_one _ _ _ _) _ (splice_all _ _ (by simp [gcs])) ?_
       intro w3 hBw3 hw3))
  have hb3 : Below w2.heap.size w2 w3 := hw3.trans_below ((Below.refl _ _).alloc (Nat.le_refl _) _) (Nat.le_refl _)
  obtain ⟨qg, hqg⟩ : ∃ q, w2.heap.size = q := ⟨_, rfl⟩
  refine wp_world (fun w' => Blk w' qg 29 (gcs ⟨secret, 0, 1, fun _ => (false, 0, 0), false, 0⟩ none 0 0) ∧ Blk w' r1 29 z1 ∧ Blk w' r2 45 z2 ∧ r1 < qg ∧ Below w.heap.size w w') ⟨by rw [← hqg]; exact hBw3, HR1.out.carry hb3, HR2.out.carry hb3, by have := HR1.out.lt; omega, HB2.out.trans (hb3.mono HB2.out.size)⟩ ?_
  rw [hqg]
  clear hqg hb3 hw3 hBw3 HR1 HR2 HB2
  rintro w4 ⟨hG, hR1, hR2, hd1, hb⟩
  have HG := Lib.hid hG
  have HR1 := Lib.hid hR1
  have HR2 := Lib.hid hR2
  have HB4 := Lib.hid hb
  clear hG hR1 hR2 hb
  go_wp2_with fail
  refine (clBegin_ok p 7 hp (by decide) 99 0 (by decide) (by decide) _).mono ?_
  rintro e w5 ⟨rfl, hb5⟩
  have HG := Lib.hid (HG.out.carry hb5)
  have HR1 := Lib.hid (HR1.out.carry hb5)
  have HR2 := Lib.hid (HR2.out.carry hb5)
  have HB5 := Lib.hid (HB4.out.trans (hb5.mono HB4.out.size))
  clear hb5 HB4
  -- [[s3
  go_upto_region 3 with (first
    | (refine wpList_storeP rfl 45 (.tmp 10) (.tmp 29) rfl w5.heap.size 0 rfl (clc ⟨p, 7, 0, 99, 0, 0, [], none, 0, 0, none, 0, none, 0⟩) rfl 45 _ (Blk.new _ _ _) (by kernel_rfl) (by simp [clc]) (clc_one _) _ (splice_all _ _ (by simp [clc])) ?_
       intro w6 hBw6 hw6))
  have hb6 : Below w5.heap.size w5 w6 := hw6.trans_below ((Below.refl _ _).alloc (Nat.le_refl _) _) (Nat.le_refl _)
  obtain ⟨qc, hqc⟩ : ∃ q, w5.heap.size = q := ⟨_, rfl⟩
  obtain ⟨x, hx⟩ : ∃ x : ClM, (⟨p, 7, 0, 99, 0, 0, [], none, 0, 0, none, 0, none, 0⟩ : ClM) = x := ⟨_, rfl⟩
  rw [hx] at hBw6 ⊢
  have hxok : ∀ W, ClOk W x := fun W => by subst hx; exact ⟨hp, by simp, by simp, by simp, by simp, by simp, by simp, rfl, by simp, by simp, by simp, Rd.nil, by simp, by simp, by simp, by simp⟩
  have hxpl : x.pl = (p, 7, 0, 99, 0, 0, []) := by subst hx; rfl
  have hxT : x.T = none := by subst hx; rfl
  have hxtk : x.tok = [] := by subst hx; rfl
  have hxtn : x.tn = 0 := by subst hx; rfl
  have hxtc : x.tc = 0 := by subst hx; rfl
  clear hx
  refine wp_world (fun w' => Blk w' qc 45 (clc x) ∧ Blk w' qg 29 (gcs ⟨secret, 0, 1, fun _ => (false, 0, 0), false, 0⟩ none 0 0) ∧ Blk w' r1 29 z1 ∧ Blk w' r2 45 z2 ∧ r2 < qc ∧ Below w.heap.size w w') ⟨by rw [← hqc]; exact hBw6, HG.out.carry hb6, HR1.out.carry hb6, HR2.out.carry hb6, by have := HR2.out.lt; omega, HB5.out.trans (hb6.mono HB5.out.size)⟩ ?_
  rw [hqc]
  clear hqc hb6 hw6 hBw6 HR1 HR2 HB5 HG
  rintro w7 ⟨hC, hG, hR1, hR2, hd2, hb⟩
  have HC := Lib.hid hC
  have HG := Lib.hid hG
  have HR1 := Lib.hid hR1
  have HR2 := Lib.hid hR2
  have HB7 := Lib.hid hb
  have HXOK := Lib.hid hxok
  have HXT := Lib.hid (And.intro hxT (And.intro hxtk (And.intro hxtn hxtc)))
  have HXPL := Lib.hid hxpl
  clear hC hG hR1 hR2 hb hxok hxT hxtk hxtn hxtc hxpl
  go_wp2_with (refine wpList_loadR rfl 45 (.tmp 10) rfl qc 0 rfl (clc x) _ Tryz.underlying45 rfl (by kernel_rfl) HC.out.whole ?_)
  refine (clHello_ok x _ (HXOK.out _) (by rw [HXT.out.2.2.1]; decide)).mono ?_
  rintro e w8 ⟨B, bc, rfl, hOB, hb8⟩
  obtain ⟨g, hg⟩ : ∃ g : GtD, (⟨secret, 0, 1, fun _ => (false, 0, 0), false, 0⟩ : GtD) = g := ⟨_, rfl⟩
  have hgok : GOk g [] := by
    subst hg
    exact ⟨s0, s1, by simp, by simp, by simp, by simp, by simp, by simp, fun i _ => ⟨⟨by simp, by simp⟩, ⟨by simp, by simp⟩, fun _ => by simp⟩, by simp, fun x hx => absurd hx List.not_mem_nil, List.Pairwise.nil⟩
  have hS : GrSt w qg qc r1 r2 z1 z2 w8 g none 0 0 [] x B bc (greetB (keyI 1 x.id) 0 x.id x.tok x.word.toNat) := by
    refine ⟨HR1.out.carry hb8, HR2.out.carry hb8, (HG.out.carry hb8).as (by rw [hg]), HC.out.carry hb8, ⟨rfl, by decide, by decide, hgok, RdX.nil⟩, OwnX.nil _ _ _, (HXOK.out _), ?_, hOB.mono HB7.out.size, HB7.out.trans (hb8.mono HB7.out.size), by omega, by omega, by omega, by omega, l3, l4⟩
    rw [HXT.out.1, HXT.out.2.1, HXT.out.2.2.2]; exact OwnX.nil _ _ _
  have HS := Lib.hid hS
  have HGF := Lib.hid (show g.secret = secret ∧ g.now = 0 ∧ g.next = ((1 : Nat) : Int) ∧ g.retry = false ∧ g.t = (fun _ => (false, 0, 0)) from by subst hg; exact ⟨rfl, rfl, rfl, rfl, rfl⟩)
  rw [HXT.out.2.2.1]
  clear hS hgok hg hOB hb8 HR1 HR2 HG HC HB7 HXOK hd1 hd2
  -- [[s4
  go_wp2_with fail
  obtain ⟨ex1, ex2, ex3, ex4, ex5, ex6, ex7⟩ := (by simpa [ClM.pl] using HXPL.out : x.p = p ∧ x.id = 7 ∧ x.to_ = 0 ∧ x.word = 99 ∧ x.key = 0 ∧ x.last = 0 ∧ x.tok = [])
  obtain ⟨eg1, eg2, eg3, eg4, eg5⟩ := HGF.out
  have hby : RdB w8 B (greetB (keyI 1 ((7 : Nat) : Int)) 0 7 [] 99) := by
    have := HS.out.byt.rd.b
    rw [ex2, ex7, ex4] at this
    exact this
  have hbcap := HS.out.byt.cap
  have hbl := greetB_len (keyI 1 x.id) 0 x.id x.tok x.word.toNat (by rw [ex7]; decide)
  rw [hbl, ex7] at hbcap
  have HE := hear_new p hp 7 99 (by decide) (by decide) [] (by decide) B bc hbcap.1 hbcap.2 g none 0 0 [] (by rw [eg5]) (by rw [eg5]; simp) (by rw [eg5]; simp) 1 eg3 (by decide) rfl w8 HS.out.gv hby (by decide) eg4
  rw [eg5] at HE
  simp only [List.length_nil, Nat.add_zero] at HE
  have HE := Lib.hid HE
  have HEX := Lib.hid (And.intro ex2 (And.intro ex3 (And.intro ex4 ex7)))
  clear ex1 ex2 ex3 ex4 ex5 ex6 ex7 eg1 eg2 eg3 eg4 eg5 hby hbcap hbl
  refine wp_loop_rounds 1 ?_
  rw [rounds_succ]
  go_wp2_with (refine wpList_loadR rfl 29 (.tmp 9) rfl qg 0 rfl (gcs g none 0 0) _ Tryz.underlying29 rfl (by kernel_rfl) HS.out.hg.whole ?_)
  refine (HE.out).mono ?_
  rintro e wA ⟨g2, A2, n2, c2, ys, zs, O2, m2, co2, ms2, rfl, hGV, hpl, hPr, hml, hmc, hcm, hMO, hON, hbA⟩
  obtain ⟨⟨hgo, hzl⟩, hn2, rfl, hplz, rfl, D, dc, rfl⟩ := hPr
  have hn2 : n2 = 1 := hn2
  subst hn2
  have HSA := Lib.hid (HS.out.carry hbA)
  have HGVA := Lib.hid hGV
  have HONA := Lib.hid (hON.mono HS.out.b.size)
  have HMOA := Lib.hid hMO
  have HPLA := Lib.hid (hpl.trans hplz)
  have HCM := Lib.hid (And.intro hmc hcm)
  clear hGV hpl hml hmc hcm hMO hON hbA hplz hzl
  -- [[hb
  go_upto_region 8 with (first
    | (refine wpList_storeP rfl 29 (.tmp 15) (.tmp 49) rfl wA.heap.size 0 rfl (gcs (gMore g p (false, 0 + ((24 : Nat) : Int), 0 + 24)) A2 1 c2) rfl 29 _ (Blk.new _ _ _) (by kernel_rfl) (by simp [gcs]) (gcs_one _ _ _ _) _ (splice_all _ _ (by simp [gcs])) ?_
       intro wB hBwB hwB))
  have hbB : Below wA.heap.size wA wB := hwB.trans_below ((Below.refl _ _).alloc (Nat.le_refl _) _) (Nat.le_refl _)
  have HSB := Lib.hid (HSA.out.carry hbB)
  go_upto_region 9 with (first
    | refine wpList_loadR rfl 29 (.tmp 15) rfl wA.heap.size 0 rfl (gcs (gMore g p (false, 0 + ((24 : Nat) : Int), 0 + 24)) A2 1 c2) _ Tryz.underlying29 rfl (by kernel_rfl) hBwB.whole ?_
    | (refine wpList_storeP rfl 29 (.tmp 9) (.tmp 52) rfl qg 0 rfl (gcs (gMore g p (false, 0 + ((24 : Nat) : Int), 0 + 24)) A2 1 c2) rfl 29 _ HSB.out.hg (by kernel_rfl) (by simp [gcs]) (gcs_one _ _ _ _) _ (splice_all _ _ (by simp [gcs])) ?_
       intro wC hBwC hwC))
  refine wp_world (fun w' => GrSt w qg qc r1 r2 z1 z2 w' (gMore g p (false, 0 + ((24 : Nat) : Int), 0 + 24)) A2 1 c2 ys x B bc (greetB (keyI 1 x.id) 0 x.id x.tok x.word.toNat) ∧ MlOwn w' w8.heap.size O2 co2 [⟨p, D, 24, dc, greetB (keyI 1 ((7 : Nat) : Int)) 7 1 [] (keyI g.secret ((1 : Nat) : Int)).toNat⟩]) ⟨HSB.out.setG hwC hBwC (HGVA.out.below hbB) (HONA.out.carry hbB), (HMOA.out.carry hbB).wrG hwC HSB.out.hg (by decide) (by decide)⟩ ?_
  clear HSA HSB HGVA HONA HMOA hbB hwB hBwB hwC hBwC HS
  rintro wD ⟨hS, hM⟩
  obtain ⟨bO, oO, rfl, hcO⟩ := ml_cell hM.1
  have HSD := Lib.hid hS
  have HMD := Lib.hid (hM.2 _ List.mem_cons_self)
  have HCO := Lib.hid hcO
  clear hS hM hcO
  -- [[hc
  go_wp2_with fail
  refine wp_loop_rounds 2 ?_
  rw [rounds_succ]
  go_upto_region 12 with (refine wpList_loadR rfl 75 (.tmp 57) rfl bO oO rfl #[.int .i64 (⟨p, D, 24, dc, greetB (keyI 1 ((7 : Nat) : Int)) 7 1 [] (keyI g.secret ((1 : Nat) : Int)).toNat⟩ : MlB).peer, .slice (⟨p, D, 24, dc, greetB (keyI 1 ((7 : Nat) : Int)) 7 1 [] (keyI g.secret ((1 : Nat) : Int)).toNat⟩ : MlB).D (⟨p, D, 24, dc, greetB (keyI 1 ((7 : Nat) : Int)) 7 1 [] (keyI g.secret ((1 : Nat) : Int)).toNat⟩ : MlB).n (⟨p, D, 24, dc, greetB (keyI 1 ((7 : Nat) : Int)) 7 1 [] (keyI g.secret ((1 : Nat) : Int)).toNat⟩ : MlB).c] _ Tryz.underlying75 rfl (by kernel_rfl) HCO.out ?_)
  obtain ⟨qm, hqm⟩ : ∃ q, wD.heap.size = q := ⟨_, rfl⟩
  refine wp_world (fun w' => Blk w' qm 75 #[.int .i64 (⟨p, D, 24, dc, greetB (keyI 1 ((7 : Nat) : Int)) 7 1 [] (keyI g.secret ((1 : Nat) : Int)).toNat⟩ : MlB).peer, .slice (⟨p, D, 24, dc, greetB (keyI 1 ((7 : Nat) : Int)) 7 1 [] (keyI g.secret ((1 : Nat) : Int)).toNat⟩ : MlB).D (⟨p, D, 24, dc, greetB (keyI 1 ((7 : Nat) : Int)) 7 1 [] (keyI g.secret ((1 : Nat) : Int)).toNat⟩ : MlB).n (⟨p, D, 24, dc, greetB (keyI 1 ((7 : Nat) : Int)) 7 1 [] (keyI g.secret ((1 : Nat) : Int)).toNat⟩ : MlB).c] ∧ GrSt w qg qc r1 r2 z1 z2 w' (gMore g p (false, 0 + ((24 : Nat) : Int), 0 + 24)) A2 1 c2 ys x B bc (greetB (keyI 1 x.id) 0 x.id x.tok x.word.toNat) ∧ OwnX u8c 1 w' 0 5 (⟨p, D, 24, dc, greetB (keyI 1 ((7 : Nat) : Int)) 7 1 [] (keyI g.secret ((1 : Nat) : Int)).toNat⟩ : MlB).D (⟨p, D, 24, dc, greetB (keyI 1 ((7 : Nat) : Int)) 7 1 [] (keyI g.secret ((1 : Nat) : Int)).toNat⟩ : MlB).c (⟨p, D, 24, dc, greetB (keyI 1 ((7 : Nat) : Int)) 7 1 [] (keyI g.secret ((1 : Nat) : Int)).toNat⟩ : MlB).data) ⟨Blk.newF hqm, HSD.out.carry ((Below.refl _ _).alloc (Nat.le_refl _) _), HMD.out.1.alloc _⟩ ?_
  rw [hqm]
  clear hqm HSD HMD HCO
  rintro wE ⟨hQ, hS, hD⟩
  have HSE := Lib.hid hS
  have HDE := Lib.hid hD
  have fm1 : wE.cell? ⟨qm, 1, none⟩ = some (.slice (⟨p, D, 24, dc, greetB (keyI 1 ((7 : Nat) : Int)) 7 1 [] (keyI g.secret ((1 : Nat) : Int)).toNat⟩ : MlB).D (⟨p, D, 24, dc, greetB (keyI 1 ((7 : Nat) : Int)) 7 1 [] (keyI g.secret ((1 : Nat) : Int)).toNat⟩ : MlB).n (⟨p, D, 24, dc, greetB (keyI 1 ((7 : Nat) : Int)) 7 1 [] (keyI g.secret ((1 : Nat) : Int)).toNat⟩ : MlB).c) := by rw [hQ.cell]; rfl
  have hqml := hQ.lt
  clear hQ hS hD
  -- [[hd
  obtain ⟨e2, e3, e4, e7⟩ := HEX.out
  have hdat : RdB wE D (greetB (keyI 1 x.id) x.id 1 [] (keyI g.secret ((1 : Nat) : Int)).toNat) := by rw [e2]; exact HDE.out.rd.b
  have hdcap := HDE.out.cap
  have hdl : (greetB (keyI 1 ((7 : Nat) : Int)) 7 1 [] (keyI g.secret ((1 : Nat) : Int)).toNat).length = 24 := greetB_len _ _ _ [] _ (by decide)
  rw [show ((⟨p, D, 24, dc, greetB (keyI 1 ((7 : Nat) : Int)) 7 1 [] (keyI g.secret ((1 : Nat) : Int)).toNat⟩ : MlB).data).length = 24 from hdl] at hdcap
  have HCH := Lib.hid (clHear_first x 0 (by decide) (by decide) 1 (keyI g.secret ((1 : Nat) : Int)).toNat (by decide) (by decide) (keyI_nat _ _) e3 _ D 24 dc _ (greetB_len _ _ _ [] _ (by decide)) hdcap.1 hdcap.2 (by decide) (greetB_dec (keyI 1 x.id) x.id 1 [] (keyI g.secret ((1 : Nat) : Int)).toNat (by rw [e2]; decide) (by decide) (by decide)) rfl rfl wE HSE.out.ok hdat)
  clear e2 e3 e4 e7 hdat hdcap hdl
  go_wp2_with (refine wpList_loadR rfl 45 (.tmp 10) rfl qc 0 rfl (clc x) _ Tryz.underlying45 rfl (by kernel_rfl) HSE.out.hc.whole ?_)
  refine (HCH.out).mono ?_
  rintro e wF ⟨⟨y2, rfl, hy, hypl, hyo⟩, hbF⟩
  have HSF := Lib.hid (HSE.out.carry hbF)
  have hsF := hbF.size
  clear hbF fm1 hqml
  have HY := Lib.hid hy
  have HYPL := Lib.hid hypl
  have HYO := Lib.hid (hyo.mono HSE.out.b.size)
  clear hy hypl hyo HSE HDE HCH
  -- [[he
  go_upto_region 15 with (first
    | (refine wpList_storeP rfl 45 (.tmp 20) (.tmp 64) rfl wF.heap.size 0 rfl (clc y2) rfl 45 _ (Blk.new _ _ _) (by kernel_rfl) (by simp [clc]) (clc_one _) _ (splice_all _ _ (by simp [clc])) ?_
       intro wG hBwG hwG
       have hbG : Below wF.heap.size wF wG := hwG.trans_below ((Below.refl _ _).alloc (Nat.le_refl _) _) (Nat.le_refl _)
       have HSG := Lib.hid (HSF.out.carry hbG))
    | refine wpList_loadR rfl 45 (.tmp 20) rfl wF.heap.size 0 rfl (clc y2) _ Tryz.underlying45 rfl (by kernel_rfl) hBwG.whole ?_
    | (refine wpList_storeP rfl 45 (.tmp 10) (.tmp 72) rfl qc 0 rfl (clc y2) rfl 45 _ HSG.out.hc (by kernel_rfl) (by simp [clc]) (clc_one _) _ (splice_all _ _ (by simp [clc])) ?_
       intro wH hBwH hwH))
  refine wp_world (fun w' => GrSt w qg qc r1 r2 z1 z2 w' (gMore g p (false, 0 + ((24 : Nat) : Int), 0 + 24)) A2 1 c2 ys y2 B bc (greetB (keyI 1 x.id) 0 x.id x.tok x.word.toNat)) (HSG.out.setC hwH hBwH (HY.out.below hbG) (HYO.out.carry hbG)) ?_
  clear HSF HSG HY HYO hbG hwG hBwG hwH hBwH hsF
  rintro wI hS
  have HSI := Lib.hid hS
  have ht1 : y2.to_ = 1 := by
    have := HYPL.out
    simp [ClM.pl, ClM.met] at this
    exact this.2.2.1
  have ft : wI.cell? ⟨qc, 4, none⟩ = some (.int .i64 1) := by rw [(clFacts hS.hc).2.2.2.2.2.1, ht1]; rfl
  have hqcl : qc < wI.heap.size := hS.hc.lt
  clear hS
  have HT1' := Lib.hid ht1
  clear ht1
  go_wp2_with fail
  rw [rounds_succ]
  -- [[hf
  go_upto_region 20 with (fail)
  have HT1 := HT1'
  clear ft hqcl
  have HST := Lib.hid (show ∀ w0 w1, Below w0.heap.size w0 w1 → Stays (fun w' => ∃ z1 z2, GrSt w qg qc r1 r2 z1 z2 w' (gMore g p (false, 0 + ((24 : Nat) : Int), 0 + 24)) A2 1 c2 ys y2 B bc (greetB (keyI 1 x.id) 0 x.id x.tok x.word.toNat) ∧ z1.size = 18 ∧ z2.size = 30) (fun k v w' => (k = 8 → Blk w' r1 29 (gcs (gMore g p (false, 0 + ((24 : Nat) : Int), 0 + 24)) A2 1 c2)) ∧ (k = 9 → Blk w' r2 45 (clc y2))) w0 w1 from fun w0 w1 hb => ⟨fun h1 => by obtain ⟨z1, z2, hS, h2⟩ := h1; exact ⟨z1, z2, hS.carry hb, h2⟩, fun k v hW => ⟨fun e => (fun hp => hp.carry hb) (hW.1 e), fun e => (fun hp => hp.carry hb) (hW.2 e)⟩⟩)
  refine wp_flowS (fun k => decide (k < 10)) (fun k => k == 8 || k == 9) 92 [0, 1, 2, 3, 4, 5, 6, 7, 8, 9] (fun w' => ∃ z1 z2, GrSt w qg qc r1 r2 z1 z2 w' (gMore g p (false, 0 + ((24 : Nat) : Int), 0 + 24)) A2 1 c2 ys y2 B bc (greetB (keyI 1 x.id) 0 x.id x.tok x.word.toNat) ∧ z1.size = 18 ∧ z2.size = 30) (fun k v w' => (k = 8 → Blk w' r1 29 (gcs (gMore g p (false, 0 + ((24 : Nat) : Int), 0 + 24)) A2 1 c2)) ∧ (k = 9 → Blk w' r2 45 (clc y2))) (by kernel_rfl) ?hflB ?hpuB ?hksB (fun _ _ _ _ _ h => h) rfl ?hC ?_
  case hflB => kernel_rfl
  case hpuB => kernel_rfl
  case hksB => kernel_rfl
  case hC => exact ⟨z1, z2, HSI.out.carry (Below.refl _ _).drew, hz1, hz2⟩
  refine fqR 84 (gcs (gMore g p (false, 0 + ((24 : Nat) : Int), 0 + 24)) A2 1 c2) 29 (.tmp 9) qg 0 _ (by kernel_rfl) (by kernel_rfl) (by kernel_rfl) (by kernel_rfl) (by kernel_rfl) (by kernel_rfl) Tryz.underlying29 rfl (by kernel_rfl) (fun w hw => by obtain ⟨z1, z2, hS, _⟩ := hw.1; exact hS.hg.whole) ?_
  refine fqR 85 (clc y2) 45 (.tmp 10) qc 0 _ (by kernel_rfl) (by kernel_rfl) (by kernel_rfl) (by kernel_rfl) (by kernel_rfl) (by kernel_rfl) Tryz.underlying45 rfl (by kernel_rfl) (fun w hw => by obtain ⟨z1, z2, hS, _⟩ := hw.1; exact hS.hc.whole) ?_
  refine fq 86 (.bool true) (by kernel_rfl) (by kernel_rfl) (by kernel_rfl) (by kernel_rfl) (fun w => (by kernel_rfl)) ?_
  refine fq 87 (.bool true) (by kernel_rfl) (by kernel_rfl) (by kernel_rfl) (by kernel_rfl) (fun w => (by kernel_rfl)) ?_
  refine fq 88 (.pointer (some ⟨qc, 4, none⟩)) (by kernel_rfl) (by kernel_rfl) (by kernel_rfl) (by kernel_rfl) (fun w => (by kernel_rfl)) ?_
  refine fq1 89 (.int .i64 1) 3 (.tmp 88) qc 4 _ (by kernel_rfl) (by kernel_rfl) (by kernel_rfl) (by kernel_rfl) (by kernel_rfl) (by kernel_rfl) Tryz.underlying3 rfl (fun w hw => by obtain ⟨z1, z2, hS, _⟩ := hw.1; rw [(clFacts hS.hc).2.2.2.2.2.1, HT1.out]; rfl) ?_
  refine fq 90 (.bool true) (by kernel_rfl) (by kernel_rfl) (by kernel_rfl) (by kernel_rfl) (fun w => (by kernel_rfl)) ?_
  refine fq 91 (.bool true) (by kernel_rfl) (by kernel_rfl) (by kernel_rfl) (by kernel_rfl) (fun w => (by kernel_rfl)) ?_
  refine fstoreP (by kernel_rfl) (by kernel_rfl) (by kernel_rfl) (by kernel_rfl) 29 (.tmp 6) (.tmp 84) (by kernel_rfl) r1 0 (by kernel_rfl) (gcs (gMore g p (false, 0 + ((24 : Nat) : Int), 0 + 24)) A2 1 c2) (by kernel_rfl) 29 (by kernel_rfl) (gcs_one _ _ _ _) (fun W hw => ?hst8) ?_
  case hst8 =>
    obtain ⟨⟨z1, z2, hS, h1, h2⟩, hfs⟩ := hw
    refine ⟨z1, hS.hr1, by simp [gcs, h1], fun w' hB' hw' => ?_⟩
    have hB' := hB'.as (splice_all _ _ (by simp [gcs, h1]))
    have hC' : ∃ z1 z2, GrSt w qg qc r1 r2 z1 z2 w' (gMore g p (false, 0 + ((24 : Nat) : Int), 0 + 24)) A2 1 c2 ys y2 B bc (greetB (keyI 1 x.id) 0 x.id x.tok x.word.toNat) ∧ z1.size = 18 ∧ z2.size = 30 := ⟨_, z2, hS.setR1 hw' hB', by simp [gcs], h2⟩
    exact ⟨⟨fun _ => hB', fun e => absurd e (by decide)⟩, hC', ⟨fun _ => hC', fun k v hv => ⟨fun _ => hB', fun e => (hv.2 e).wr hw' (Blk.ne (hv.2 e) hS.hr1 (by decide))⟩⟩⟩
  rintro v -
  refine fstoreP (by kernel_rfl) (by kernel_rfl) (by kernel_rfl) (by kernel_rfl) 45 (.tmp 7) (.tmp 85) (by kernel_rfl) r2 0 (by kernel_rfl) (clc y2) (by kernel_rfl) 45 (by kernel_rfl) (clc_one _) (fun W hw => ?hst9) ?_
  case hst9 =>
    obtain ⟨⟨z1, z2, hS, h1, h2⟩, hfs⟩ := hw
    refine ⟨z2, hS.hr2, by simp [clc, h2], fun w' hB' hw' => ?_⟩
    have hB' := hB'.as (splice_all _ _ (by simp [clc, h2]))
    have hC' : ∃ z1 z2, GrSt w qg qc r1 r2 z1 z2 w' (gMore g p (false, 0 + ((24 : Nat) : Int), 0 + 24)) A2 1 c2 ys y2 B bc (greetB (keyI 1 x.id) 0 x.id x.tok x.word.toNat) ∧ z1.size = 18 ∧ z2.size = 30 := ⟨z1, _, hS.setR2 hw' hB', h1, by simp [clc]⟩
    exact ⟨⟨fun e => absurd e (by decide), fun _ => hB'⟩, hC', ⟨fun _ => hC', fun k v hv => ⟨fun e => (hv.1 e).wr hw' (Blk.ne (hv.1 e) hS.hr2 (by decide)), fun _ => hB'⟩⟩⟩
  rintro v -
  refine fend [10] (by kernel_rfl) (by kernel_rfl) ?_
  intro wJ hwJ hF
  have hQ2 := (hF _ List.mem_cons_self).2 rfl
  have hQ1 := (hF _ (List.mem_cons_of_mem _ List.mem_cons_self)).1 rfl
  clear hF HST
  refine tval (some 8) (.bool true) wJ (by kernel_rfl) (by kernel_rfl) (by kernel_rfl) ?_
  refine tend ?_
  go_simp
  refine (show ∀ (a : Act) (w : World), Code.wp _ _ _ a w → _ from by assumption) _ _ ?_
  obtain ⟨zz1, zz2, hSJ, _⟩ := hwJ
  go_wp2_with fail
  refine bodyPost_ret (results_cc3 _ _ r1 _ (gcs (gMore g p (false, 0 + ((24 : Nat) : Int), 0 + 24)) A2 1 c2) _ r2 _ (clc y2) _ Tryz.results16 rfl hQ1 Tryz.underlying29 rfl (by kernel_rfl) rfl hQ2 Tryz.underlying45 rfl (by kernel_rfl) rfl) rfl ⟨_, A2, c2, ys, y2, rfl, hSJ.gv, ?ha, ?hb, ?hc, ?hd, ?he, ?hg, hSJ.ok, ?hf, hSJ.b⟩
  case ha =>
    obtain ⟨eg1, eg2, eg3, eg4, eg5⟩ := HGF.out
    rw [HPLA.out, eg1, eg2]; rfl
  case hb => exact HGF.out.1
  case hc => have := HGF.out.2.2.1; simp only [gMore]; omega
  case hd => exact HGF.out.2.2.2.1
  case he => simp [gMore, upd]
  case hg => intro q hq; simp only [gMore, upd]; rw [if_neg hq, HGF.out.2.2.2.2]
  case hf =>
    obtain ⟨e2, e3, e4, e7⟩ := HEX.out
    have hk : (((keyI g.secret ((1 : Nat) : Int)).toNat : Nat) : Int) = keyI secret 1 := by rw [HGF.out.1]; exact Int.toNat_of_nonneg (keyI_range _ _).1
    rw [HYPL.out]
    have hxp := HXPL.out
    simp only [ClM.pl, Prod.mk.injEq] at hxp
    simp only [ClM.pl, ClM.met, hk, hxp]
    rfl
  -- ]]hf
  -- ]]he
  -- ]]hd
  -- ]]hc
  -- ]]hb
  -- ]]s4
  -- ]]s3
  -- ]]s2
  -- ]]s1
end Go.Proofs.YtbcagdjfegobnaaGreat
