/- The walk of the law GateRoom: where there is room for one more a token is asked for. -/
import Derived.Test.YtbcagdjfegobnaaGreatC48
import Derived.Test.YtbcagdjfegobnaaGreatC50
import Derived.Test.YtbcagdjfegobnaaGreatC04
import Derived.Lib.SlBytesConst
namespace Go.Proofs.YtbcagdjfegobnaaGreat
open Go.ChangeShapes Go.WideShapes Go.ChangeAt Go.RowKit
set_option linter.unusedVariables false

/-- What is known of a gate that i have greeted. -/
structure RoomF (i : Nat) (g : GtD) (n : Nat) (xs : List NtB) : Prop where
  hn : n = min i 2
  rt : g.retry = false
  nx : g.next = ((n + 1 : Nat) : Int)
  ty : ∀ p, p < 4 → (g.t p).1 = false ∧ (g.t p).2.1 ≤ 1000 * i ∧ (g.t p).2.2 ≤ 1000 * i
  fr : ∀ x ∈ xs, x.from_ < n
/-- A gate that i have greeted. -/
structure RoomSt (w0 : World) (q : Nat) (w : World) (i : Nat) (g : GtD) (A : Option Addr) (n c : Nat) (xs : List NtB) : Prop where
  hg : Blk w q 29 (gcs g A n c)
  gv : GtV w g A n c xs
  gn : OwnX ntc 29 w w0.heap.size 53 A c xs
  f : RoomF i g n xs
  b : Below w0.heap.size w0 w
  l : w0.heap.size ≤ q
theorem RoomSt.set {w0 w w' : World} {q i : Nat} {g : GtD} {A : Option Addr} {n c : Nat} {xs : List NtB} (h : RoomSt w0 q w i g A n c xs) (hw : Wr q w w') {i2 : Nat} {g2 : GtD} {A2 : Option Addr} {n2 c2 : Nat} {ys : List NtB} (hB : Blk w' q 29 (gcs g2 A2 n2 c2)) (hv : GtV w g2 A2 n2 c2 ys) (ho : OwnX ntc 29 w w0.heap.size 53 A2 c2 ys) (hf : RoomF i2 g2 n2 ys) : RoomSt w0 q w' i2 g2 A2 n2 c2 ys :=
  have ho' := ho.wr hw (own_ne ho h.hg (by decide))
  ⟨hB, ⟨hv.hn, hv.hnc, hv.hcm, hv.ok, ho'.rd⟩, ho', hf, hw.trans_below h.b h.l, h.l⟩
theorem RoomSt.carry {w0 w w' : World} {q i : Nat} {g : GtD} {A : Option Addr} {n c : Nat} {xs : List NtB} (h : RoomSt w0 q w i g A n c xs) (hb : Below w.heap.size w w') : RoomSt w0 q w' i g A n c xs :=
  { h with hg := h.hg.carry hb, gv := h.gv.below hb, gn := h.gn.carry hb, b := h.b.trans (hb.mono h.b.size) }
theorem eight_bytes : beB 8 3544952156018063160 = [49, 50, 51, 52, 53, 54, 55, 56] := by decide
theorem fr_none {xs : List NtB} {n : Nat} (h : ∀ x ∈ xs, x.from_ < n) (p : Int) (i : Nat) (hi : n ≤ i) : xs.any (fun x => decide (x.peer = p) && decide (x.from_ = (i : Int))) = false := by
  rw [List.any_eq_false]
  intro x hx
  have := h x hx
  simp
  intro _
  omega
theorem fr_pl {xs ys : List NtB} {n : Nat} (h : ∀ x ∈ xs, x.from_ < n) (e : ys.map NtB.pl = xs.map NtB.pl) : ∀ y ∈ ys, y.from_ < n := by
  intro y hy
  have h1 : y.pl ∈ xs.map NtB.pl := by rw [← e]; exact List.mem_map_of_mem hy
  obtain ⟨x, hx, hxy⟩ := List.mem_map.1 h1
  have := h x hx
  have h2 := (pl_eq hxy).2.1
  omega
theorem fr_more {xs ys : List NtB} {n i : Nat} {a : NtP} (h : ∀ x ∈ xs, x.from_ < n) (e : ys.map NtB.pl = xs.map NtB.pl ++ [a]) (ha : a.2.1 = (n : Int)) : ∀ y ∈ ys, y.from_ < ((n + 1 : Nat) : Int) := by
  intro y hy
  have h1 : y.pl ∈ xs.map NtB.pl ++ [a] := by rw [← e]; exact List.mem_map_of_mem hy
  rcases List.mem_append.1 h1 with h1 | h1
  · obtain ⟨x, hx, hxy⟩ := List.mem_map.1 h1
    have := h x hx
    have h2 := (pl_eq hxy).2.1
    omega
  · have h3 := List.mem_singleton.1 h1
    have h2 : y.from_ = a.2.1 := by rw [← h3]; rfl
    omega

theorem ty_upd {t : Nat → Tly} {p i : Nat} (h : ∀ p, p < 4 → (t p).1 = false ∧ (t p).2.1 ≤ 1000 * i ∧ (t p).2.2 ≤ 1000 * i) (hp : p < 4) (a b : Int) (ha : a ≤ 1000) (hb : b ≤ 1000) :
    ∀ p', p' < 4 → (upd t p (false, (t p).2.1 + a, (t p).2.2 + b) p').1 = false ∧ (upd t p (false, (t p).2.1 + a, (t p).2.2 + b) p').2.1 ≤ 1000 * (i + 1 : Nat) ∧ (upd t p (false, (t p).2.1 + a, (t p).2.2 + b) p').2.2 ≤ 1000 * (i + 1 : Nat) := by
  intro p' hp'
  by_cases e : p' = p
  · subst e
    rw [upd_at]
    have := h p' hp'
    exact ⟨rfl, by simp only; omega, by simp only; omega⟩
  · have := h p' hp'
    unfold upd
    rw [if_neg e]
    exact ⟨this.1, by omega, by omega⟩
theorem RoomF.added {i : Nat} {g g2 : GtD} {n n2 m2 X p : Nat} {xs zs ys : List NtB} {ms : List MlB} (h : RoomF i g n xs) (hi : i < 2) (hp : p < 4) (ha : Added g n xs p i X (n + 1) (false, (g.t p).2.1 + (24 : Nat), (g.t p).2.2 + 24) g2 n2 zs m2 ms) (e : ys.map NtB.pl = zs.map NtB.pl) : RoomF (i + 1) g2 n2 ys := by
  obtain ⟨_, h2, h3, h4, _⟩ := ha
  have hn := h.hn
  have hnx := h.nx
  have hni : n = i := by omega
  refine ⟨by omega, by rw [h3]; exact h.rt, by rw [h3]; simp only [gMore]; omega, ?_, ?_⟩
  · rw [h3]
    exact ty_upd h.ty hp _ _ (by decide) (by decide)
  · rw [h2]
    exact fr_more (i := i) h.fr (e.trans h4) (by simp only; omega)
theorem RoomF.told {i : Nat} {g g2 : GtD} {n n2 m2 p : Nat} {xs zs ys : List NtB} {ms : List MlB} (h : RoomF i g n xs) (hi : 2 ≤ i) (hp : p < 4) (ha : Told g n xs p i (false, (g.t p).2.1 + (24 : Nat), (g.t p).2.2 + 20) g2 n2 zs m2 ms) (e : ys.map NtB.pl = zs.map NtB.pl) : RoomF (i + 1) g2 n2 ys := by
  obtain ⟨_, h2, h3, h4, _⟩ := ha
  have hn := h.hn
  have hnx := h.nx
  refine ⟨by omega, by rw [h3]; exact h.rt, by rw [h3]; simp only [GtD.set]; omega, ?_, ?_⟩
  · rw [h3]
    exact ty_upd h.ty hp _ _ (by decide) (by decide)
  · rw [h2]
    exact fr_pl h.fr (e.trans h4)
/-- The first byte. -/
theorem RdB.first {w : World} {D : Option Addr} {b : UInt8} {bs : List UInt8} (h : RdB w D bs) (hb : bs.head? = some b) : ∃ bD oD, D = some ⟨bD, oD, none⟩ ∧ w.cell? ⟨bD, oD, none⟩ = some (.int .u8 b.toNat) := by
  cases bs with
  | nil => cases hb
  | cons a t =>
    obtain rfl : a = b := Option.some.inj hb
    obtain ⟨bD, oD, rfl, hc⟩ := h.2 (by simp)
    exact ⟨bD, oD, rfl, by simpa [u8s] using hc 0 _ rfl⟩
theorem greetB_first (key : Int) (t f : Nat) (tok : List UInt8) (x : Nat) : (greetB key t f tok x).head? = some 192 := rfl
theorem retryB_first (t : Nat) (tok : List UInt8) : (retryB t tok).head? = some 240 := rfl

set_option maxRecDepth 100000 in
set_option maxHeartbeats 8000000 in
theorem gateRoom_walk (secret many : Int) (w : World) (hse : (Lit.int .i64 secret).wf = true) (hma : (Lit.int .i64 many).wf = true) :
    Calls Tryz.prog 5 #[.int .i64 secret, .int .i64 many] w fun e w' => e = .returned (.bool true) ∧ Below w.heap.size w w' := by
  obtain ⟨v0, v1⟩ := i64_bounds hma
  have hwr := wrap_range secret
  clear hma hse
  obtain ⟨m_, HM, m0, m1⟩ := mod_ex many 6 (by decide)
  obtain ⟨m, rfl⟩ : ∃ m : Nat, m_ = m := ⟨m_.toNat, by omega⟩
  go_enter Tryz.func5, Tryz.ntmps5
  -- [[r1
  go_wp2_with fail
  refine (gateBegin_ok (IntKind.u64.wrap secret) false _).mono ?_
  rintro e w2 ⟨rfl, hb2⟩
  go_upto_region 2 with (first
    | (refine wpList_storeP rfl 29 (.tmp 5) (.tmp 16) rfl w2.heap.size 0 rfl (gcs ⟨IntKind.u64.wrap secret, 0, 1, fun _ => (false, 0, 0), false, 0⟩ none 0 0) rfl 29 _ (Blk.new _ _ _) (by kernel_rfl) (by simp [gcs]) (gcs_one _ _ _ _) _ (splice_all _ _ (by simp [gcs])) ?_
       intro w3 hBw3 hw3))
  have hb3 : Below w2.heap.size w2 w3 := hw3.trans_below ((Below.refl _ _).alloc (Nat.le_refl _) _) (Nat.le_refl _)
  obtain ⟨q, hq⟩ : ∃ q, w2.heap.size = q := ⟨_, rfl⟩
  have hS : RoomSt w q w3 0 ⟨IntKind.u64.wrap secret, 0, 1, fun _ => (false, 0, 0), false, 0⟩ none 0 0 [] := by
    refine ⟨by rw [← hq]; exact hBw3, ⟨rfl, by decide, by decide, ⟨hwr.1, hwr.2, by simp, by simp, by simp, by simp, by simp, by simp, fun i _ => ⟨⟨by simp, by simp⟩, ⟨by simp, by simp⟩, fun _ => by simp⟩, by simp, fun x hx => absurd hx List.not_mem_nil, List.Pairwise.nil⟩, RdX.nil⟩, OwnX.nil _ _ _, ⟨rfl, rfl, rfl, fun p _ => ⟨rfl, by simp, by simp⟩, fun x hx => absurd hx List.not_mem_nil⟩, hb2.trans (hb3.mono hb2.size), by have := hb2.size; omega⟩
  rw [hq]
  clear hq hb3 hw3 hBw3 hb2
  refine wp_world (fun w' => RoomSt w q w' 0 ⟨IntKind.u64.wrap secret, 0, 1, fun _ => (false, 0, 0), false, 0⟩ none 0 0 []) hS ?_
  clear hS
  rintro w4 hS
  go_wp2_with fail
  refine (picked_at many 6 m v0 v1 (by decide) (by decide) HM _).mono ?_
  rintro e w' ⟨rfl, rfl⟩
  obtain ⟨k, hk⟩ : ∃ k : Nat, (1 : Int) + (m : Int) = (k : Int) := ⟨1 + m, by omega⟩
  have hk6 : k ≤ 6 := by omega
  clear HM m0 m1
  go_wp2_with fail
  try rw [hk]
  clear hk
  go_loopw [21] (fun s21 wr => ∃ (i : Nat) (g : GtD) (A : Option Addr) (n c : Nat) (xs : List NtB), i ≤ k ∧ s21 = .int .i64 i ∧ RoomSt w q wr i g A n c xs) (fun s21 _ => k - (intOf s21).toNat)
  case atStart => exact ⟨0, _, _, _, _, _, Nat.zero_le _, rfl, hS⟩
  case round =>
    obtain ⟨i, g, A, n, c, xs, hik, rfl, hSr⟩ := hrel
    clear hS
    have HS := Lib.hid hSr
    clear hSr
    by_cases hlt : i < k
    -- [[r2
    · have hi6 : i < 6 := by omega
      have hki : (i : Int) < (k : Int) := by omega
      go_wp2_with fail
      refine (first_any (i : Int) _).mono ?_
      rintro e w' ⟨rfl, rfl⟩
      have hcv := Lib.run_convert_bytes_const (P := Tryz.prog) wr 30 5 #[.int .u8 49, .int .u8 50, .int .u8 51, .int .u8 52, .int .u8 53, .int .u8 54, .int .u8 55, .int .u8 56] 8 8 Tryz.underlying30 Tryz.underlying5
      go_wp2_with fail
      have hL := RdX.oneF (wr.alloc (.cells #[.int .u8 49, .int .u8 50, .int .u8 51, .int .u8 52, .int .u8 53, .int .u8 54, .int .u8 55, .int .u8 56] 5 (8, 9))) 68 3544952156018063160 (some ⟨wr.heap.size, 0, none⟩) 8
      have hD0 : RdB (wr.alloc (.cells #[.int .u8 49, .int .u8 50, .int .u8 51, .int .u8 52, .int .u8 53, .int .u8 54, .int .u8 55, .int .u8 56] 5 (8, 9))) (some ⟨wr.heap.size, 0, none⟩) [49, 50, 51, 52, 53, 54, 55, 56] :=
        ⟨rfl, fun _ => ⟨wr.heap.size, 0, rfl, fun j u hu => by rw [cell_of_row _ _ _ _ _ (8, 9) (heap_alloc_new wr _), Nat.zero_add]; simpa [u8s] using hu⟩⟩
      have hD := hD0.below ((Below.refl _ _).alloc (Nat.le_refl _) (.cells (hfc (some ⟨wr.heap.size, 0, none⟩) 8) 68))
      rw [← eight_bytes] at hD
      have hcar : Below wr.heap.size wr ((wr.alloc (.cells #[.int .u8 49, .int .u8 50, .int .u8 51, .int .u8 52, .int .u8 53, .int .u8 54, .int .u8 55, .int .u8 56] 5 (8, 9))).alloc (.cells (hfc (some ⟨wr.heap.size, 0, none⟩) 8) 68)) := ((Below.refl _ _).alloc (Nat.le_refl _) _).alloc (by simp) _
      clear hcv hD0
      -- [[r4
      refine (greet_any (keyI 1 (i : Int)) (keyI_range _ _).1 (keyI_range _ _).2 0 i (by decide) (by omega) none 0 0 [] rfl (by decide) 3544952156018063160 (some ⟨wr.heap.size, 0, none⟩) 8 (by decide) (by decide) (some ⟨wr.heap.size + 1, 0, none⟩) _ Rd.nil (by simpa using hL) hD).mono ?_
      rintro e w5 ⟨B, bc, rfl, hOB, hb5⟩
      have hcb := hcar.trans (hb5.mono hcar.size)
      -- [[r5
      have HSB := Lib.hid (HS.out.carry hcb)
      have HOB := Lib.hid hOB
      have hw5 := hcb.size
      clear hL hD hcar hb5 hcb HS
      obtain ⟨p, hp, hp4⟩ : ∃ p : Nat, (i : Int).tmod 4 = (p : Int) ∧ p < 4 := ⟨i % 4, by rw [Int.tmod_eq_emod_of_nonneg (by omega)]; omega, by omega⟩
      have htyp := HSB.out.f.ty p hp4
      have hcapB := hOB.cap
      rw [greetB_len _ _ _ _ _ (by decide)] at hcapB
      by_cases hi2 : i < 2
      · have hn := HSB.out.f.hn
        have HE := hear_new p hp4 i 3544952156018063160 (by omega) (by decide) [] (by decide) B bc hcapB.1 hcapB.2 g A n c xs htyp.1 (by have := htyp.2.1; omega) (by have := htyp.2.2; omega) (n + 1) HSB.out.f.nx (by omega) (fr_none HSB.out.f.fr p i (by omega)) w5 HSB.out.gv hOB.rd.b (by omega) HSB.out.f.rt
        simp only [List.length_nil, Nat.add_zero] at HE
        -- [[a6
        have HE := Lib.hid HE
        have HHP := Lib.hid hp
        have HI := Lib.hid hi2
        clear htyp hcapB hn hi2
        have hig : ((2 : Int) ≤ (i : Int)) = False := by have := HI.out; simp; omega
        go_wp2_with (refine wpList_loadR rfl 29 (.tmp 5) rfl q 0 rfl (gcs g A n c) _ Tryz.underlying29 rfl (by kernel_rfl) HSB.out.hg.whole ?_)
        try rw [HHP.out]
        refine HE.out.mono ?_
        rintro e w6 ⟨g2, A2, n2, c2, ys, zs, O2, m2, co2, ms2, rfl, hGV, hpl, hPr, hml, hmc, hcm, hMO, hON, hb6⟩
        have hF := HSB.out.f.added HI.out hp4 hPr hpl
        obtain ⟨-, -, -, -, rfl, D, dc, rfl⟩ := hPr
        have HF := Lib.hid hF
        have HSC := Lib.hid (HSB.out.carry hb6)
        have HGV := Lib.hid hGV
        have HON := Lib.hid (hON.mono HSB.out.b.size)
        have HMO := Lib.hid hMO
        have HCM := Lib.hid (And.intro hmc hcm)
        have hs6 := hb6.size
        clear hF hGV hpl hml hmc hcm hMO hON hb6 HE HSB HOB
        -- [[a7
        go_upto_region 8 with (first
          | (refine wpList_storeP rfl 29 (.tmp 10) (.tmp 42) rfl w6.heap.size 0 rfl (gcs g2 A2 n2 c2) rfl 29 _ (Blk.new _ _ _) (by kernel_rfl) (by simp [gcs]) (gcs_one _ _ _ _) _ (splice_all _ _ (by simp [gcs])) ?_
             intro w7 hBw7 hw7))
        have hb7 : Below w6.heap.size w6 w7 := hw7.trans_below ((Below.refl _ _).alloc (Nat.le_refl _) _) (Nat.le_refl _)
        obtain ⟨q7, hq7⟩ : ∃ q, w6.heap.size = q := ⟨_, rfl⟩
        refine wp_world (fun w' => RoomSt w q w' i g A n c xs ∧ Blk w' q7 29 (gcs g2 A2 n2 c2) ∧ GtV w' g2 A2 n2 c2 ys ∧ OwnX ntc 29 w' w.heap.size 53 A2 c2 ys ∧ MlOwn w' w5.heap.size O2 co2 [⟨p, D, 24, dc, greetB (keyI 1 (i : Int)) i (n + 1) [] (keyI g.secret ((n + 1 : Nat) : Int)).toNat⟩]) ⟨HSC.out.carry hb7, by rw [← hq7]; exact hBw7, HGV.out.below hb7, HON.out.carry hb7, HMO.out.carry hb7⟩ ?_
        rw [hq7]
        clear hq7 hb7 hw7 hBw7 HSC HGV HON HMO
        rintro w8 ⟨hS, hQ, hGV, hON, hM⟩
        obtain ⟨bO, oO, rfl, hcO⟩ := ml_cell hM.1
        obtain ⟨bD, oD, rfl, fD⟩ := (hM.2 _ List.mem_cons_self).1.rd.b.first (greetB_first _ _ _ _ _)
        have fO : w8.cell? ⟨bO, oO + 1, none⟩ = some (.slice (some ⟨bD, oD, none⟩) 24 dc) := hcO 1 _ rfl
        have HS8 := Lib.hid hS
        have HQ8 := Lib.hid hQ
        have HGV := Lib.hid hGV
        have HON := Lib.hid hON
        clear hS hQ hGV hON hM hcO
        -- [[a8
        go_wp2_with (first
          | refine wpList_loadR rfl 29 (.tmp 10) rfl q7 0 rfl (gcs g2 A2 n2 c2) _ Tryz.underlying29 rfl (by kernel_rfl) HQ8.out.whole ?_
          | (refine wpList_storeP rfl 29 (.tmp 5) (.tmp 71) rfl q 0 rfl (gcs g2 A2 n2 c2) rfl 29 _ HS8.out.hg (by kernel_rfl) (by simp [gcs]) (gcs_one _ _ _ _) _ (splice_all _ _ (by simp [gcs])) ?_
             intro w9 hBw9 hw9))
        exact ⟨⟨i + 1, g2, A2, n2, c2, ys, by omega, by simp, HS8.out.set hw9 hBw9 HGV.out HON.out HF.out⟩, by simp [intOf]; omega⟩
        -- ]]a8
        -- ]]a7
        -- ]]a6
      · have hn := HSB.out.f.hn
        have HE := hear_full p hp4 i 3544952156018063160 (by omega) (by decide) [] (by decide) B bc hcapB.1 hcapB.2 g A n c xs htyp.1 (by have := htyp.2.1; omega) (by have := htyp.2.2; omega) (n + 1) HSB.out.f.nx (by omega) (fr_none HSB.out.f.fr p i (by omega)) w5 HSB.out.gv hOB.rd.b (by omega) HSB.out.f.rt (by decide)
        simp only [List.length_nil, Nat.add_zero] at HE
        -- [[b6
        have HE := Lib.hid HE
        have HHP := Lib.hid hp
        have HI := Lib.hid (Nat.le_of_not_lt hi2)
        clear htyp hcapB hn hi2
        have hig : ((2 : Int) ≤ (i : Int)) = True := by have := HI.out; simp; omega
        go_wp2_with (refine wpList_loadR rfl 29 (.tmp 5) rfl q 0 rfl (gcs g A n c) _ Tryz.underlying29 rfl (by kernel_rfl) HSB.out.hg.whole ?_)
        try rw [HHP.out]
        refine HE.out.mono ?_
        rintro e w6 ⟨g2, A2, n2, c2, ys, zs, O2, m2, co2, ms2, rfl, hGV, hpl, hPr, hml, hmc, hcm, hMO, hON, hb6⟩
        have hF := HSB.out.f.told HI.out hp4 hPr hpl
        obtain ⟨-, -, -, -, rfl, D, dc, rfl⟩ := hPr
        have HF := Lib.hid hF
        have HSC := Lib.hid (HSB.out.carry hb6)
        have HGV := Lib.hid hGV
        have HON := Lib.hid (hON.mono HSB.out.b.size)
        have HMO := Lib.hid hMO
        have HCM := Lib.hid (And.intro hmc hcm)
        have hs6 := hb6.size
        clear hF hGV hpl hml hmc hcm hMO hON hb6 HE HSB HOB
        -- [[b7
        go_upto_region 8 with (first
          | (refine wpList_storeP rfl 29 (.tmp 10) (.tmp 42) rfl w6.heap.size 0 rfl (gcs g2 A2 n2 c2) rfl 29 _ (Blk.new _ _ _) (by kernel_rfl) (by simp [gcs]) (gcs_one _ _ _ _) _ (splice_all _ _ (by simp [gcs])) ?_
             intro w7 hBw7 hw7))
        have hb7 : Below w6.heap.size w6 w7 := hw7.trans_below ((Below.refl _ _).alloc (Nat.le_refl _) _) (Nat.le_refl _)
        obtain ⟨q7, hq7⟩ : ∃ q, w6.heap.size = q := ⟨_, rfl⟩
        refine wp_world (fun w' => RoomSt w q w' i g A n c xs ∧ Blk w' q7 29 (gcs g2 A2 n2 c2) ∧ GtV w' g2 A2 n2 c2 ys ∧ OwnX ntc 29 w' w.heap.size 53 A2 c2 ys ∧ MlOwn w' w5.heap.size O2 co2 [⟨p, D, 20, dc, retryB i (tokB g.secret p g.now)⟩]) ⟨HSC.out.carry hb7, by rw [← hq7]; exact hBw7, HGV.out.below hb7, HON.out.carry hb7, HMO.out.carry hb7⟩ ?_
        rw [hq7]
        clear hq7 hb7 hw7 hBw7 HSC HGV HON HMO
        rintro w8 ⟨hS, hQ, hGV, hON, hM⟩
        obtain ⟨bO, oO, rfl, hcO⟩ := ml_cell hM.1
        obtain ⟨bD, oD, rfl, fD⟩ := (hM.2 _ List.mem_cons_self).1.rd.b.first (retryB_first _ _)
        have fO : w8.cell? ⟨bO, oO + 1, none⟩ = some (.slice (some ⟨bD, oD, none⟩) 20 dc) := hcO 1 _ rfl
        have HS8 := Lib.hid hS
        have HQ8 := Lib.hid hQ
        have HGV := Lib.hid hGV
        have HON := Lib.hid hON
        clear hS hQ hGV hON hM hcO
        -- [[b8
        go_wp2_with (first
          | refine wpList_loadR rfl 29 (.tmp 10) rfl q7 0 rfl (gcs g2 A2 n2 c2) _ Tryz.underlying29 rfl (by kernel_rfl) HQ8.out.whole ?_
          | (refine wpList_storeP rfl 29 (.tmp 5) (.tmp 71) rfl q 0 rfl (gcs g2 A2 n2 c2) rfl 29 _ HS8.out.hg (by kernel_rfl) (by simp [gcs]) (gcs_one _ _ _ _) _ (splice_all _ _ (by simp [gcs])) ?_
             intro w9 hBw9 hw9))
        exact ⟨⟨i + 1, g2, A2, n2, c2, ys, by omega, by simp, HS8.out.set hw9 hBw9 HGV.out HON.out HF.out⟩, by simp [intOf]; omega⟩
        -- ]]b8
        -- ]]b7
        -- ]]b6
      -- ]]r5
      -- ]]r4
    -- ]]r2
    -- [[r3
    · obtain rfl : i = k := by omega
      have hkk : ((i : Int) < (i : Int)) = False := by simp
      clear hik hlt
      go_wp2_with fail
      refine (gateTells_ok _).mono ?_
      rintro e w1 ⟨rfl, hb1⟩
      have HS1 := Lib.hid (HS.out.carry hb1)
      have f3 : w1.cell? ⟨q, 3, none⟩ = some (.slice A n c) := by rw [HS1.out.hg.cell]; rfl
      have hql : q < w1.heap.size := HS1.out.hg.lt
      have hmin : (min (i : Int) 2) = (n : Int) := by have := HS1.out.f.hn; omega
      clear hb1 HS
      go_wp2_with fail
      all_goals go_ret
      all_goals first
        | (have hx : ((n : Int) == 2) = true := by rw [beq_iff_eq]; omega
           exact ⟨congrArg (fun b => Ending.returned (.bool b)) hx, HS1.out.b⟩)
        | (have hx : ((n : Int) == (i : Int)) = true := by rw [beq_iff_eq]; omega
           exact ⟨congrArg (fun b => Ending.returned (.bool b)) hx, HS1.out.b⟩)
    -- ]]r3
  -- ]]r1
end Go.Proofs.YtbcagdjfegobnaaGreat
