/- The walk of the law TableSame. -/
import Derived.Test.YtolhlgalhhdkmaaTableOfWalk
import Derived.Test.YtolhlgalhhdkmaaTableTellsWalk
import Derived.Test.YtolhlgalhhdkmaaResizeWalk
namespace Go.Proofs.Ytolhlgalhhdkmaa
open Go.ChangeShapes Go.WideShapes Go.ChangeAt Go.RowKit
set_option linter.unusedVariables false

theorem RdX.fcut {w : World} {A : Option Addr} {xs : List Fld} (h : RdX fcells 2 w A xs) {k cap : Nat} (hk : k ≤ xs.length) (hc : xs.length ≤ cap) : RdX fcells 2 w (if cap = k then A else A.map (·.add (k * 2))) (xs.drop k) := by
  have h2 := Rd.cut (k := k) (cap := cap) h hk hc
  rw [flatMap_drop xs fcells 2 fcells_len k] at h2
  rw [← List.length_drop] at h2
  exact h2

set_option maxRecDepth 100000 in
set_option maxHeartbeats 1000000 in
theorem tableSame_walk (room : Int) (a : Option Addr) (len cap : Nat) (rs : List RawD) (less : Int) (w : World) (hroom : (Lit.int .i64 room).wf = true) (h : IsRaws w a len cap rs) (hless : (Lit.int .i64 less).wf = true) :
    Calls Try.prog 9 #[.int .i64 room, .slice a len cap, .int .i64 less] w fun e w' => e = .returned (.bool true) ∧ Below w.heap.size w w' := by
  have rr := i64_bounds' hroom
  have rn := i64_bounds' hless
  clear hroom hless
  go_enter Try.func9, Try.ntmps9
  go_wp2_with fail
  refine (tableOf_any room a len cap rs w rr.1 rr.2 h).mono ?_
  rintro e w1 ⟨r, A, n, c, B, m, d, al, R, rfl, hb, hr40, hr160, hn, hnc, hcc, hm, hmd, hdd, hm12, htab, hrd, hal⟩
  have HN := Lib.hid hn
  have hnm : n ≤ m := by rw [← hn, ← hm]; exact htab.len
  have HFM := Lib.hid htab.mem
  have hsR := htab.2.1
  have HSR : Hid (tsz R ≤ r) := hsR
  have HRD := Lib.hid hrd
  clear hn hm htab hrd hal h hsR
  go_upto_region 2 with (fail)
  refine wp_world (fun w' => Blk w' w1.heap.size 55 #[.int .i64 (r : Int), .int .i64 (m : Int), .slice A n c] ∧ RdX fcells 2 w' A R ∧ Below w.heap.size w w') ⟨Blk.new _ _ _, HRD.out.alloc _, hb.alloc hb.size _⟩ ?_
  clear hb HRD
  rintro w2 ⟨hT, hrd, hb⟩
  have HRD := Lib.hid hrd
  clear hrd
  have FT := hT.facts3
  have HFS := Lib.hid (fitR_same R r HSR.out)
  go_wp2_with fail
  refine (tResize_ok r m A n c R HN.out hnc hcc hr160 (by omega) (by omega) HFM.out HSR.out r hr160 R n HFS.out HN.out _ HRD.out).mono ?_
  rintro e w3 ⟨A3, c3, rfl, hc3, hc3', hrd3, hb3⟩
  go_upto_region 3 with (fail)
  refine wp_world (fun w' => Blk w' w1.heap.size 55 #[.int .i64 (r : Int), .int .i64 (m : Int), .slice A n c] ∧ Blk w' w3.heap.size 55 #[.int .i64 (r : Int), .int .i64 (m : Int), .slice A3 n c3] ∧ RdX fcells 2 w' A R ∧ RdX fcells 2 w' A3 R ∧ Below w.heap.size w w')
    ⟨(hT.carry hb3).alloc _, Blk.new _ _ _, (RdX.below HRD.out hb3).alloc _, hrd3.alloc _, (hb.trans (hb3.mono hb.size)).alloc (hb.trans (hb3.mono hb.size)).size _⟩ ?_
  clear FT hT hb HRD hb3 hrd3
  rintro w4 ⟨hT, hU, hrd, hrd3, hb⟩
  have HRD := Lib.hid hrd
  have HRD3 := Lib.hid hrd3
  clear hrd hrd3
  have FT := hT.facts3
  go_wp2_with fail
  refine (picked_ex _ _ rn.1 rn.2 (by omega) (by omega) _).mono ?_
  rintro e w' ⟨k, k0, k1, rfl, rfl⟩
  obtain ⟨k, rfl⟩ := Int.eq_ofNat_of_zero_le k0
  obtain ⟨V, hV⟩ : ∃ V, fitR R k = V := ⟨_, rfl⟩
  obtain ⟨v, hv⟩ : ∃ v, V.length = v := ⟨_, rfl⟩
  have hVe : ∃ q, q ≤ n ∧ V = R.drop q := by
    obtain ⟨q, h1, h2, _⟩ := fitR_end R k
    exact ⟨q, by rw [← HN.out]; exact h1, by rw [← hV]; exact h2⟩
  obtain ⟨q, hqn, hVq⟩ := hVe
  have hVf : ∀ f ∈ V, FOk f := fun f hf => HFM.out f (by rw [hVq] at hf; exact List.mem_of_mem_drop hf)
  have hVs : tsz V ≤ k := by rw [← hV]; exact fitR_fits R k
  have hqv : q + v = n := by have h1 := HN.out; rw [← hv, hVq, List.length_drop]; omega
  have HV := Lib.hid hV
  have Hv := Lib.hid hv
  have HVF := Lib.hid hVf
  have HVS := Lib.hid hVs
  have HVQ := Lib.hid hVq
  clear hV hv hVf hVs hVq
  go_wp2_with fail
  refine (tResize_ok r m A n c R HN.out hnc hcc hr160 (by omega) (by omega) HFM.out HSR.out k (by omega) V v HV.out Hv.out _ HRD.out).mono ?_
  rintro e w5 ⟨A5, c5, rfl, hc5, hc5', hrd5, hb5⟩
  go_upto_region 5 with (fail)
  refine wp_world (fun w' => Blk w' w1.heap.size 55 #[.int .i64 (r : Int), .int .i64 (m : Int), .slice A n c] ∧ Blk w' w3.heap.size 55 #[.int .i64 (r : Int), .int .i64 (m : Int), .slice A3 n c3] ∧ Blk w' w5.heap.size 55 #[.int .i64 (k : Int), .int .i64 (m : Int), .slice A5 v c5] ∧ RdX fcells 2 w' A R ∧ RdX fcells 2 w' A3 R ∧ RdX fcells 2 w' A5 V ∧ Below w.heap.size w w')
    ⟨(hT.carry hb5).alloc _, (hU.carry hb5).alloc _, Blk.new _ _ _, (RdX.below HRD.out hb5).alloc _, (RdX.below HRD3.out hb5).alloc _, hrd5.alloc _, (hb.trans (hb5.mono hb.size)).alloc (hb.trans (hb5.mono hb.size)).size _⟩ ?_
  clear FT hT hU hb HRD HRD3 hb5 hrd5
  rintro w6 ⟨hT, hU, hY, hrd, hrd3, hrd5, hb⟩
  have HRD := Lib.hid hrd
  have HRD3 := Lib.hid hrd3
  have HRD5 := Lib.hid hrd5
  clear hrd hrd3 hrd5
  have FY := hY.facts3
  have HFV := Lib.hid (fitR_same V 160 (by have := HVS.out; omega))
  go_wp2_with fail
  refine (tResize_ok k m A5 v c5 V Hv.out hc5 hc5' (by omega) (by omega) (by omega) HVF.out HVS.out 160 (by decide) V v HFV.out Hv.out _ HRD5.out).mono ?_
  rintro e w7 ⟨A7, c7, rfl, hc7, hc7', hrd7, hb7⟩
  go_upto_region 6 with (fail)
  refine wp_world (fun w' => Blk w' w1.heap.size 55 #[.int .i64 (r : Int), .int .i64 (m : Int), .slice A n c] ∧ Blk w' w3.heap.size 55 #[.int .i64 (r : Int), .int .i64 (m : Int), .slice A3 n c3] ∧ Blk w' w5.heap.size 55 #[.int .i64 (k : Int), .int .i64 (m : Int), .slice A5 v c5] ∧ Blk w' w7.heap.size 55 #[.int .i64 160, .int .i64 (m : Int), .slice A7 v c7] ∧ RdX fcells 2 w' A R ∧ RdX fcells 2 w' A3 R ∧ RdX fcells 2 w' A5 V ∧ RdX fcells 2 w' A7 V ∧ Below w.heap.size w w')
    ⟨(hT.carry hb7).alloc _, (hU.carry hb7).alloc _, (hY.carry hb7).alloc _, Blk.new _ _ _, (RdX.below HRD.out hb7).alloc _, (RdX.below HRD3.out hb7).alloc _, (RdX.below HRD5.out hb7).alloc _, hrd7.alloc _, (hb.trans (hb7.mono hb.size)).alloc (hb.trans (hb7.mono hb.size)).size _⟩ ?_
  clear FY hT hU hY hb HRD HRD3 HRD5 hb7 hrd7
  rintro w8 ⟨hT, hU, hY, hZ, hrd, hrd3, hrd5, hrd7, hb⟩
  have HRD := Lib.hid hrd
  have HRD3 := Lib.hid hrd3
  have HRD5 := Lib.hid hrd5
  have HRD7 := Lib.hid hrd7
  have HT := Lib.hid hT
  have HU := Lib.hid hU
  have HY := Lib.hid hY
  have HZ := Lib.hid hZ
  have HB := Lib.hid hb
  clear hrd hrd3 hrd5 hrd7
  have FT := hT.facts3
  have FU := hU.facts3
  have FY := hY.facts3
  have FZ := hZ.facts3
  clear hT hU hY hZ hb
  have hnq : (n : Int) - (v : Int) = (q : Int) := by omega
  have hq0 : (0 : Int) ≤ (q : Int) := by omega
  have hqb : (q : Int) ≤ (n : Int) := by omega
  have hnv : n - q = v := by omega
  have hqc : (q : Int) ≤ (c : Int) := by omega
  go_wp2_with fail
  clear FT FU FY FZ
  have hfacts : ∀ w', Below w8.heap.size w8 w' → (w'.cell? ⟨w1.heap.size, 1, none⟩ = some (.int .i64 (m : Int)) ∧ w'.cell? ⟨w1.heap.size, 2, none⟩ = some (.slice A n c)) ∧ (w'.cell? ⟨w3.heap.size, 1, none⟩ = some (.int .i64 (m : Int)) ∧ w'.cell? ⟨w3.heap.size, 2, none⟩ = some (.slice A3 n c3)) ∧
      w'.cell? ⟨w5.heap.size, 2, none⟩ = some (.slice A5 v c5) ∧ (w'.cell? ⟨w7.heap.size, 0, none⟩ = some (.int .i64 160) ∧ w'.cell? ⟨w7.heap.size, 1, none⟩ = some (.int .i64 (m : Int)) ∧ w'.cell? ⟨w7.heap.size, 2, none⟩ = some (.slice A7 v c7)) := fun w' hw' =>
    ⟨⟨(HT.out.carry hw').facts3.2.2.1, (HT.out.carry hw').facts3.2.2.2.1⟩, ⟨(HU.out.carry hw').facts3.2.2.1, (HU.out.carry hw').facts3.2.2.2.1⟩, (HY.out.carry hw').facts3.2.2.2.1, (HZ.out.carry hw').facts3.2.1, (HZ.out.carry hw').facts3.2.2.1, (HZ.out.carry hw').facts3.2.2.2.1⟩
  have HFA := Lib.hid hfacts
  have hV160 : (tsz V : Int) ≤ 160 := by have := HVS.out; omega
  have HV160 := Lib.hid hV160
  have hcut : ∀ (w' : World), Below w8.heap.size w8 w' → RdX fcells 2 w' (if c = q then A else A.map (·.add (q * 2))) V := fun w' hw' => by
    rw [HVQ.out]
    exact RdX.fcut (RdX.below HRD.out hw') (by rw [HN.out]; exact hqn) (by rw [HN.out]; exact hnc)
  have HCUT := Lib.hid hcut
  clear hfacts hV160 hcut
  by_cases hcq : c = q
  · have hcut2 : ∀ (w' : World), Below w8.heap.size w8 w' → RdX fcells 2 w' A V := fun w' hw' => by have := HCUT.out w' hw'; rwa [if_pos hcq] at this
    subst hcq
    have hcqv : v ≤ 0 := by omega
    refine wp_region_quiet (C := fun w' => Below (w8).heap.size (w8) w') (by kernel_rfl) (by kernel_rfl) (Below.refl _ _).drew ?_
    simp only [List.append_eq, List.cons_append, List.nil_append]
    repeat (
      with_reducible refine wpQuiet_step ?_
      intro K hK
      go_simp
      first
        | (refine hK _ ?_; clear hK K)
        | (apply Exists.intro
           refine ⟨fun w' hw' => ?_, hK _ ?_⟩
           first
             | (first | (go_at_call 27; exact (tableTells_any w').mono (fun e w'' ⟨he, hb⟩ => ⟨he, hw'.trans (hb.mono hw'.size)⟩)) | (go_at_call 30; with_reducible refine Calls.mono (sameFields_eq A A3 n c c3 R HN.out hnc hc3 hcc hc3' w' (RdX.below HRD.out hw') (RdX.below HRD3.out hw')) ?_; exact fun e w'' ⟨he, hb⟩ => ⟨he, hw'.trans (hb.mono hw'.size)⟩) | (go_at_call 30; with_reducible refine Calls.mono (sameFields_eq A5 A7 v c5 c7 V Hv.out hc5 hc7 hc5' hc7' w' (RdX.below HRD5.out hw') (RdX.below HRD7.out hw')) ?_; exact fun e w'' ⟨he, hb⟩ => ⟨he, hw'.trans (hb.mono hw'.size)⟩) | (go_at_call 30; with_reducible refine Calls.mono (sameFields_eq A5 A v c5 0 V Hv.out hc5 hcqv hc5' (by omega) w' (RdX.below HRD5.out hw') (hcut2 w' hw')) ?_; exact fun e w'' ⟨he, hb⟩ => ⟨he, hw'.trans (hb.mono hw'.size)⟩) | (go_at_call 28; exact (tCheck_ok 160 m A7 v c7 V Hv.out hc7 hc7' (by decide) (by decide) (by omega) (by omega) HVF.out HV160.out w' (RdX.below HRD7.out hw')).mono (fun e w'' ⟨he, hb⟩ => ⟨he, hw'.trans (hb.mono hw'.size)⟩)))
             | (have FF := HFA.out w' hw'; go_simp; done)
             | (have FF := HFA.out w' hw'; go_simp; exact rfl)
           clear hK K))
    refine wpQuiet_nil ?_
    intro wq hwq
    go_wp2_with fail
    go_ret
    exact ⟨by simp, HB.out.trans (hwq.mono HB.out.size)⟩
  · have hcut2 : ∀ (w' : World), Below w8.heap.size w8 w' → RdX fcells 2 w' (A.map (·.add (q * 2))) V := fun w' hw' => by have := HCUT.out w' hw'; rwa [if_neg hcq] at this
    have hcqv : v ≤ c - q := by omega
    have hcq' : ¬ (c : Int) = (q : Int) := by omega
    refine wp_region_quiet (C := fun w' => Below (w8).heap.size (w8) w') (by kernel_rfl) (by kernel_rfl) (Below.refl _ _).drew ?_
    simp only [List.append_eq, List.cons_append, List.nil_append]
    repeat (
      with_reducible refine wpQuiet_step ?_
      intro K hK
      go_simp
      first
        | (refine hK _ ?_; clear hK K)
        | (apply Exists.intro
           refine ⟨fun w' hw' => ?_, hK _ ?_⟩
           first
             | (first | (go_at_call 27; exact (tableTells_any w').mono (fun e w'' ⟨he, hb⟩ => ⟨he, hw'.trans (hb.mono hw'.size)⟩)) | (go_at_call 30; with_reducible refine Calls.mono (sameFields_eq A A3 n c c3 R HN.out hnc hc3 hcc hc3' w' (RdX.below HRD.out hw') (RdX.below HRD3.out hw')) ?_; exact fun e w'' ⟨he, hb⟩ => ⟨he, hw'.trans (hb.mono hw'.size)⟩) | (go_at_call 30; with_reducible refine Calls.mono (sameFields_eq A5 A7 v c5 c7 V Hv.out hc5 hc7 hc5' hc7' w' (RdX.below HRD5.out hw') (RdX.below HRD7.out hw')) ?_; exact fun e w'' ⟨he, hb⟩ => ⟨he, hw'.trans (hb.mono hw'.size)⟩) | (go_at_call 30; with_reducible refine Calls.mono (sameFields_eq A5 (A.map (·.add (q * 2))) v c5 (c - q) V Hv.out hc5 hcqv hc5' (by omega) w' (RdX.below HRD5.out hw') (hcut2 w' hw')) ?_; exact fun e w'' ⟨he, hb⟩ => ⟨he, hw'.trans (hb.mono hw'.size)⟩) | (go_at_call 28; exact (tCheck_ok 160 m A7 v c7 V Hv.out hc7 hc7' (by decide) (by decide) (by omega) (by omega) HVF.out HV160.out w' (RdX.below HRD7.out hw')).mono (fun e w'' ⟨he, hb⟩ => ⟨he, hw'.trans (hb.mono hw'.size)⟩)))
             | (have FF := HFA.out w' hw'; go_simp; done)
             | (have FF := HFA.out w' hw'; go_simp; exact rfl)
           clear hK K))
    refine wpQuiet_nil ?_
    intro wq hwq
    go_wp2_with fail
    go_ret
    exact ⟨by simp, HB.out.trans (hwq.mono HB.out.size)⟩
end Go.Proofs.Ytolhlgalhhdkmaa
