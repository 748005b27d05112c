/- The walk of the law RequestWaits: a request waits for what is told ahead, and is read when that has come. -/
import Derived.Test.YtihngonemdaihaaRqTwo
namespace Go.Proofs.Ytihngonemdaihaa
open Go.ChangeShapes Go.WideShapes Go.ChangeAt Go.RowKit
set_option linter.unusedVariables false

set_option maxRecDepth 100000 in
set_option maxHeartbeats 8000000 in
theorem requestWaits_walk (RA : Option Addr) (len cap : Nat) (rs : List RawD) (s : ByteArray) (n : Int) (w : World) (h : IsRaws w RA len cap rs) (hs : s.size ≤ maxLen) (hn : (Lit.int .i64 n).wf = true) :
    Calls Try.prog 4 #[.slice RA len cap, .string s, .int .i64 n] w fun e w' => e = .returned (.bool true) ∧ Below w.heap.size w w' := by
  obtain ⟨n0, n1⟩ := i64_bounds' hn
  have HRS := Lib.hid h
  have hs9 : s.size ≤ 9223372036854775807 := hs
  clear hn h hs
  go_enter Try.func4, Try.ntmps4
  go_wp2_with fail
  refine (requestOf_any _ RA len cap rs HRS.out s hs9 n n0 n1).mono ?_
  rintro e w1 ⟨L, m, cL, fs, BA, bn, bc, body, rfl, hF, hm, hmc, hcL, hrd, hB, hbn, hb1⟩
  have HF := Lib.hid hF
  have HM := Lib.hid hm
  have HRD := Lib.hid hrd
  have HB := Lib.hid hB
  have HB1 := Lib.hid hb1
  have hbl : body.length ≤ 200 := by rw [hB.hn]; exact hbn
  have hfl : fs.length ≤ 8 := hF.ok.few
  have hm8 : m ≤ 8 := by omega
  clear hF hm hrd hB hb1
  go_upto_region 2 with (fail)
  obtain ⟨gR, hgR⟩ : ∃ q, w1.heap.size = q := ⟨_, rfl⟩
  refine wp_world (fun w' => Blk w' gR 26 #[.slice L m cL, .slice BA bn bc] ∧ RdX fcells 2 w' L fs ∧ BV w' BA bn bc body ∧ Below w.heap.size w w') ⟨Blk.newR hgR, RdX.below HRD.out ((Below.refl _ _).alloc (Nat.le_refl _) _), HB.out.below ((Below.refl _ _).alloc (Nat.le_refl _) _), HB1.out.alloc HB1.out.size _⟩ ?_
  try rw [hgR]
  clear hgR HRD HB HB1
  rintro w2 ⟨hR2, hrd2, hB2, hb2⟩
  have HR2 := Lib.hid hR2
  have HRD2 := Lib.hid hrd2
  have HBV2 := Lib.hid hB2
  have HB2 := Lib.hid hb2
  clear hR2 hrd2 hB2 hb2
  go_upto_region 3 with (fail)
  obtain ⟨gT, hgT⟩ : ∃ q, w2.heap.size = q := ⟨_, rfl⟩
  have hRT : gR < gT := by have := HR2.out.lt; omega
  refine wp_world (fun w' => Blk w' gT 29 #[.int .i64 100, .int .i64 0, .slice none 0 0] ∧ Blk w' gR 26 #[.slice L m cL, .slice BA bn bc] ∧ RdX fcells 2 w' L fs ∧ BV w' BA bn bc body ∧ Below w.heap.size w w') ⟨Blk.newQ hgT, HR2.out.alloc _, RdX.below HRD2.out ((Below.refl _ _).alloc (Nat.le_refl _) _), HBV2.out.below ((Below.refl _ _).alloc (Nat.le_refl _) _), HB2.out.alloc HB2.out.size _⟩ ?_
  try rw [hgT]
  clear hgT HR2 HRD2 HBV2 HB2
  rintro w3 ⟨hT3, hR3, hrd3, hB3, hb3⟩
  have HT3 := Lib.hid hT3
  have HR3 := Lib.hid hR3
  have HRD3 := Lib.hid hrd3
  have HBV3 := Lib.hid hB3
  have HB3 := Lib.hid hb3
  have FT := hT3.facts3
  have FR := hR3.two
  clear hT3 hR3 hrd3 hB3 hb3
  go_wp2_with fail
  refine (rWrite_new _ 100 (by decide) true L m cL fs HM.out hmc hcL HRD3.out HF.out BA bn bc body HBV3.out hbn).mono ?_
  rintro e w4 ⟨A, n', c, A1, n1', c1, A2, n2, c2, T, told, S, rfl, hT8, hS, hn2, hn2p, hah, hd1, hd2, hV4, hX4, hb4⟩
  have HT4 := Lib.hid (HT3.out.carry hb4)
  have HR4 := Lib.hid (HR3.out.carry hb4)
  have HRD4 := Lib.hid (RdX.below HRD3.out hb4)
  have HBV4 := Lib.hid (HBV3.out.below hb4)
  have HB4 := Lib.hid (HB3.out.trans (hb4.mono HB3.out.size))
  have HD1 := Lib.hid hd1
  have HD2 := Lib.hid hd2
  have HV4 := Lib.hid hV4
  have HX4 := Lib.hid hX4
  clear hah hd1 hd2 hV4 hX4 hb4 HT3 HR3 HRD3 HBV3 HB3 FT FR
  go_upto_region 4 with (fail)
  obtain ⟨gU, hgU⟩ : ∃ q, w4.heap.size = q := ⟨_, rfl⟩
  have hTU : gT < gU := by have := HT4.out.lt; omega
  refine wp_world (fun w' => TabB w' gU 100 (T : Int) A n' c told ∧ Blk w' gT 29 #[.int .i64 100, .int .i64 0, .slice none 0 0] ∧ Blk w' gR 26 #[.slice L m cL, .slice BA bn bc] ∧ RdX fcells 2 w' L fs ∧ BV w' BA bn bc body ∧ BV w' A2 n2 c2 (frmB 1 S ++ bodF body) ∧ Below w.heap.size w w') ⟨⟨Blk.newQ hgU, HV4.out.below ((Below.refl _ _).alloc (Nat.le_refl _) _)⟩, HT4.out.alloc _, HR4.out.alloc _, RdX.below HRD4.out ((Below.refl _ _).alloc (Nat.le_refl _) _), HBV4.out.below ((Below.refl _ _).alloc (Nat.le_refl _) _), HX4.out.below ((Below.refl _ _).alloc (Nat.le_refl _) _), HB4.out.alloc HB4.out.size _⟩ ?_
  try rw [hgU]
  clear hgU HT4 HR4 HRD4 HBV4 HX4 HV4 HB4
  rintro w5 ⟨hU5, hT5, hR5, hrd5, hB5, hX5, hb5⟩
  have HU5 := Lib.hid hU5
  have HT5 := Lib.hid hT5
  have HR5 := Lib.hid hR5
  have HRD5 := Lib.hid hrd5
  have HBV5 := Lib.hid hB5
  have HX5 := Lib.hid hX5
  have HB5 := Lib.hid hb5
  have FT := hT5.facts3
  have hal := hX5.hn
  have HAL := Lib.hid hal
  clear hal hU5 hT5 hR5 hrd5 hB5 hX5 hb5
  have hgo : ∀ o k, feedGo S o 0 true (k + 3) ⟨frmB 1 S ++ bodF body, [], false, [], false⟩ = some (⟨[], o, true, body, true⟩, 0) := fun o k => by
    have h := feed_all S body o (by omega) hbl true k (frmB 1 S ++ bodF body).length (Nat.le_refl _) (fun _ => rfl)
    rw [List.take_length, rdAt_end] at h
    exact h
  have HGO := Lib.hid hgo
  clear hgo
  rcases HD2.out with ⟨rfl, hd0⟩ | ⟨hT0, hd0⟩
  ·
    -- [[now
    go_wp2_with fail
    refine (rFeed_any _ 100 0 none 0 0 [] (tabNew _ 100 (by decide)) none 0 0 none 0 0 none 0 0 ⟨[], [], false, [], false⟩ (RdrV.nil _) rfl (by decide) (by decide) (by decide) A2 n2 c2 _ HX5.out (by omega) true S fs 0 hd0 (fun _ => HF.out.ok) 3 _ 0 (HGO.out fs 0)).mono ?_
    rintro e w6 ⟨HA, hn, hc, FA, fn, fc, BB, bbn, bbc, rfl, hV6, hb6⟩
    have HU6 := Lib.hid (HU5.out.below hb6)
    have HT6 := Lib.hid (HT5.out.carry hb6)
    have HR6 := Lib.hid (HR5.out.carry hb6)
    have HRD6 := Lib.hid (RdX.below HRD5.out hb6)
    have HBV6 := Lib.hid (HBV5.out.below hb6)
    have HB6 := Lib.hid (HB5.out.trans (hb6.mono HB5.out.size))
    clear hb6 HU5 HT5 HR5 HRD5 HBV5 HB5 HX5
    go_upto_region 5 with (fail)
    obtain ⟨gX, hgX⟩ : ∃ q, w6.heap.size = q := ⟨_, rfl⟩
    refine wp_world (fun w' => Blk w' gX 35 #[.slice HA hn hc, .slice FA fn fc, .bool true, .slice BB bbn bbc, .bool true] ∧ RdrV w' HA hn hc [] FA fn fc fs BB bbn bbc body ∧ TabB w' gU 100 ((0 : Nat) : Int) A n' c told ∧ Blk w' gT 29 #[.int .i64 100, .int .i64 0, .slice none 0 0] ∧ Blk w' gR 26 #[.slice L m cL, .slice BA bn bc] ∧ RdX fcells 2 w' L fs ∧ BV w' BA bn bc body ∧ Below w.heap.size w w') ⟨Blk.newR hgX, hV6.below ((Below.refl _ _).alloc (Nat.le_refl _) _), HU6.out.below ((Below.refl _ _).alloc (Nat.le_refl _) _), HT6.out.alloc _, HR6.out.alloc _, RdX.below HRD6.out ((Below.refl _ _).alloc (Nat.le_refl _) _), HBV6.out.below ((Below.refl _ _).alloc (Nat.le_refl _) _), HB6.out.alloc HB6.out.size _⟩ ?_
    try rw [hgX]
    have hUX : gU < gX := by have := HU6.out.blk.lt; omega
    clear hgX HU6 HT6 HR6 HRD6 HBV6 HB6 hV6 FT
    rintro w7 ⟨hX7, hVW7, hU7, hT7, hR7, hrd7, hB7, hb7⟩
    have HX7 := Lib.hid hX7
    have HVW7 := Lib.hid hVW7
    have HU7 := Lib.hid hU7
    have HT7 := Lib.hid hT7
    have HR7 := Lib.hid hR7
    have HRD7 := Lib.hid hrd7
    have HBV7 := Lib.hid hB7
    have HB7 := Lib.hid hb7
    have FT := hT7.facts3
    have FU := hU7.blk.facts3
    clear hX7 hVW7 hU7 hT7 hR7 hrd7 hB7 hb7
    have FX := HX7.out.facts5R
    have FR := HR7.out.two
    go_wp2_with fail
    refine (requestTells_any _).mono ?_
    rintro e w8 ⟨rfl, hb8⟩
    have HX8 := Lib.hid (HX7.out.carry hb8)
    have HR8 := Lib.hid (HR7.out.carry hb8)
    have HRD8 := Lib.hid (RdX.below HRD7.out hb8)
    have HBV8 := Lib.hid (HBV7.out.below hb8)
    have HVW8 := Lib.hid (HVW7.out.below hb8)
    have HB8 := Lib.hid (HB7.out.trans (hb8.mono HB7.out.size))
    have FX8 := HX8.out.facts5R
    have FR8 := HR8.out.two
    clear hb8 HX7 HR7 HRD7 HBV7 HVW7 HB7 FX FR
    go_wp2_with fail
    have hfn : fn = m := by rw [← HVW8.out.fn_]; exact HM.out
    subst hfn
    have hfc := HVW8.out.fc_
    have hfm := HVW8.out.fm_
    refine (sameFields_eq FA L fn fc cL fs HM.out hfc hmc hfm hcL _ HVW8.out.f HRD8.out).mono ?_
    rintro e w9 ⟨rfl, hb9⟩
    have HX9 := Lib.hid (HX8.out.carry hb9)
    have HR9 := Lib.hid (HR8.out.carry hb9)
    have HB9 := Lib.hid (HB8.out.trans (hb9.mono HB8.out.size))
    have FX9 := HX9.out.facts5R
    have FR9 := HR9.out.two
    have hb1' := (HBV8.out.below hb9)
    have hb2' := (HVW8.out.below hb9).b
    have hn1' : body.length = bn := hb1'.hn
    have hn2' : body.length = bbn := hb2'.hn
    have s1 : (convert 24 9 (.slice BA bn bc)).run Try.prog w9 = .ok (.string (byt body)) w9 := by
      rw [← hn1']; exact RdB.str hb1'.rd 24 9 5 bc Try.underlying24 Try.underlying5 Try.underlying9
    have s2 : (convert 24 9 (.slice BB bbn bbc)).run Try.prog w9 = .ok (.string (byt body)) w9 := by
      rw [← hn2']; exact RdB.str hb2'.rd 24 9 5 bbc Try.underlying24 Try.underlying5 Try.underlying9
    clear hb9 HX8 HR8 HRD8 HBV8 HVW8 HB8 FX8 FR8 hb1' hb2'
    generalize byt body = bst at *
    go_wp2_with fail
    refine bodyPost_ret (v := .bool true) ?_ rfl ⟨rfl, ?_⟩
    · simp [results, Try.results4, go_sem] <;> rfl
    · have h := HB9.out
      (repeat (first | with_reducible exact h | with_reducible refine Below.drew ?_ | (with_reducible refine Below.set4 ?_ ?side _ _ _ _; case side => (first | omega | (simp; omega) | (simp; done))) | (with_reducible refine Below.setCell ?_ ?side _; case side => (first | omega | (simp; omega) | (simp; done))) | (with_reducible refine Below.alloc ?_ ?side _; case side => (first | omega | (simp; omega) | (simp; done)))))
    -- ]]now
  ·
    -- [[wait
    go_wp2_with fail
    refine (rFeed_any _ 100 0 none 0 0 [] (tabNew _ 100 (by decide)) none 0 0 none 0 0 none 0 0 ⟨[], [], false, [], false⟩ (RdrV.nil _) rfl (by decide) (by decide) (by decide) A2 n2 c2 _ HX5.out (by omega) true S [] 14 hd0 (fun h => absurd h (by decide)) 1 _ 14 (feed_wait S body (by omega) true 0 [])).mono ?_
    rintro e w6 ⟨HA0, hn0, hc0, FA0, fn0, fc0, BB0, bbn0, bbc0, rfl, hV6, hb6⟩
    have HU6 := Lib.hid (HU5.out.below hb6)
    have HT6 := Lib.hid (HT5.out.carry hb6)
    have HR6 := Lib.hid (HR5.out.carry hb6)
    have HRD6 := Lib.hid (RdX.below HRD5.out hb6)
    have HBV6 := Lib.hid (HBV5.out.below hb6)
    have HB6 := Lib.hid (HB5.out.trans (hb6.mono HB5.out.size))
    clear hb6 HU5 HT5 HR5 HRD5 HBV5 HB5 HX5
    go_upto_region 5 with (fail)
    obtain ⟨gX, hgX⟩ : ∃ q, w6.heap.size = q := ⟨_, rfl⟩
    refine wp_world (fun w' => Blk w' gX 35 #[.slice HA0 hn0 hc0, .slice FA0 fn0 fc0, .bool false, .slice BB0 bbn0 bbc0, .bool false] ∧ RdrV w' HA0 hn0 hc0 (frmB 1 S ++ bodF body) FA0 fn0 fc0 [] BB0 bbn0 bbc0 [] ∧ TabB w' gU 100 (T : Int) A n' c told ∧ Blk w' gT 29 #[.int .i64 100, .int .i64 0, .slice none 0 0] ∧ Blk w' gR 26 #[.slice L m cL, .slice BA bn bc] ∧ RdX fcells 2 w' L fs ∧ BV w' BA bn bc body ∧ Below w.heap.size w w') ⟨Blk.newR hgX, hV6.below ((Below.refl _ _).alloc (Nat.le_refl _) _), HU6.out.below ((Below.refl _ _).alloc (Nat.le_refl _) _), HT6.out.alloc _, HR6.out.alloc _, RdX.below HRD6.out ((Below.refl _ _).alloc (Nat.le_refl _) _), HBV6.out.below ((Below.refl _ _).alloc (Nat.le_refl _) _), HB6.out.alloc HB6.out.size _⟩ ?_
    have hgXw : w.heap.size ≤ gX := by have := HB6.out.size; omega
    try rw [hgX]
    have hUX : gU < gX := by have := HU6.out.blk.lt; omega
    clear hgX HU6 HT6 HR6 HRD6 HBV6 HB6 hV6 FT
    rintro w7 ⟨hX7, hVW7, hU7, hT7, hR7, hrd7, hB7, hb7⟩
    have HX7 := Lib.hid hX7
    have HVW7 := Lib.hid hVW7
    have HU7 := Lib.hid hU7
    have HT7 := Lib.hid hT7
    have HR7 := Lib.hid hR7
    have HRD7 := Lib.hid hrd7
    have HBV7 := Lib.hid hB7
    have HB7 := Lib.hid hb7
    have FT := hT7.facts3
    have FU := hU7.blk.facts3
    clear hX7 hVW7 hU7 hT7 hR7 hrd7 hB7 hb7
    have FX := HX7.out.facts5R
    go_wp2_with fail
    refine (rFeed_any _ 100 (T : Int) A n' c told HU7.out.tab HA0 hn0 hc0 FA0 fn0 fc0 BB0 bbn0 bbc0 ⟨frmB 1 S ++ bodF body, [], false, [], false⟩ HVW7.out rfl (by rw [← HVW7.out.h.hn, HAL.out]; omega) (by rw [← HVW7.out.fn_]; decide) (by rw [← HVW7.out.b.hn]; decide) none 0 0 [] (BV.nilR _) (by decide) true S fs 0 HD1.out (fun _ => HF.out.ok) 3 _ 0 (by rw [List.append_nil]; exact HGO.out fs 0)).mono ?_
    rintro e w8 ⟨HA, hn, hc, FA, fn, fc, BB, bbn, bbc, rfl, hV8, hb8⟩
    have HX8 := Lib.hid (HX7.out.carry hb8)
    have HR8 := Lib.hid (HR7.out.carry hb8)
    have HRD8 := Lib.hid (RdX.below HRD7.out hb8)
    have HBV8 := Lib.hid (HBV7.out.below hb8)
    have HB8 := Lib.hid (HB7.out.trans (hb8.mono HB7.out.size))
    have hRX : gR < gX := by omega
    clear hb8 HX7 HU7 HT7 HR7 HRD7 HBV7 HB7 HVW7 FX FT FU
    have FXS := HX8.out.facts5R
    go_upto_region 9 with (fail)
    refine wp_world (fun w' => Blk w' gX 35 #[.slice HA hn hc, .slice FA fn fc, .bool true, .slice BB bbn bbc, .bool true] ∧ RdrV w' HA hn hc [] FA fn fc fs BB bbn bbc body ∧ Blk w' gR 26 #[.slice L m cL, .slice BA bn bc] ∧ RdX fcells 2 w' L fs ∧ BV w' BA bn bc body ∧ Below w.heap.size w w') ⟨HX8.out.set5 _ _ _ _ _, hV8.setR5 HX8.out _ _ _ _ _ _ _ _ _ _ _, HR8.out.far5 (by omega) _ _ _ _ _, RdX.setR5 HRD8.out HX8.out _ _ _ _ _ _ _ _ _ _ _, HBV8.out.setR5 HX8.out _ _ _ _ _ _ _ _ _ _ _, Below.set5 HB8.out hgXw _ _ _ _ _⟩ ?_
    clear HX8 HR8 HRD8 HBV8 HB8 hV8 FXS
    rintro w7' ⟨hX7, hVW7, hR7, hrd7, hB7, hb7⟩
    have HX7 := Lib.hid hX7
    have HVW7 := Lib.hid hVW7
    have HR7 := Lib.hid hR7
    have HRD7 := Lib.hid hrd7
    have HBV7 := Lib.hid hB7
    have HB7 := Lib.hid hb7
    clear hX7 hVW7 hR7 hrd7 hB7 hb7
    have FX := HX7.out.facts5R
    have FR := HR7.out.two
    go_wp2_with fail
    refine (requestTells_any _).mono ?_
    rintro e w8 ⟨rfl, hb8⟩
    have HX8 := Lib.hid (HX7.out.carry hb8)
    have HR8 := Lib.hid (HR7.out.carry hb8)
    have HRD8 := Lib.hid (RdX.below HRD7.out hb8)
    have HBV8 := Lib.hid (HBV7.out.below hb8)
    have HVW8 := Lib.hid (HVW7.out.below hb8)
    have HB8 := Lib.hid (HB7.out.trans (hb8.mono HB7.out.size))
    have FX8 := HX8.out.facts5R
    have FR8 := HR8.out.two
    clear hb8 HX7 HR7 HRD7 HBV7 HVW7 HB7 FX FR
    go_wp2_with fail
    have hfn : fn = m := by rw [← HVW8.out.fn_]; exact HM.out
    subst hfn
    have hfc := HVW8.out.fc_
    have hfm := HVW8.out.fm_
    refine (sameFields_eq FA L fn fc cL fs HM.out hfc hmc hfm hcL _ HVW8.out.f HRD8.out).mono ?_
    rintro e w9 ⟨rfl, hb9⟩
    have HX9 := Lib.hid (HX8.out.carry hb9)
    have HR9 := Lib.hid (HR8.out.carry hb9)
    have HB9 := Lib.hid (HB8.out.trans (hb9.mono HB8.out.size))
    have FX9 := HX9.out.facts5R
    have FR9 := HR9.out.two
    have hb1' := (HBV8.out.below hb9)
    have hb2' := (HVW8.out.below hb9).b
    have hn1' : body.length = bn := hb1'.hn
    have hn2' : body.length = bbn := hb2'.hn
    have s1 : (convert 24 9 (.slice BA bn bc)).run Try.prog w9 = .ok (.string (byt body)) w9 := by
      rw [← hn1']; exact RdB.str hb1'.rd 24 9 5 bc Try.underlying24 Try.underlying5 Try.underlying9
    have s2 : (convert 24 9 (.slice BB bbn bbc)).run Try.prog w9 = .ok (.string (byt body)) w9 := by
      rw [← hn2']; exact RdB.str hb2'.rd 24 9 5 bbc Try.underlying24 Try.underlying5 Try.underlying9
    clear hb9 HX8 HR8 HRD8 HBV8 HVW8 HB8 FX8 FR8 hb1' hb2'
    generalize byt body = bst at *
    go_wp2_with fail
    refine bodyPost_ret (v := .bool true) ?_ rfl ⟨rfl, ?_⟩
    · simp [results, Try.results4, go_sem] <;> rfl
    · have h := HB9.out
      (repeat (first | with_reducible exact h | with_reducible refine Below.drew ?_ | (with_reducible refine Below.set4 ?_ ?side _ _ _ _; case side => (first | omega | (simp; omega) | (simp; done))) | (with_reducible refine Below.setCell ?_ ?side _; case side => (first | omega | (simp; omega) | (simp; done))) | (with_reducible refine Below.alloc ?_ ?side _; case side => (first | omega | (simp; omega) | (simp; done)))))
    -- ]]wait
end Go.Proofs.Ytihngonemdaihaa
