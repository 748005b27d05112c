/- Texts of the proof, laid together: SealWalk CutWalk. -/
import Derived.Test.YtbcagdjfegobnaaGreatC30
import Derived.Test.YtbcagdjfegobnaaGreatC08
import Derived.Test.YtbcagdjfegobnaaGreatC17
import Derived.Test.YtbcagdjfegobnaaGreatC00
/- The contracts of lock.Seal and lock.Open. -/
namespace Go.Proofs.YtbcagdjfegobnaaGreat
open Go.ChangeShapes Go.WideShapes Go.ChangeAt Go.RowKit
set_option linter.unusedVariables false

theorem beq_eq (a b : List UInt8) : ((byt a).toList == (byt b).toList) = (a == b) := by rw [byt_toList, byt_toList]
theorem strN {w : World} {A : Option Addr} {bs : List UInt8} {n c : Nat} (h : RdB w A bs) (hn : bs.length = n) : (convert 30 9 (.slice A n c)).run Tryz.prog w = .ok (.string (byt bs)) w := by
  subst hn; exact h.str 30 9 5 c Tryz.underlying30 Tryz.underlying5 Tryz.underlying9
theorem str8 {w W : World} {bs : List UInt8} {o : Obj} (h : RdB w (some ⟨(W.alloc o).drew.heap.size, 0, none⟩) bs) (hn : bs.length = 8) : (convert 30 9 (.slice (some ⟨W.heap.size + 1, 0, none⟩) 8 8)).run Tryz.prog w = .ok (.string (byt bs)) w :=
  strN (by simpa using h) hn

set_option maxRecDepth 100000 in
set_option maxHeartbeats 1000000 in
theorem seal_any (key n : Int) (hk0 : 0 ≤ key) (hk1 : key < 18446744073709551616) (A1 A2 : Option Addr) (p q : List UInt8) (l1 c1 l2 c2 : Nat) (hl1 : p.length = l1) (hl2 : q.length = l2) (w : World)
    (h1 : RdB w A1 p) (h2 : RdB w A2 q) (hs1 : l1 ≤ 9223372036854775807) (hs2 : l2 ≤ 140737488355320) (L : Nat) (hL : l2 + 8 = L) :
    Calls Tryz.prog 54 #[.int .u64 key, .int .i64 n, .slice A1 l1 c1, .slice A2 l2 c2] w fun e w' =>
      ∃ A c, e = .returned (.slice A L c) ∧ OwnB w' w.heap.size 5 A c (sealB key n p q) ∧ c ≤ 9223372036854775807 ∧ Below w.heap.size w w' := by
  have HL1 := Lib.hid hl1
  have HL2 := Lib.hid hl2
  have HL := Lib.hid hL
  have HS : Hid (sealB key n p q = turnB (startI key n) q ++ tagB key n p q) := rfl
  clear hl1 hl2 hL
  go_enter Tryz.func54, Tryz.ntmps54
  go_wp2_with fail
  refine (turned_any key n hk0 hk1 A2 q l2 c2 HL2.out _ h2 (by omega)).mono ?_
  rintro e w1 ⟨A3, c3, rfl, hO, hb1⟩
  have hr1 := h1.below hb1
  have hr2 := h2.below hb1
  clear h1 h2
  go_wp2_with fail
  have hbx : Below w1.heap.size w1 (w1.alloc (.cells #[.slice A1 l1 c1, .slice A2 l2 c2] 30)) := (Below.refl _ _).alloc (Nat.le_refl _) _
  have hB := Blk.new w1 30 #[.slice A1 l1 c1, .slice A2 l2 c2]
  obtain ⟨x0, x1, _, _⟩ := hB.two
  refine (tag_any key n hk0 hk1 w1.heap.size 2 A1 A2 p q l1 c1 l2 c2 HL1.out HL2.out _ (hr1.below hbx) (hr2.below hbx) x0 x1 hs1 (by omega)).mono ?_
  rintro e w2 ⟨rfl, hB2, hb2⟩
  have hb12 : Below w1.heap.size w1 w2 := hbx.trans (hb2.mono (by simp))
  have hO2 := hO.below hb12 (Nat.le_refl _)
  have hR : RdB w2 (some ⟨w1.heap.size + 1, 0, none⟩) (tagB key n p q) := by simpa using hB2.rdB
  have hz1 := hb1.size
  have hz2 := hb12.size
  have HTL := Lib.hid (tagB_length key n p q)
  have HUL : Hid ((turnB (startI key n) q).length = l2) := by show _ = _; rw [turnB_length, HL2.out]
  clear hB x0 x1 hbx hr1 hr2 hO hB2 hb2
  go_wp2_with (at_builtin
               refine wpList_appB _ rfl (.tmp 12) (.tmp 18) _ rfl w.heap.size 5 Tryz.underlying30 u8_infoT A3 l2 c3 _ rfl HUL.out hO2 _ 8 8 _ rfl HTL.out hR _ HS.out.symm L HL.out (by omega) (by omega) ?_
               intro A' c' w3 hO3 hc3 hc3' hb3)
  go_ret
  exact ⟨A', c', rfl, hO3, hc3', hb1.trans ((hb12.mono hz1).trans hb3)⟩

theorem open_short (key n : Int) (A1 A2 : Option Addr) (l1 c1 l2 c2 : Nat) (h : l2 < 8) (w : World) :
    Calls Tryz.prog 66 #[.int .u64 key, .int .i64 n, .slice A1 l1 c1, .slice A2 l2 c2] w fun e w' => e = .returned (.tuple #[.slice none 0 0, .int .i64 4]) ∧ w = w' := by
  go_enter Tryz.func66, Tryz.ntmps66
  go_wp2_with fail
  go_ret2
  exact ⟨rfl, rfl⟩

set_option maxRecDepth 100000 in
set_option maxHeartbeats 1000000 in
theorem open_any (key n : Int) (hk0 : 0 ≤ key) (hk1 : key < 18446744073709551616) (A1 A2 : Option Addr) (p b : List UInt8) (l1 c1 l2 c2 : Nat) (hl1 : p.length = l1) (hl2 : b.length = l2) (w : World)
    (h1 : RdB w A1 p) (h2 : RdB w A2 b) (hs1 : l1 ≤ 9223372036854775807) (hs2 : l2 ≤ 140737488355328) (h8 : 8 ≤ l2) (hc2 : l2 ≤ c2) (hc2' : c2 ≤ 9223372036854775807) (m : Nat) (hm : m + 8 = l2) :
    Calls Tryz.prog 66 #[.int .u64 key, .int .i64 n, .slice A1 l1 c1, .slice A2 l2 c2] w fun e w' =>
      (opens key n p b = true ∧ ∃ A c, e = .returned (.tuple #[.slice A m c, .int .i64 0]) ∧ OwnB w' w.heap.size 5 A c (openT key n b) ∧ c ≤ 9223372036854775807 ∧ Below w.heap.size w w') ∨
      (opens key n p b = false ∧ e = .returned (.tuple #[.slice none 0 0, .int .i64 10]) ∧ Below w.heap.size w w') := by
  have HL1 := Lib.hid hl1
  have HL2 := Lib.hid hl2
  have hm' : (l2 : Int) - 8 = (m : Int) := by omega
  have HTK : Hid ((b.take m).length = m) := by show (b.take m).length = m; rw [List.length_take, hl2]; omega
  have HDR : Hid ((b.drop m).length = 8) := by show (b.drop m).length = 8; rw [List.length_drop, hl2]; omega
  have HOT : Hid (openT key n b = turnB (startI key n) (b.take m)) := by show openT key n b = _; unfold openT; rw [hl2, show l2 - 8 = m from by omega]
  have HOP : Hid (opens key n p b = (tagB key n p (openT key n b) == b.drop m)) := by show opens key n p b = _; unfold opens; rw [hl2, show l2 - 8 = m from by omega]
  have hf2 : RdB w A2 (b.take m) := h2.front (by rw [hl2]; omega)
  clear hl1 hl2
  have hm0 : m ≤ l2 := by omega
  have hdr := RdB.cut (k := m) (cap := c2) h2 (by rw [HL2.out]; omega) (by rw [HL2.out]; omega)
  obtain ⟨bb, off, rfl, _⟩ := h2.cell (by rw [HL2.out]; omega)
  rw [if_neg (by omega)] at hdr
  have hd2 : RdB w (some ⟨bb, off + m, none⟩) (b.drop m) := by simpa [add_none] using hdr
  clear hdr
  go_enter Tryz.func66, Tryz.ntmps66
  go_wp2_with fail
  refine (turned_any key n hk0 hk1 _ (b.take m) m _ HTK.out _ hf2 (by omega)).mono ?_
  rintro e w1 ⟨A3, c3, rfl, hO, hb1⟩
  rw [← HOT.out] at hO
  have hr1 := h1.below hb1
  have hr2 := hd2.below hb1
  have hcp := hO.cap
  clear h1 h2 hf2 hd2
  have HTO : Hid ((openT key n b).length = m) := by show (openT key n b).length = m; rw [HOT.out, turnB_length, HTK.out]
  generalize htx : openT key n b = tx at *
  have HTX := Lib.hid htx
  clear htx
  rw [HTO.out] at hcp
  go_wp2_with fail
  have hbx : Below w1.heap.size w1 (w1.alloc (.cells #[.slice A1 l1 c1, .slice A3 m c3] 30)).drew := ((Below.refl _ _).alloc (Nat.le_refl _) _).drew
  have hB := Blk.new w1 30 #[.slice A1 l1 c1, .slice A3 m c3]
  obtain ⟨x0, x1, _, _⟩ := hB.two
  have e0 : (convert 30 9 (.slice (some ⟨bb, off + m, none⟩) (l2 - m) (c2 - m))).run Tryz.prog w1.drew = .ok (.string (byt (b.drop m))) w1.drew := by
    have := RdB.str (w := w1.drew) hr2 (P := Tryz.prog) 30 9 5 (c2 - m) Tryz.underlying30 Tryz.underlying5 Tryz.underlying9
    rwa [HDR.out, show 8 = l2 - m from by omega] at this
  have e1 : (convert 30 9 (.slice (some ⟨bb, off + m, none⟩) (l2 - m) (c2 - m))).run Tryz.prog (w1.alloc (.cells #[.slice A1 l1 c1, .slice A3 m c3] 30)).drew = .ok (.string (byt (b.drop m))) (w1.alloc (.cells #[.slice A1 l1 c1, .slice A3 m c3] 30)).drew := by
    have := RdB.str (hr2.below hbx) (P := Tryz.prog) 30 9 5 (c2 - m) Tryz.underlying30 Tryz.underlying5 Tryz.underlying9
    rwa [HDR.out, show 8 = l2 - m from by omega] at this
  have HO := Lib.hid hO
  have hRO := hO.rd
  clear hO hB
  have HOF := Lib.hid (beq_eq (tagB key n p tx) (b.drop m))
  by_cases hop : opens key n p b = true
  · have he : ((byt (tagB key n p tx)).toList == (byt (b.drop m)).toList) = true := by rw [HOF.out, ← HOP.out]; exact hop
    have HQ := Lib.hid hop
    clear hop
    go_region_with (go_at_call 89; refine (tag_any key n hk0 hk1 w1.heap.size 2 A1 A3 p tx l1 c1 m c3 HL1.out HTO.out _ (RdB.below hr1 hbx) (RdB.below hRO hbx) x0 x1 hs1 (by omega)).mono ?_; rintro e w2 ⟨rfl, hB2, hb2⟩
                    have hb3 : Below w1.heap.size w1 w2 := hbx.trans (hb2.mono (by simp))
                    have s1 : (convert 30 9 (.slice (some ⟨w1.heap.size + 1, 0, none⟩) 8 8)).run Tryz.prog w2 = .ok (.string (byt (tagB key n p tx))) w2 := str8 hB2.rdB (tagB_length _ _ _ _)
                    have s2 : (convert 30 9 (.slice (some ⟨bb, off + m, none⟩) (l2 - m) (c2 - m))).run Tryz.prog w2 = .ok (.string (byt (b.drop m))) w2 := strN (hr2.below hb3) (by rw [HDR.out]; omega))
    all_goals
      go_wp2_with fail
      go_ret2
      refine Or.inl ⟨HQ.out, A3, c3, rfl, ?_, by unfold maxLen at hcp; omega, hb1.trans (hb3.mono hb1.size)⟩
      rw [HTX.out]; exact HO.out.below hb3 (Nat.le_refl _)
  · have hop' : opens key n p b = false := by simpa using hop
    have he : ((byt (tagB key n p tx)).toList == (byt (b.drop m)).toList) = false := by rw [HOF.out, ← HOP.out]; exact hop'
    have HQ := Lib.hid hop'
    clear hop hop'
    go_region_with (go_at_call 89; refine (tag_any key n hk0 hk1 w1.heap.size 2 A1 A3 p tx l1 c1 m c3 HL1.out HTO.out _ (RdB.below hr1 hbx) (RdB.below hRO hbx) x0 x1 hs1 (by omega)).mono ?_; rintro e w2 ⟨rfl, hB2, hb2⟩
                    have hb3 : Below w1.heap.size w1 w2 := hbx.trans (hb2.mono (by simp))
                    have s1 : (convert 30 9 (.slice (some ⟨w1.heap.size + 1, 0, none⟩) 8 8)).run Tryz.prog w2 = .ok (.string (byt (tagB key n p tx))) w2 := str8 hB2.rdB (tagB_length _ _ _ _)
                    have s2 : (convert 30 9 (.slice (some ⟨bb, off + m, none⟩) (l2 - m) (c2 - m))).run Tryz.prog w2 = .ok (.string (byt (b.drop m))) w2 := strN (hr2.below hb3) (by rw [HDR.out]; omega))
    all_goals
      go_wp2_with fail
      go_ret2
      exact Or.inr ⟨HQ.out, rfl, hb1.trans (hb3.mono hb1.size)⟩
end Go.Proofs.YtbcagdjfegobnaaGreat
/- The contract of packno.Cut. -/
namespace Go.Proofs.YtbcagdjfegobnaaGreat
open Go.ChangeShapes Go.WideShapes Go.ChangeAt Go.RowKit
set_option linter.unusedVariables false

theorem u8_info : (Tryz.prog.info? 5).map (fun i => (i.zero, i.size, i.bytes)) = some (some (.int .u8 0), 1, 1) := by kernel_rfl

set_option maxRecDepth 100000 in
set_option maxHeartbeats 1000000 in
theorem cut_1 (n : Nat) (a : Int) (h1 : (n : Int) ≤ 4611686018427387903) (ha : -1 ≤ a) (han : a < n) (hd : 0 < n - a) (hd2 : n - a ≤ 128) (w : World) :
    Calls Tryz.prog 52 #[.int .i64 n, .int .i64 a] w fun e w' => ∃ A c, e = .returned (.tuple #[.slice A 1 c, .int .i64 0]) ∧ OwnB w' w.heap.size 5 A c (beB 1 n) ∧ Below w.heap.size w w' := by
  go_enter Tryz.func52, Tryz.ntmps52
  go_wp2_with fail
  refine wp_loop_rounds 1 ?_
  iterate 1 (rw [rounds_succ]; go_wp2_with fail)
  refine wp_loop_rounds 2 ?_
  rw [rounds_succ]
  have HB := Lib.hid (show (n : Int) % 256 = ((UInt8.ofNat n).toNat : Int) from by simp)
  go_wp2_with (at_builtin
               refine wpList_appB _ rfl (.tmp 42) (.tmp 48) _ rfl w.heap.size 5 Tryz.underlying30 u8_info none 0 0 [] rfl rfl (OwnB.nil _ _ _) (some ⟨w.heap.size, 0, none⟩) 1 1 [UInt8.ofNat n] rfl rfl (RdB.one _ _ _ _ HB.out) [UInt8.ofNat n] rfl 1 rfl (by omega) (by simp) ?_
               intro A' c' w2 hO2 hc2 hc2' hb2)
  rw [rounds_succ]
  have hb3 : Below w.heap.size w w2 := ((Below.refl _ _).alloc (Nat.le_refl _) _).trans hb2
  go_wp2_with fail
  go_ret2
  exact ⟨A', c', rfl, by simpa [beB] using hO2, hb3⟩

set_option maxRecDepth 100000 in
set_option maxHeartbeats 1000000 in
theorem cut_2 (n : Nat) (a : Int) (h1 : (n : Int) ≤ 4611686018427387903) (ha : -1 ≤ a) (han : a < n) (hd : 128 < n - a) (hd2 : n - a ≤ 32768) (w : World) :
    Calls Tryz.prog 52 #[.int .i64 n, .int .i64 a] w fun e w' => ∃ A c, e = .returned (.tuple #[.slice A 2 c, .int .i64 0]) ∧ OwnB w' w.heap.size 5 A c (beB 2 n) ∧ Below w.heap.size w w' := by
  go_enter Tryz.func52, Tryz.ntmps52
  go_wp2_with fail
  refine wp_loop_rounds 2 ?_
  iterate 2 (rw [rounds_succ]; go_wp2_with fail)
  go_loopw [7, 8] (fun v i wr => ∃ (m : Nat) (A : Option Addr) (c : Nat), m ≤ 2 ∧ i = .int .i64 ((m : Int) - 1) ∧ v = .slice A (2 - m) c ∧
      OwnB wr w.heap.size 5 A c ((beB 2 n).take (2 - m)) ∧ Below w.heap.size w wr) (fun _ i _ => (intOf i + 1).toNat)
  case atStart => exact ⟨2, none, 0, Nat.le_refl _, rfl, rfl, OwnB.nil _ _ _, Below.refl _ _⟩
  case round =>
    obtain ⟨m, A, c, hm, rfl, rfl, hO, hb⟩ := hrel
    by_cases hlt : 1 ≤ m
    · have HN := Lib.hid (beB_take 2 n m hlt hm)
      have HL := Lib.hid (beB_take_length 2 n m)
      have hcap := hO.cap
      have HB := Lib.hid (byte_shift n (m - 1))
      go_wp2_with (at_builtin
                   refine wpList_appB _ rfl (.tmp 42) (.tmp 48) _ rfl w.heap.size 5 Tryz.underlying30 u8_info A (2 - m) c _ rfl HL.out (hO.below ((Below.refl _ _).alloc (Nat.le_refl _) _) (Nat.le_refl _)) (some ⟨wr.heap.size, 0, none⟩) 1 1 [UInt8.ofNat (n / 256 ^ (m - 1))] rfl rfl (RdB.one _ _ _ _ HB.out) _ HN.out (2 - m + 1) rfl (by omega) (by have := hb.size; simp; omega) ?_
                   intro A' c' w2 hO2 hc2 hc2' hb2)
      go_roundw
      case rel => exact ⟨m - 1, A', c', by omega, by congr 1; omega, by congr 1; omega, hO2, (hb.alloc hb.size _).trans hb2⟩
      case measure => simp [intOf]; omega
    · obtain rfl : m = 0 := by omega
      have hcap := hO.cap
      rw [List.take_of_length_le (by simp [beB_length])] at hO
      go_wp2_with fail
      go_ret2
      exact ⟨_, _, rfl, hO, hb⟩
set_option maxRecDepth 100000 in
set_option maxHeartbeats 1000000 in
theorem cut_3 (n : Nat) (a : Int) (h1 : (n : Int) ≤ 4611686018427387903) (ha : -1 ≤ a) (han : a < n) (hd : 32768 < n - a) (hd2 : n - a ≤ 8388608) (w : World) :
    Calls Tryz.prog 52 #[.int .i64 n, .int .i64 a] w fun e w' => ∃ A c, e = .returned (.tuple #[.slice A 3 c, .int .i64 0]) ∧ OwnB w' w.heap.size 5 A c (beB 3 n) ∧ Below w.heap.size w w' := by
  go_enter Tryz.func52, Tryz.ntmps52
  go_wp2_with fail
  refine wp_loop_rounds 3 ?_
  iterate 3 (rw [rounds_succ]; go_wp2_with fail)
  go_loopw [7, 8] (fun v i wr => ∃ (m : Nat) (A : Option Addr) (c : Nat), m ≤ 3 ∧ i = .int .i64 ((m : Int) - 1) ∧ v = .slice A (3 - m) c ∧
      OwnB wr w.heap.size 5 A c ((beB 3 n).take (3 - m)) ∧ Below w.heap.size w wr) (fun _ i _ => (intOf i + 1).toNat)
  case atStart => exact ⟨3, none, 0, Nat.le_refl _, rfl, rfl, OwnB.nil _ _ _, Below.refl _ _⟩
  case round =>
    obtain ⟨m, A, c, hm, rfl, rfl, hO, hb⟩ := hrel
    by_cases hlt : 1 ≤ m
    · have HN := Lib.hid (beB_take 3 n m hlt hm)
      have HL := Lib.hid (beB_take_length 3 n m)
      have hcap := hO.cap
      have HB := Lib.hid (byte_shift n (m - 1))
      go_wp2_with (at_builtin
                   refine wpList_appB _ rfl (.tmp 42) (.tmp 48) _ rfl w.heap.size 5 Tryz.underlying30 u8_info A (3 - m) c _ rfl HL.out (hO.below ((Below.refl _ _).alloc (Nat.le_refl _) _) (Nat.le_refl _)) (some ⟨wr.heap.size, 0, none⟩) 1 1 [UInt8.ofNat (n / 256 ^ (m - 1))] rfl rfl (RdB.one _ _ _ _ HB.out) _ HN.out (3 - m + 1) rfl (by omega) (by have := hb.size; simp; omega) ?_
                   intro A' c' w2 hO2 hc2 hc2' hb2)
      go_roundw
      case rel => exact ⟨m - 1, A', c', by omega, by congr 1; omega, by congr 1; omega, hO2, (hb.alloc hb.size _).trans hb2⟩
      case measure => simp [intOf]; omega
    · obtain rfl : m = 0 := by omega
      have hcap := hO.cap
      rw [List.take_of_length_le (by simp [beB_length])] at hO
      go_wp2_with fail
      go_ret2
      exact ⟨_, _, rfl, hO, hb⟩
set_option maxRecDepth 100000 in
set_option maxHeartbeats 1000000 in
theorem cut_4 (n : Nat) (a : Int) (h1 : (n : Int) ≤ 4611686018427387903) (ha : -1 ≤ a) (han : a < n) (hd : 8388608 < n - a) (hd2 : n - a ≤ 2147483648) (w : World) :
    Calls Tryz.prog 52 #[.int .i64 n, .int .i64 a] w fun e w' => ∃ A c, e = .returned (.tuple #[.slice A 4 c, .int .i64 0]) ∧ OwnB w' w.heap.size 5 A c (beB 4 n) ∧ Below w.heap.size w w' := by
  go_enter Tryz.func52, Tryz.ntmps52
  go_wp2_with fail
  refine wp_loop_rounds 4 ?_
  iterate 4 (rw [rounds_succ]; go_wp2_with fail)
  go_loopw [7, 8] (fun v i wr => ∃ (m : Nat) (A : Option Addr) (c : Nat), m ≤ 4 ∧ i = .int .i64 ((m : Int) - 1) ∧ v = .slice A (4 - m) c ∧
      OwnB wr w.heap.size 5 A c ((beB 4 n).take (4 - m)) ∧ Below w.heap.size w wr) (fun _ i _ => (intOf i + 1).toNat)
  case atStart => exact ⟨4, none, 0, Nat.le_refl _, rfl, rfl, OwnB.nil _ _ _, Below.refl _ _⟩
  case round =>
    obtain ⟨m, A, c, hm, rfl, rfl, hO, hb⟩ := hrel
    by_cases hlt : 1 ≤ m
    · have HN := Lib.hid (beB_take 4 n m hlt hm)
      have HL := Lib.hid (beB_take_length 4 n m)
      have hcap := hO.cap
      have HB := Lib.hid (byte_shift n (m - 1))
      go_wp2_with (at_builtin
                   refine wpList_appB _ rfl (.tmp 42) (.tmp 48) _ rfl w.heap.size 5 Tryz.underlying30 u8_info A (4 - m) c _ rfl HL.out (hO.below ((Below.refl _ _).alloc (Nat.le_refl _) _) (Nat.le_refl _)) (some ⟨wr.heap.size, 0, none⟩) 1 1 [UInt8.ofNat (n / 256 ^ (m - 1))] rfl rfl (RdB.one _ _ _ _ HB.out) _ HN.out (4 - m + 1) rfl (by omega) (by have := hb.size; simp; omega) ?_
                   intro A' c' w2 hO2 hc2 hc2' hb2)
      go_roundw
      case rel => exact ⟨m - 1, A', c', by omega, by congr 1; omega, by congr 1; omega, hO2, (hb.alloc hb.size _).trans hb2⟩
      case measure => simp [intOf]; omega
    · obtain rfl : m = 0 := by omega
      have hcap := hO.cap
      rw [List.take_of_length_le (by simp [beB_length])] at hO
      go_wp2_with fail
      go_ret2
      exact ⟨_, _, rfl, hO, hb⟩

theorem cut_bad (n a : Int) (han : n ≤ a) (w : World) :
    Calls Tryz.prog 52 #[.int .i64 n, .int .i64 a] w fun e w' => e = .returned (.tuple #[.slice none 0 0, .int .i64 6]) ∧ w = w' := by
  go_enter Tryz.func52, Tryz.ntmps52
  go_wp2_with fail
  all_goals (go_ret2; exact ⟨rfl, rfl⟩)

/-- A number cut for one who is not too far behind. -/
theorem cut_any (n : Nat) (a : Int) (h1 : (n : Int) ≤ 4611686018427387903) (ha : -1 ≤ a) (han : a < n) (hd : n - a ≤ 2147483648) (w : World) :
    Calls Tryz.prog 52 #[.int .i64 n, .int .i64 a] w fun e w' => ∃ A c, e = .returned (.tuple #[.slice A (cutK (n - a).toNat) c, .int .i64 0]) ∧ OwnB w' w.heap.size 5 A c (beB (cutK (n - a).toNat) n) ∧ Below w.heap.size w w' := by
  have h := cutK_cases (n - a).toNat
  rcases h with ⟨e, h⟩ | ⟨e, h, h'⟩ | ⟨e, h, h'⟩ | ⟨e, h⟩
  · rw [e]; exact cut_1 n a h1 ha han (by omega) (by omega) w
  · rw [e]; exact cut_2 n a h1 ha han (by omega) (by omega) w
  · rw [e]; exact cut_3 n a h1 ha han (by omega) (by omega) w
  · rw [e]; exact cut_4 n a h1 ha han (by omega) (by omega) w

theorem cut_int (n a : Int) (h0 : 0 ≤ n) (h1 : n ≤ 4611686018427387903) (ha : -1 ≤ a) (han : a < n) (hd : n - a ≤ 2147483648) (K : Nat) (hK : cutK (n - a).toNat = K) (w : World) :
    Calls Tryz.prog 52 #[.int .i64 n, .int .i64 a] w fun e w' => ∃ A c, e = .returned (.tuple #[.slice A K c, .int .i64 0]) ∧ OwnB w' w.heap.size 5 A c (beB K n.toNat) ∧ Below w.heap.size w w' := by
  subst hK
  have h := cut_any n.toNat a (by omega) ha (by omega) (by omega) w
  rwa [show ((n.toNat : Nat) : Int) = n from by omega] at h
end Go.Proofs.YtbcagdjfegobnaaGreat
