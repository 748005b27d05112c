/- The contracts of lock.Seal and lock.Open. -/
import Derived.Test.YteajdkbilbopoaaTurnedWalk
import Derived.Test.YteajdkbilbopoaaTagWalk
namespace Go.Proofs.Yteajdkbilbopoaa
open Go.ChangeShapes Go.WideShapes Go.ChangeAt Go.RowKit
set_option linter.unusedVariables false

theorem beq_eq (a b : List UInt8) : ((byt a).toList == (byt b).toList) = (a == b) := by rw [byt_toList, byt_toList]
theorem strN {w : World} {A : Option Addr} {bs : List UInt8} {n c : Nat} (h : RdB w A bs) (hn : bs.length = n) : (convert 36 9 (.slice A n c)).run Try.prog w = .ok (.string (byt bs)) w := by
  subst hn; exact h.str 36 9 5 c Try.underlying36 Try.underlying5 Try.underlying9
theorem str8 {w W : World} {bs : List UInt8} {o : Obj} (h : RdB w (some ⟨(W.alloc o).drew.heap.size, 0, none⟩) bs) (hn : bs.length = 8) : (convert 36 9 (.slice (some ⟨W.heap.size + 1, 0, none⟩) 8 8)).run Try.prog w = .ok (.string (byt bs)) w :=
  strN (by simpa using h) hn

set_option maxRecDepth 100000 in
set_option maxHeartbeats 1000000 in
theorem seal_any (key n : Int) (hk0 : 0 ≤ key) (hk1 : key < 18446744073709551616) (A1 A2 : Option Addr) (p q : List UInt8) (l1 c1 l2 c2 : Nat) (hl1 : p.length = l1) (hl2 : q.length = l2) (w : World)
    (h1 : RdB w A1 p) (h2 : RdB w A2 q) (hs1 : l1 ≤ 9223372036854775807) (hs2 : l2 ≤ 140737488355320) (L : Nat) (hL : l2 + 8 = L) :
    Calls Try.prog 36 #[.int .u64 key, .int .i64 n, .slice A1 l1 c1, .slice A2 l2 c2] w fun e w' =>
      ∃ A c, e = .returned (.slice A L c) ∧ OwnB w' w.heap.size 5 A c (sealB key n p q) ∧ c ≤ 9223372036854775807 ∧ Below w.heap.size w w' := by
  have HL1 := Lib.hid hl1
  have HL2 := Lib.hid hl2
  have HL := Lib.hid hL
  have HS : Hid (sealB key n p q = turnB (startI key n) q ++ tagB key n p q) := rfl
  clear hl1 hl2 hL
  go_enter Try.func36, Try.ntmps36
  go_wp2_with fail
  refine (turned_any key n hk0 hk1 A2 q l2 c2 HL2.out _ h2 (by omega)).mono ?_
  rintro e w1 ⟨A3, c3, rfl, hO, hb1⟩
  have hr1 := h1.below hb1
  have hr2 := h2.below hb1
  clear h1 h2
  go_wp2_with fail
  have hbx : Below w1.heap.size w1 (w1.alloc (.cells #[.slice A1 l1 c1, .slice A2 l2 c2] 36)) := (Below.refl _ _).alloc (Nat.le_refl _) _
  have hB := Blk.new w1 36 #[.slice A1 l1 c1, .slice A2 l2 c2]
  obtain ⟨x0, x1, _, _⟩ := hB.two
  refine (tag_any key n hk0 hk1 w1.heap.size 2 A1 A2 p q l1 c1 l2 c2 HL1.out HL2.out _ (hr1.below hbx) (hr2.below hbx) x0 x1 hs1 (by omega)).mono ?_
  rintro e w2 ⟨rfl, hB2, hb2⟩
  have hb12 : Below w1.heap.size w1 w2 := hbx.trans (hb2.mono (by simp))
  have hO2 := hO.below hb12 (Nat.le_refl _)
  have hR : RdB w2 (some ⟨w1.heap.size + 1, 0, none⟩) (tagB key n p q) := by simpa using hB2.rdB
  have hz1 := hb1.size
  have hz2 := hb12.size
  have HTL := Lib.hid (tagB_length key n p q)
  have HUL : Hid ((turnB (startI key n) q).length = l2) := by show _ = _; rw [turnB_length, HL2.out]
  clear hB x0 x1 hbx hr1 hr2 hO hB2 hb2
  go_wp2_with (at_builtin
               refine wpList_appB _ rfl (.tmp 12) (.tmp 18) _ rfl w.heap.size 5 Try.underlying36 u8_infoT A3 l2 c3 _ rfl HUL.out hO2 _ 8 8 _ rfl HTL.out hR _ HS.out.symm L HL.out (by omega) (by omega) ?_
               intro A' c' w3 hO3 hc3 hc3' hb3)
  go_ret
  exact ⟨A', c', rfl, hO3, hc3', hb1.trans ((hb12.mono hz1).trans hb3)⟩

theorem open_short (key n : Int) (A1 A2 : Option Addr) (l1 c1 l2 c2 : Nat) (h : l2 < 8) (w : World) :
    Calls Try.prog 37 #[.int .u64 key, .int .i64 n, .slice A1 l1 c1, .slice A2 l2 c2] w fun e w' => e = .returned (.tuple #[.slice none 0 0, .int .i64 4]) ∧ w = w' := by
  go_enter Try.func37, Try.ntmps37
  go_wp2_with fail
  go_ret2
  exact ⟨rfl, rfl⟩

set_option maxRecDepth 100000 in
set_option maxHeartbeats 1000000 in
theorem open_any (key n : Int) (hk0 : 0 ≤ key) (hk1 : key < 18446744073709551616) (A1 A2 : Option Addr) (p b : List UInt8) (l1 c1 l2 c2 : Nat) (hl1 : p.length = l1) (hl2 : b.length = l2) (w : World)
    (h1 : RdB w A1 p) (h2 : RdB w A2 b) (hs1 : l1 ≤ 9223372036854775807) (hs2 : l2 ≤ 140737488355328) (h8 : 8 ≤ l2) (hc2 : l2 ≤ c2) (hc2' : c2 ≤ 9223372036854775807) (m : Nat) (hm : m + 8 = l2) :
    Calls Try.prog 37 #[.int .u64 key, .int .i64 n, .slice A1 l1 c1, .slice A2 l2 c2] w fun e w' =>
      (opens key n p b = true ∧ ∃ A c, e = .returned (.tuple #[.slice A m c, .int .i64 0]) ∧ OwnB w' w.heap.size 5 A c (openT key n b) ∧ c ≤ 9223372036854775807 ∧ Below w.heap.size w w') ∨
      (opens key n p b = false ∧ e = .returned (.tuple #[.slice none 0 0, .int .i64 10]) ∧ Below w.heap.size w w') := by
  have HL1 := Lib.hid hl1
  have HL2 := Lib.hid hl2
  have hm' : (l2 : Int) - 8 = (m : Int) := by omega
  have HTK : Hid ((b.take m).length = m) := by show (b.take m).length = m; rw [List.length_take, hl2]; omega
  have HDR : Hid ((b.drop m).length = 8) := by show (b.drop m).length = 8; rw [List.length_drop, hl2]; omega
  have HOT : Hid (openT key n b = turnB (startI key n) (b.take m)) := by show openT key n b = _; unfold openT; rw [hl2, show l2 - 8 = m from by omega]
  have HOP : Hid (opens key n p b = (tagB key n p (openT key n b) == b.drop m)) := by show opens key n p b = _; unfold opens; rw [hl2, show l2 - 8 = m from by omega]
  have hf2 : RdB w A2 (b.take m) := h2.front (by rw [hl2]; omega)
  clear hl1 hl2
  have hm0 : m ≤ l2 := by omega
  have hdr := RdB.cut (k := m) (cap := c2) h2 (by rw [HL2.out]; omega) (by rw [HL2.out]; omega)
  obtain ⟨bb, off, rfl, _⟩ := h2.cell (by rw [HL2.out]; omega)
  rw [if_neg (by omega)] at hdr
  have hd2 : RdB w (some ⟨bb, off + m, none⟩) (b.drop m) := by simpa [add_none] using hdr
  clear hdr
  go_enter Try.func37, Try.ntmps37
  go_wp2_with fail
  refine (turned_any key n hk0 hk1 _ (b.take m) m _ HTK.out _ hf2 (by omega)).mono ?_
  rintro e w1 ⟨A3, c3, rfl, hO, hb1⟩
  rw [← HOT.out] at hO
  have hr1 := h1.below hb1
  have hr2 := hd2.below hb1
  have hcp := hO.cap
  clear h1 h2 hf2 hd2
  have HTO : Hid ((openT key n b).length = m) := by show (openT key n b).length = m; rw [HOT.out, turnB_length, HTK.out]
  generalize htx : openT key n b = tx at *
  have HTX := Lib.hid htx
  clear htx
  rw [HTO.out] at hcp
  go_wp2_with fail
  have hbx : Below w1.heap.size w1 (w1.alloc (.cells #[.slice A1 l1 c1, .slice A3 m c3] 36)).drew := ((Below.refl _ _).alloc (Nat.le_refl _) _).drew
  have hB := Blk.new w1 36 #[.slice A1 l1 c1, .slice A3 m c3]
  obtain ⟨x0, x1, _, _⟩ := hB.two
  have e0 : (convert 36 9 (.slice (some ⟨bb, off + m, none⟩) (l2 - m) (c2 - m))).run Try.prog w1.drew = .ok (.string (byt (b.drop m))) w1.drew := by
    have := RdB.str (w := w1.drew) hr2 (P := Try.prog) 36 9 5 (c2 - m) Try.underlying36 Try.underlying5 Try.underlying9
    rwa [HDR.out, show 8 = l2 - m from by omega] at this
  have e1 : (convert 36 9 (.slice (some ⟨bb, off + m, none⟩) (l2 - m) (c2 - m))).run Try.prog (w1.alloc (.cells #[.slice A1 l1 c1, .slice A3 m c3] 36)).drew = .ok (.string (byt (b.drop m))) (w1.alloc (.cells #[.slice A1 l1 c1, .slice A3 m c3] 36)).drew := by
    have := RdB.str (hr2.below hbx) (P := Try.prog) 36 9 5 (c2 - m) Try.underlying36 Try.underlying5 Try.underlying9
    rwa [HDR.out, show 8 = l2 - m from by omega] at this
  have HO := Lib.hid hO
  have hRO := hO.rd
  clear hO hB
  have HOF := Lib.hid (beq_eq (tagB key n p tx) (b.drop m))
  by_cases hop : opens key n p b = true
  · have he : ((byt (tagB key n p tx)).toList == (byt (b.drop m)).toList) = true := by rw [HOF.out, ← HOP.out]; exact hop
    have HQ := Lib.hid hop
    clear hop
    go_region_with (go_at_call 44; refine (tag_any key n hk0 hk1 w1.heap.size 2 A1 A3 p tx l1 c1 m c3 HL1.out HTO.out _ (RdB.below hr1 hbx) (RdB.below hRO hbx) x0 x1 hs1 (by omega)).mono ?_; rintro e w2 ⟨rfl, hB2, hb2⟩
                    have hb3 : Below w1.heap.size w1 w2 := hbx.trans (hb2.mono (by simp))
                    have s1 : (convert 36 9 (.slice (some ⟨w1.heap.size + 1, 0, none⟩) 8 8)).run Try.prog w2 = .ok (.string (byt (tagB key n p tx))) w2 := str8 hB2.rdB (tagB_length _ _ _ _)
                    have s2 : (convert 36 9 (.slice (some ⟨bb, off + m, none⟩) (l2 - m) (c2 - m))).run Try.prog w2 = .ok (.string (byt (b.drop m))) w2 := strN (hr2.below hb3) (by rw [HDR.out]; omega))
    all_goals
      go_wp2_with fail
      go_ret2
      refine Or.inl ⟨HQ.out, A3, c3, rfl, ?_, by unfold maxLen at hcp; omega, hb1.trans (hb3.mono hb1.size)⟩
      rw [HTX.out]; exact HO.out.below hb3 (Nat.le_refl _)
  · have hop' : opens key n p b = false := by simpa using hop
    have he : ((byt (tagB key n p tx)).toList == (byt (b.drop m)).toList) = false := by rw [HOF.out, ← HOP.out]; exact hop'
    have HQ := Lib.hid hop'
    clear hop hop'
    go_region_with (go_at_call 44; refine (tag_any key n hk0 hk1 w1.heap.size 2 A1 A3 p tx l1 c1 m c3 HL1.out HTO.out _ (RdB.below hr1 hbx) (RdB.below hRO hbx) x0 x1 hs1 (by omega)).mono ?_; rintro e w2 ⟨rfl, hB2, hb2⟩
                    have hb3 : Below w1.heap.size w1 w2 := hbx.trans (hb2.mono (by simp))
                    have s1 : (convert 36 9 (.slice (some ⟨w1.heap.size + 1, 0, none⟩) 8 8)).run Try.prog w2 = .ok (.string (byt (tagB key n p tx))) w2 := str8 hB2.rdB (tagB_length _ _ _ _)
                    have s2 : (convert 36 9 (.slice (some ⟨bb, off + m, none⟩) (l2 - m) (c2 - m))).run Try.prog w2 = .ok (.string (byt (b.drop m))) w2 := strN (hr2.below hb3) (by rw [HDR.out]; omega))
    all_goals
      go_wp2_with fail
      go_ret2
      exact Or.inr ⟨HQ.out, rfl, hb1.trans (hb3.mono hb1.size)⟩
end Go.Proofs.Yteajdkbilbopoaa
