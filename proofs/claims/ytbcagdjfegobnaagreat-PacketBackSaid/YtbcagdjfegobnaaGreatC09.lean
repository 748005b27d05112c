/- Texts of the proof, laid together: FrameSame. -/
import Derived.Test.YtbcagdjfegobnaaGreatC08
import Derived.BigQuiet
/- The contracts of sameRanges and sameFrame; frame.Encode of a frame that may be. -/
namespace Go.Proofs.YtbcagdjfegobnaaGreat
open Go.ChangeShapes Go.WideShapes Go.ChangeAt Go.RowKit
set_option linter.unusedVariables false

theorem fEnc_any (f : FrD) (ok : FrOk f) (A : Option Addr) (c : Nat) (B : Option Addr) (d : Nat) (w : World) (hA : RdX rcells 2 w A f.rngs) (hB : RdB w B f.data) (hnc : f.rngs.length ≤ c) (hcm : c ≤ 9223372036854775807) :
    Calls Tryz.prog 53 #[.agg (frcells f A c B d)] w fun e w' => ∃ A' k' c', e = .returned (.tuple #[.slice A' k' c', .int .i64 0]) ∧ (fenc f).length = k' ∧ OwnB w' w.heap.size 5 A' c' (fenc f) ∧ k' ≤ c' ∧ c' ≤ 9223372036854775807 ∧ Below w.heap.size w w' := by
  have hz := fkind_cases f ok
  refine fEnc_way f.kind (fkind f) f.id f.off f.code f.rngs.length f.data.length f.rngs f.data f.fin (pId f.kind) (pOff f.kind) (pCode f.kind) (pData f.kind) (pFin f.kind) (pWord f.kind) A c B d w
    (Lib.hid fun W hb => fCheck_ok f ok A c B d W (RdX.below hA hb) hnc hcm) (Lib.hid fun W => partsOf_good f.kind ok.kind W) ?_ ?_ ok.id ok.off ok.code rfl ok.rngs ok.many hnc hcm rfl ok.len (Lib.hid hA) (Lib.hid hB)
  · by_cases h8 : f.kind = 8
    · cases hf : f.fin with
      | true => exact .inl ⟨h8, rfl, by simp [fkind, h8, hf]⟩
      | false => exact .inr (.inl ⟨h8, rfl, by simp [fkind, h8, hf]⟩)
    · exact .inr (.inr ⟨h8, by simp [fkind, h8]⟩)
  · have := kOk_cases ok.kind; omega

theorem getD_take_eq (l m : List Rng) (n k : Nat) (hl : l.length = n) (hm : m.length = n) (hk : k < n) (h : l.take k = m.take k) (hx : l.getD k (0, 0) = m.getD k (0, 0)) : l.take (k + 1) = m.take (k + 1) := by
  rw [List.take_succ_eq_append_getElem (by omega), List.take_succ_eq_append_getElem (by omega), h]
  simp only [List.getD, List.getElem?_eq_getElem (show k < l.length by omega), List.getElem?_eq_getElem (show k < m.length by omega), Option.getD_some] at hx
  rw [hx]

set_option maxHeartbeats 2000000 in
theorem sameRanges_same (A B : Option Addr) (n c d : Nat) (l r : List Rng) (hl : l.length = n) (hr : r.length = n) (hnx : n ≤ 9223372036854775807) (w : World) (hA : RdX rcells 2 w A l) (hB : RdX rcells 2 w B r) :
    Calls Tryz.prog 106 #[.slice A n c, .slice B n d] w fun e w' => e = .returned (.bool (decide (l = r))) ∧ Below w.heap.size w w' := by
  have HL := Lib.hid hl
  have HR := Lib.hid hr
  have HA := Lib.hid hA
  have HB := Lib.hid hB
  clear hl hr hA hB
  go_enter Tryz.func106, Tryz.ntmps106
  go_wp2_with fail
  go_loopw [5, 6] (fun ok i wr => ∃ k : Nat, k ≤ n ∧ i = .int .i64 k ∧ ((ok = .bool true ∧ l.take k = r.take k) ∨ (ok = .bool false ∧ l ≠ r)) ∧ Below w.heap.size w wr) (fun _ i _ => n - (intOf i).toNat)
  case atStart => exact ⟨0, Nat.zero_le _, rfl, .inl ⟨by simp, rfl⟩, Below.refl _ _⟩
  case round =>
    obtain ⟨k, hk, rfl, hst, hb⟩ := hrel
    rcases hst with ⟨rfl, hst⟩ | ⟨rfl, hst⟩
    · have HST := Lib.hid hst
      clear hst
      by_cases hlt : k < n
      · have hlen := HL.out
        have hrlen := HR.out
        obtain ⟨b, off, rfl, hcell⟩ := (RdX.below HA.out hb).rcell (by omega)
        obtain ⟨b', off', rfl, hcell'⟩ := (RdX.below HB.out hb).rcell (by omega)
        obtain ⟨c0, c1⟩ := hcell k (by omega)
        obtain ⟨d0, d1⟩ := hcell' k (by omega)
        have HNX : Hid (l.getD k (0, 0) = r.getD k (0, 0) → l.take (k + 1) = r.take (k + 1)) := fun h => getD_take_eq l r n k hlen hrlen hlt HST.out h
        have HNE : Hid (l.getD k (0, 0) ≠ r.getD k (0, 0) → l ≠ r) := fun h e => h (by rw [e])
        generalize l.getD k (0, 0) = x at *
        generalize r.getD k (0, 0) = y at *
        obtain ⟨x1, x2⟩ := x
        obtain ⟨y1, y2⟩ := y
        simp only at c0 c1 d0 d1
        have hk0 : (0 : Int) ≤ (k : Int) := by omega
        have hk1 : (k : Int) < (n : Int) := by omega
        clear hlen hrlen hcell hcell'
        have hb2 : ∀ nq, Below w.heap.size w (wr.drewN nq) := fun nq => ⟨hb.os, hb.tape, hb.output, hb.size, hb.block⟩
        have HB2 := Lib.hid hb2
        clear hb2
        go_upto_region 5 with (fail)
        by_cases he : x1 = y1 ∧ x2 = y2
        · obtain ⟨rfl, rfl⟩ := he
          go_quiet (fail)
          go_wp2_with fail
          go_roundw
          case rel => exact ⟨k + 1, by omega, by go_num, .inl ⟨by simp, HNX.out rfl⟩, HB2.out _⟩
          case measure => simp [intOf]; omega
        · by_cases h1 : x1 = y1
          · subst h1
            have hne : (x2 == y2) = false := by simp only [beq_eq_false_iff_ne]; exact fun h2 => he ⟨rfl, h2⟩
            have HE := Lib.hid he
            clear he
            go_quiet (fail)
            go_wp2_with fail
            go_roundw
            case rel => exact ⟨k + 1, by omega, by go_num, .inr ⟨by first | rfl | (simp; done), HNE.out (fun h => by injection h with h1 h2; exact HE.out ⟨h1, h2⟩)⟩, HB2.out _⟩
            case measure => simp [intOf]; omega
          · have hne : (x1 == y1) = false := by simp only [beq_eq_false_iff_ne]; exact h1
            clear h1
            have HE := Lib.hid he
            clear he
            go_quiet (fail)
            go_wp2_with fail
            go_roundw
            case rel => exact ⟨k + 1, by omega, by go_num, .inr ⟨by first | rfl | (simp; done), HNE.out (fun h => by injection h with h1 h2; exact HE.out ⟨h1, h2⟩)⟩, HB2.out _⟩
            case measure => simp [intOf]; omega
      · obtain rfl : k = n := by omega
        go_wp2_with fail
        go_ret
        have h := HST.out
        rw [List.take_of_length_le (by rw [HL.out]; exact Nat.le_refl _), List.take_of_length_le (by rw [HR.out]; exact Nat.le_refl _)] at h
        exact ⟨by rw [decide_eq_true h]; rfl, hb⟩
    · go_wp2_with fail
      go_ret
      exact ⟨by rw [decide_eq_false hst]; rfl, hb⟩
set_option maxHeartbeats 2000000 in
theorem sameRanges_less (A B : Option Addr) (n m c d : Nat) (l r : List Rng) (hl : l.length = n) (hr : r.length = m) (hnm : n ≠ m) (w : World) :
    Calls Tryz.prog 106 #[.slice A n c, .slice B m d] w fun e w' => e = .returned (.bool (decide (l = r))) ∧ Below w.heap.size w w' := by
  have hd : decide (l = r) = false := decide_eq_false fun h => hnm (by rw [← hl, ← hr, h])
  rw [hd]
  have hne : ((n : Int) == (m : Int)) = false := by simp; omega
  clear hd hl hr hnm
  go_enter Tryz.func106, Tryz.ntmps106
  go_wp2_with fail
  go_loopw [5, 6] (fun ok i wr => ok = .bool false ∧ i = .int .i64 0 ∧ Below w.heap.size w wr) (fun _ i _ => 0)
  case atStart => exact ⟨by first | rfl | simp [hne], rfl, Below.refl _ _⟩
  case round =>
    obtain ⟨rfl, rfl, hb⟩ := hrel
    go_wp2_with fail
    go_ret
    exact ⟨rfl, hb⟩
theorem sameRanges_any (A B : Option Addr) (c d : Nat) (l r : List Rng) (hx : l.length ≤ 9223372036854775807) (w : World) (hA : RdX rcells 2 w A l) (hB : RdX rcells 2 w B r) :
    Calls Tryz.prog 106 #[.slice A l.length c, .slice B r.length d] w fun e w' => e = .returned (.bool (decide (l = r))) ∧ Below w.heap.size w w' := by
  by_cases h : l.length = r.length
  · rw [← h]; exact sameRanges_same A B l.length c d l r rfl h.symm hx w hA hB
  · exact sameRanges_less A B _ _ c d l r rfl rfl h w

set_option maxRecDepth 100000 in
set_option maxHeartbeats 4000000 in
theorem sameFrame_way (k i o e n m k' i' o' e' n' m' : Nat) (f f' : Bool) (A : Option Addr) (c : Nat) (B : Option Addr) (d : Nat) (A' : Option Addr) (c' : Nat) (B' : Option Addr) (d' : Nat) (rs : Bool) (st st' : ByteArray) (w : World)
    (HR : Hid (∀ W, Below w.heap.size w W → Calls Tryz.prog 106 #[.slice A n c, .slice A' n' c'] W fun e w' => e = .returned (.bool rs) ∧ Below W.heap.size W w'))
    (S1 : Hid (∀ W, Below w.heap.size w W → (convert 30 9 (.slice B m d)).run Tryz.prog W = .ok (.string st) W))
    (S2 : Hid (∀ W, Below w.heap.size w W → (convert 30 9 (.slice B' m' d')).run Tryz.prog W = .ok (.string st') W)) :
    Calls Tryz.prog 68 #[.agg #[.int .i64 k, .int .i64 i, .int .i64 o, .bool f, .int .i64 e, .slice A n c, .slice B m d], .agg #[.int .i64 k', .int .i64 i', .int .i64 o', .bool f', .int .i64 e', .slice A' n' c', .slice B' m' d']] w fun e_ w' => e_ = .returned (.bool (k == k' && (i == i' && (o == o' && (f == f' && (e == e' && (rs && st.toList == st'.toList))))))) ∧ Below w.heap.size w w' := by
  have hbz : ∀ o1 o2, Below w.heap.size w ((w.alloc o1).alloc o2) := fun o1 o2 => ((Below.refl _ _).alloc (Nat.le_refl _) _).alloc (by simp) _
  have HBZ := Lib.hid hbz
  clear hbz
  by_cases h1 : k = k'
  · subst h1
    by_cases h2 : i = i'
    · subst h2
      by_cases h3 : o = o'
      · subst h3
        by_cases h4 : f = f'
        · subst h4
          by_cases h5 : e = e'
          · subst h5
            go_enter Tryz.func68, Tryz.ntmps68
            go_wp2_with fail
            refine (HR.out _ (HBZ.out _ _)).mono ?_
            rintro ee w1 ⟨rfl, hb1⟩
            have hb2 := (HBZ.out _ _).trans (hb1.mono (HBZ.out _ _).size)
            have HB2 := Lib.hid hb2
            have hF := (Blk.new1 w _ 68 _).carry hb1
            have hG := ((Blk.new w 68 _).alloc _).carry hb1
            have FF := hF.factsF
            have FG := hG.factsF
            have s1 := S1.out w1 hb2
            have s2 := S2.out w1 hb2
            clear hb1 hb2 hF hG
            cases rs with
            | false =>
              go_wp2_with fail
              go_ret
              exact ⟨by first | rfl | simp, HB2.out⟩
            | true =>
              obtain ⟨q, hq⟩ : ∃ q, (st.toList == st'.toList) = q := ⟨_, rfl⟩
              cases q
              all_goals
                go_wp2_with fail
                go_ret
                exact ⟨by first | rfl | simp [hq], HB2.out⟩
          · have hne := h5
            have e1 : ((e : Int) == (e' : Int)) = false := by simp; omega
            have e2 : (e == e') = false := by simp [hne]
            simp only [e2, Bool.false_and, Bool.and_false]
            clear hne
            go_enter Tryz.func68, Tryz.ntmps68
            go_wp2_with fail
            go_ret
            exact ⟨by first | rfl | simp, HBZ.out _ _⟩
        · have hne := h4
          have e1 : (f == f') = false := by simp [hne]
          have e2 := e1
          simp only [e2, Bool.false_and, Bool.and_false]
          clear hne
          go_enter Tryz.func68, Tryz.ntmps68
          go_wp2_with fail
          go_ret
          exact ⟨by first | rfl | simp, HBZ.out _ _⟩
      · have hne := h3
        have e1 : ((o : Int) == (o' : Int)) = false := by simp; omega
        have e2 : (o == o') = false := by simp [hne]
        simp only [e2, Bool.false_and, Bool.and_false]
        clear hne
        go_enter Tryz.func68, Tryz.ntmps68
        go_wp2_with fail
        go_ret
        exact ⟨by first | rfl | simp, HBZ.out _ _⟩
    · have hne := h2
      have e1 : ((i : Int) == (i' : Int)) = false := by simp; omega
      have e2 : (i == i') = false := by simp [hne]
      simp only [e2, Bool.false_and, Bool.and_false]
      clear hne
      go_enter Tryz.func68, Tryz.ntmps68
      go_wp2_with fail
      go_ret
      exact ⟨by first | rfl | simp, HBZ.out _ _⟩
  · have e1 : ((k : Int) == (k' : Int)) = false := by simp; omega
    have e2 : (k == k') = false := by simp [h1]
    rw [e2, Bool.false_and]
    clear h1
    go_enter Tryz.func68, Tryz.ntmps68
    go_wp2_with fail
    go_ret
    exact ⟨by first | rfl | simp, HBZ.out _ _⟩

/-- Are two frames the same? -/
theorem sameFrame_any (a b : FrD) (A : Option Addr) (c : Nat) (B : Option Addr) (d : Nat) (A' : Option Addr) (c' : Nat) (B' : Option Addr) (d' : Nat) (w : World) (hx : a.rngs.length ≤ 9223372036854775807) (hA : RdX rcells 2 w A a.rngs) (hB : RdB w B a.data) (hA' : RdX rcells 2 w A' b.rngs) (hB' : RdB w B' b.data) :
    Calls Tryz.prog 68 #[.agg (frcells a A c B d), .agg (frcells b A' c' B' d')] w fun e w' => e = .returned (.bool (sameF a b)) ∧ Below w.heap.size w w' := by
  refine (sameFrame_way a.kind a.id a.off a.code a.rngs.length a.data.length b.kind b.id b.off b.code b.rngs.length b.data.length a.fin b.fin A c B d A' c' B' d' (decide (a.rngs = b.rngs)) (byt a.data) (byt b.data) w
    (Lib.hid fun W hb => sameRanges_any A A' c c' a.rngs b.rngs hx W (RdX.below hA hb) (RdX.below hA' hb))
    (Lib.hid fun W hb => (hB.below hb).str 30 9 5 d Tryz.underlying30 Tryz.underlying5 Tryz.underlying9)
    (Lib.hid fun W hb => (hB'.below hb).str 30 9 5 d' Tryz.underlying30 Tryz.underlying5 Tryz.underlying9)).mono ?_
  rintro e w' ⟨rfl, hb⟩
  refine ⟨?_, hb⟩
  simp only [byt_toList, sameF]
end Go.Proofs.YtbcagdjfegobnaaGreat
