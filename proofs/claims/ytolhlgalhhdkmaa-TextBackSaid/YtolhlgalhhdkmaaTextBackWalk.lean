/- The walk of the law TextBack. -/
import Derived.Test.YtolhlgalhhdkmaaTextWalk
import Derived.Test.YtolhlgalhhdkmaaCutStrWalk
import Derived.Deep.QuietTactic
import Derived.BigQuiet
namespace Go.Proofs.Ytolhlgalhhdkmaa
open Go.ChangeShapes Go.WideShapes Go.ChangeAt Go.RowKit
set_option linter.unusedVariables false

set_option maxRecDepth 100000 in
theorem textBack_walk (width : Int) (s : ByteArray) (a : Option Addr) (len cap : Nat) (zs : List Int) (w : World) (hwd : (Lit.int .i64 width).wf = true) (hs : s.size ≤ maxLen) (h : IsRow .u8 w a len cap zs) (hcap : cap * 1 ≤ 140737488351232) :
    Calls Try.prog 11 #[.int .i64 width, .string s, .slice a len cap] w fun e w' => e = .returned (.bool true) ∧ Below w.heap.size w w' := by
  obtain ⟨more, hl, hr, hc, hm⟩ := h.bytes
  have rw := i64_bounds hwd
  clear hwd h
  unfold maxLen at hs
  go_enter Try.func11, Try.ntmps11
  go_wp2_with fail
  refine (picked_ex _ _ rw.1 rw.2 (by omega) (by omega) _).mono ?_
  rintro e w' ⟨y, y0, y1, rfl, rfl⟩
  obtain ⟨v, hv⟩ : ∃ v : Nat, 1 + y = (v : Int) := ⟨(1 + y).toNat, by omega⟩
  go_wp2_with fail
  refine (cut_any s 120 hs (by decide) _).mono ?_
  rintro e w' ⟨rfl, rfl⟩
  have ht := cutS_size s 120
  generalize cutS s 120 = t at *
  have v1 : 1 ≤ v := by omega
  have v8 : v ≤ 8 := by omega
  obtain ⟨n, hn⟩ : ∃ n, t.size = n := ⟨_, rfl⟩
  obtain ⟨E, hE⟩ : ∃ E, pEnc v 0 n = E := ⟨_, rfl⟩
  obtain ⟨k, hk⟩ : ∃ k, E.length = k := ⟨_, rfl⟩
  have hk10 : 1 ≤ k ∧ k ≤ 10 := by have := pEnc_len v 0 n; rw [hE, hk] at this; exact this
  have hn120 : n ≤ 120 := by omega
  have HT : Hid (∀ W, Calls Try.prog 34 #[.int .u8 0, .int .i64 v, .string t] W fun e w' =>
      ∃ A c, e = .returned (.tuple #[.slice A (k + n) c, .int .i64 0]) ∧ OwnB w' W.heap.size 5 A c (E ++ bts t) ∧ c ≤ 9223372036854775807 ∧ Below W.heap.size W w') :=
    fun W => text_any v v1 v8 t (by omega) E (by rw [hn]; exact hE) (k + n) (by omega) W
  have HR : Hid (∀ (A : Option Addr) (cap : Nat) (W : World), k + n + len ≤ cap → cap ≤ 9223372036854775807 → RdB W A (E ++ bts t ++ more) → Calls Try.prog 35 #[.slice A (k + n + len) cap, .int .i64 v] W fun e w' =>
      e = .returned (.tuple #[.string t, .int .i64 ((k : Int) + (n : Int)), .int .i64 0]) ∧ W = w') := by
    intro A cap W h1 h2 hr
    have hbt := bts_len t
    refine read_any v v1 v8 A _ (k + n + len) cap (by simp only [List.length_append, hk, hl, hbt, hn]) h1 h2 W hr t n k hn ?_ hn120 (by omega) ?_ (by omega)
    · have := pDec_back v v1 v8 0 (by simp) n (by omega) (bts t ++ more)
      rw [hE, hk, ← List.append_assoc] at this
      exact this
    · rw [List.append_assoc, List.drop_left' hk, List.take_left' (by rw [hbt, hn])]
  have HLL : Hid ((E ++ bts t).length = k + n) := by show (E ++ bts t).length = _; rw [List.length_append, hk, bts_len, hn]
  have HLM := Lib.hid hl
  have HTB : Hid (∀ W, Calls Try.prog 34 #[.int .u8 0, .int .i64 v, .string (byt (List.replicate 121 0))] W fun e w' => e = .returned (.tuple #[.slice none 0 0, .int .i64 1]) ∧ W = w') := fun W => text_big v _ (by decide) (by decide) W
  generalize E ++ bts t = EE at *
  clear hn hE hk hl ht
  go_wp2_with fail
  refine (HT.out _).mono ?_
  rintro e w1 ⟨A0, c0, rfl, hO0, hc0, hb1⟩
  have hr1 := hr.below hb1
  have hEr := hO0.rd
  have hb0 : Below w.heap.size w (w1.alloc (.cells #[] 5)) := hb1.alloc hb1.size _
  have hb0' : Below w1.heap.size w1 (w1.alloc (.cells #[] 5)) := (Below.refl _ _).alloc (Nat.le_refl _) _
  have hcL := hO0.cap
  rw [HLL.out] at hcL
  go_wp2_with (first
    | (at_builtin
       refine wpList_appB _ rfl (.tmp 28) (.tmp 29) _ rfl w1.heap.size 5 Try.underlying74 u8_infoP (some ⟨w1.heap.size, 0, none⟩) 0 0 [] rfl rfl (OwnB.made w1 _ _ (Nat.le_refl _)) A0 (k + n) c0 EE rfl HLL.out (hEr.below hb0') EE rfl (k + n) (by omega) (by omega) (by simp) ?_
       intro A1 c1 w2 hO1 hc1 hc1' hb2
       have hz2 : w1.heap.size ≤ w2.heap.size := by have := hb2.size; simp at this; omega)
    | (at_builtin
       refine wpList_appB _ rfl (.tmp 30) (.tmp 31) _ rfl w1.heap.size 5 Try.underlying74 u8_infoP A1 (k + n) c1 EE rfl HLL.out hO1 a len cap more rfl HLM.out (hr1.below (hb0'.trans hb2)) (EE ++ more) rfl _ rfl (by omega) (by omega) ?_
       intro A2 c2 w3 hO2 hc2 hc2' hb3))
  refine (HR.out A2 c2 _ hc2 hc2' hO2.rd).mono ?_
  rintro e w' ⟨rfl, rfl⟩
  have hb3' := hb0'.trans (hb2.trans hb3)
  have fin := hb1.trans (hb3'.mono hb1.size)
  clear hO1 hc1 hc1' hb2 hO2 hc2 hc2' hb3 hb0 hb0' hb1 hr1 hz2 hb3' hEr hO0 HT
  have hz : Blk (w3.alloc (.cells (madeCells #[.int .u8 0] 121) 5)) w3.heap.size 5 (u8s (List.replicate 121 0)).toArray := by rw [← zeros_u8]; exact Blk.new w3 _ _
  have hzs := RdB.str hz.rdB (P := Try.prog) 74 9 5 121 Try.underlying74 Try.underlying5 Try.underlying9
  rw [List.length_replicate] at hzs
  have hmk : ∀ W, (Instr.makeSlice 74 (.int .i64 121) (.int .i64 121)).run Try.prog W = .ok (.slice (some ⟨W.heap.size, 0, none⟩) 121 121) (W.alloc (.cells (madeCells #[.int .u8 0] 121) 5)) :=
    fun W => run_make_row' 74 5 (.int .u8 0) 1 Try.underlying74 u8_infoP rfl .i64 .i64 121 (by omega) (by omega) W
  go_wp2_with fail
  refine (HTB.out _).mono ?_
  rintro e w' ⟨rfl, rfl⟩
  clear hmk hzs HTB HR
  go_wp2_with fail
  go_ret
  exact ⟨by simp, fin.alloc fin.size _⟩
end Go.Proofs.Ytolhlgalhhdkmaa
