/- The contracts of prefix.Text and prefix.Read. -/
import Derived.Test.YtihngonemdaihaaPEncWalk
import Derived.Test.YtihngonemdaihaaPDecWalk
import Derived.Test.YtihngonemdaihaaStrApp
namespace Go.Proofs.Ytihngonemdaihaa
open Go.ChangeShapes Go.WideShapes Go.ChangeAt Go.RowKit
set_option linter.unusedVariables false

theorem text_big (v : Int) (s : ByteArray) (hs : 120 < s.size) (hm : s.size ≤ 9223372036854775807) (W : World) :
    Calls Try.prog 39 #[.int .u8 0, .int .i64 v, .string s] W fun e w' => e = .returned (.tuple #[.slice none 0 0, .int .i64 1]) ∧ W = w' := by
  go_enter Try.func39, Try.ntmps39
  go_wp2_with fail
  go_ret2
  exact ⟨rfl, rfl⟩

set_option maxRecDepth 100000 in
theorem text_any (v : Nat) (h1 : 1 ≤ v) (h8 : v ≤ 8) (s : ByteArray) (hs : s.size ≤ 120) (E : List UInt8) (hE : pEnc v 0 s.size = E) (L : Nat) (hL : E.length + s.size = L) (W : World) :
    Calls Try.prog 39 #[.int .u8 0, .int .i64 v, .string s] W fun e w' =>
      ∃ A c, e = .returned (.tuple #[.slice A L c, .int .i64 0]) ∧ OwnB w' W.heap.size 5 A c (E ++ bts s) ∧ c ≤ 9223372036854775807 ∧ Below W.heap.size W w' := by
  obtain ⟨m, hm⟩ : ∃ m, E.length = m := ⟨_, rfl⟩
  have HP : Hid (∀ W, Calls Try.prog 40 #[.int .u8 0, .int .i64 v, .int .i64 s.size] W fun e w' => ∃ A c, e = .returned (.tuple #[.slice A m c, .int .i64 0]) ∧ OwnB w' W.heap.size 5 A c E ∧ c ≤ 9223372036854775807 ∧ Below W.heap.size W w') := by
    subst hE; subst hm
    exact fun W => penc_any v h1 h8 0 (by simp) s.size (by omega) _ rfl W
  have HM := Lib.hid hm
  have HL := Lib.hid hL
  have hm10 : m ≤ 10 := by have := pEnc_len v 0 s.size; rw [hE] at this; omega
  clear hE hm hL h1 h8
  go_enter Try.func39, Try.ntmps39
  go_wp2_with fail
  refine (HP.out _).mono ?_
  rintro e w1 ⟨A0, c0, rfl, hO, hc, hb⟩
  go_wp2_with (at_builtin
               refine wpList_appS w1 rfl (.tmp 24) (.tmp 25) _ _ rfl W.heap.size 5 Try.underlying24 Try.underlying9 u8_infoP A0 m c0 E rfl HM.out hO s rfl _ rfl L (by have := HL.out; have := HM.out; omega) (by omega) (by have := hb.size; omega) ?_
               intro A1 c1 w2 hO1 hc1 hc1' hb1)
  go_ret2
  exact ⟨A1, c1, rfl, hO1, hc1', hb.trans hb1⟩

set_option maxRecDepth 100000 in
theorem read_any (v : Nat) (h1 : 1 ≤ v) (h8 : v ≤ 8) (A : Option Addr) (bs : List UInt8) (len cap : Nat) (hl : bs.length = len) (hcap : len ≤ cap) (hmx : cap ≤ 9223372036854775807) (W : World) (h : RdB W A bs)
    (s : ByteArray) (n k : Nat) (hn : s.size = n) (hd : pDec v bs = ((n : Int), (k : Int), 0)) (hs : n ≤ 120) (hk : k + n ≤ len) (hcut : (bs.drop k).take n = bts s) (h0 : 0 < len) :
    Calls Try.prog 49 #[.slice A len cap, .int .i64 v] W fun e w' => e = .returned (.tuple #[.string s, .int .i64 ((k : Int) + (n : Int)), .int .i64 0]) ∧ W = w' := by
  have HP : Hid (∀ W, RdB W A bs → Calls Try.prog 44 #[.slice A len cap, .int .i64 v] W fun e w' => e = .returned (.tuple #[.int .i64 n, .int .i64 k, .int .i64 0]) ∧ W = w') := by
    intro W h
    have := pdec_any v h1 h8 A bs len cap hl hcap hmx W h
    rwa [hd] at this
  have hkb : k ≤ bs.length := by omega
  have hcb : bs.length ≤ cap := by omega
  have hr2 := (RdB.cut (k := k) (cap := cap) h hkb hcb).front (k := n) (by rw [List.length_drop]; omega)
  rw [hcut] at hr2
  have hst : (convert 24 9 (.slice (if cap = k then A else A.map (·.add k)) n (cap - k))).run Try.prog W = .ok (.string s) W := by
    have := hr2.str (P := Try.prog) 24 9 5 (cap - k) Try.underlying24 Try.underlying5 Try.underlying9
    rw [bts_len, hn, byt_bts] at this
    exact this
  obtain ⟨b, off, rfl, _⟩ := h.cell (by omega)
  have HH := Lib.hid h
  clear hr2 hcut hd hl h hn
  have hk0 : (0 : Int) ≤ (k : Int) := by omega
  have hkn : ((k : Int) + (n : Int)) ≤ (cap : Int) := by omega
  simp only [Option.map_some, add_none] at hst
  go_enter Try.func49, Try.ntmps49
  go_wp2_with fail
  refine (HP.out _ HH.out).mono ?_
  rintro e w1 ⟨rfl, rfl⟩
  go_wp2_with fail
  all_goals
    go_ret3
    exact ⟨rfl, rfl⟩
end Go.Proofs.Ytihngonemdaihaa
