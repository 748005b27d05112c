/- The contracts of an eye's step, number and text (fields), and of prefix.Read of any bytes. -/
import Derived.Test.YtihngonemdaihaaFPlain
import Derived.Test.YtihngonemdaihaaPDecWalk
import Derived.Test.YtihngonemdaihaaTextWalk
namespace Go.Proofs.Ytihngonemdaihaa
open Go.ChangeShapes Go.WideShapes Go.ChangeAt Go.RowKit
set_option linter.unusedVariables false

set_option maxRecDepth 100000 in
theorem read_bad (v : Nat) (h1 : 1 ≤ v) (h8 : v ≤ 8) (A : Option Addr) (bs : List UInt8) (len cap : Nat) (hl : bs.length = len) (hcap : len ≤ cap) (hmx : cap ≤ 9223372036854775807) (W : World) (h : RdB W A bs) (E : Int) (hd : pDec v bs = (0, 0, E)) (hE : E ≠ 0) :
    Calls Try.prog 49 #[.slice A len cap, .int .i64 v] W fun e w' => e = .returned (.tuple #[.string ByteArray.empty, .int .i64 0, .int .i64 E]) ∧ W = w' := by
  have HP := pdec_any v h1 h8 A bs len cap hl hcap hmx W h
  rw [hd] at HP
  have hne : (E == 0) = false := by simp [hE]
  have HP := Lib.hid HP
  clear h hd hE
  go_enter Try.func49, Try.ntmps49
  go_wp2_with fail
  refine HP.out.mono ?_
  rintro e w1 ⟨rfl, rfl⟩
  go_wp2_with fail
  go_ret3
  exact ⟨rfl, rfl⟩
set_option maxRecDepth 100000 in
theorem read_long (v : Nat) (h1 : 1 ≤ v) (h8 : v ≤ 8) (A : Option Addr) (bs : List UInt8) (len cap : Nat) (hl : bs.length = len) (hcap : len ≤ cap) (hmx : cap ≤ 9223372036854775807) (W : World) (h : RdB W A bs) (n k : Nat) (hd : pDec v bs = ((n : Int), (k : Int), 0)) (hn : 120 < n) :
    Calls Try.prog 49 #[.slice A len cap, .int .i64 v] W fun e w' => e = .returned (.tuple #[.string ByteArray.empty, .int .i64 0, .int .i64 1]) ∧ W = w' := by
  have HP := pdec_any v h1 h8 A bs len cap hl hcap hmx W h
  rw [hd] at HP
  have HP := Lib.hid HP
  have t1 : decide ((120 : Int) < (n : Int)) = true := decide_eq_true (by omega)
  have t2 : decide (120 < n) = true := decide_eq_true (by omega)
  clear h hd
  go_enter Try.func49, Try.ntmps49
  go_wp2_with fail
  refine HP.out.mono ?_
  rintro e w1 ⟨rfl, rfl⟩
  go_wp2_with fail
  go_ret3
  exact ⟨rfl, rfl⟩
set_option maxRecDepth 100000 in
theorem read_short (v : Nat) (h1 : 1 ≤ v) (h8 : v ≤ 8) (A : Option Addr) (bs : List UInt8) (len cap : Nat) (hl : bs.length = len) (hcap : len ≤ cap) (hmx : cap ≤ 9223372036854775807) (W : World) (h : RdB W A bs) (n k : Nat) (hd : pDec v bs = ((n : Int), (k : Int), 0)) (hn : n ≤ 120) (hk : k ≤ len) (hs : len < k + n) :
    Calls Try.prog 49 #[.slice A len cap, .int .i64 v] W fun e w' => e = .returned (.tuple #[.string ByteArray.empty, .int .i64 0, .int .i64 4]) ∧ W = w' := by
  have HP := pdec_any v h1 h8 A bs len cap hl hcap hmx W h
  rw [hd] at HP
  have HP := Lib.hid HP
  have t1 : decide ((120 : Int) < (n : Int)) = false := decide_eq_false (by omega)
  have t2 : decide (120 < n) = false := decide_eq_false (by omega)
  have t3 : IntKind.i64.wrap ((len : Int) - (k : Int)) = (len : Int) - (k : Int) := IntWalk.i64_in _ (by omega)
  have t4 : decide ((len : Int) - (k : Int) < (n : Int)) = true := decide_eq_true (by omega)
  clear h hd
  go_enter Try.func49, Try.ntmps49
  go_wp2_with fail
  refine HP.out.mono ?_
  rintro e w1 ⟨rfl, rfl⟩
  go_wp2_with fail
  go_ret3
  exact ⟨rfl, rfl⟩
/-- prefix.Read of any bytes. -/
theorem read_gen (v : Nat) (h1 : 1 ≤ v) (h8 : v ≤ 8) (A : Option Addr) (bs : List UInt8) (len cap : Nat) (hl : bs.length = len) (hcap : len ≤ cap) (hmx : cap ≤ 9223372036854775807) (W : World) (h : RdB W A bs) :
    Calls Try.prog 49 #[.slice A len cap, .int .i64 v] W fun e w' => e = .returned (.tuple #[.string (pRead v bs).1, .int .i64 (pRead v bs).2.1, .int .i64 (pRead v bs).2.2]) ∧ W = w' := by
  rcases pDec_cases v bs with ⟨e, hd, he⟩ | ⟨n, k, hd, e1, e2, e3⟩
  · have hp : pRead v bs = (ByteArray.empty, 0, e) := by unfold pRead; rw [hd, if_pos (by simp only; omega)]
    rw [hp]
    exact read_bad v h1 h8 A bs len cap hl hcap hmx W h e hd (by omega)
  · by_cases h4 : 120 < n
    · have hp : pRead v bs = (ByteArray.empty, 0, 1) := by unfold pRead; rw [hd, if_neg (by simp), if_pos (by simp only; omega)]
      rw [hp]
      exact read_long v h1 h8 A bs len cap hl hcap hmx W h n k hd h4
    · by_cases h5 : bs.length < k + n
      · have hp : pRead v bs = (ByteArray.empty, 0, 4) := by unfold pRead; rw [hd, if_neg (by simp), if_neg (by simp only; omega), if_pos (by simp only; omega)]
        rw [hp]
        exact read_short v h1 h8 A bs len cap hl hcap hmx W h n k hd (by omega) (by omega) (by omega)
      · have hp : pRead v bs = (byt ((bs.drop k).take n), (k : Int) + (n : Int), 0) := by
          unfold pRead; rw [hd, if_neg (by simp), if_neg (by simp only; omega), if_neg (by simp only; omega)]; simp
        rw [hp]
        have hsz : (byt ((bs.drop k).take n)).size = n := by rw [← bts_len, bts_byt, List.length_take, List.length_drop]; omega
        exact read_any v h1 h8 A bs len cap hl hcap hmx W h _ n k hsz hd (by omega) (by omega) (bts_byt _).symm (by omega)

/-- What stays where one block alone is written: all others. -/
structure Only (g : Nat) (w w' : World) : Prop where
  os : w'.os = w.os
  tape : w'.tape = w.tape
  output : w'.output = w.output
  size : w.heap.size ≤ w'.heap.size
  block : ∀ q, q < w.heap.size → q ≠ g → w'.heap[q]? = w.heap[q]?
theorem Only.refl (g : Nat) (w : World) : Only g w w := ⟨rfl, rfl, rfl, Nat.le_refl _, fun _ _ _ => rfl⟩
theorem Only.trans {g : Nat} {a b c : World} (h : Only g a b) (k : Only g b c) : Only g a c := ⟨k.os.trans h.os, k.tape.trans h.tape, k.output.trans h.output, Nat.le_trans h.size k.size, fun q h1 hq => (k.block q (Nat.lt_of_lt_of_le h1 h.size) hq).trans (h.block q h1 hq)⟩
theorem Only.set (g i : Nat) (w : World) (u : Value) : Only g w (w.setCell ⟨g, i, none⟩ u) := by
  have h := (Below.refl 0 w).setCell (p := ⟨g, i, none⟩) (Nat.zero_le _) u
  exact ⟨h.os, h.tape, h.output, by simp, fun q _ hq => Below.heap_setCell w ⟨g, i, none⟩ u q hq⟩
theorem Only.of {g : Nat} {w w' : World} (h : Below w.heap.size w w') : Only g w w' := ⟨h.os, h.tape, h.output, h.size, fun q h1 _ => h.block q h1⟩
theorem Only.below {g : Nat} {w w' : World} (h : Only g w w') {B : Nat} (hB : B ≤ g) (hw : B ≤ w.heap.size) : Below B w w' := ⟨h.os, h.tape, h.output, h.size, fun q hq => h.block q (by omega) (by omega)⟩
theorem Only.blk {g : Nat} {w w' : World} (h : Only g w w') {q : Nat} {t : TypeId} {cs : Array Value} (hq : q ≠ g) (hb : Blk w q t cs) : Blk w' q t cs := (h.block q hb.lt hq).trans hb

theorem Blk.facts2E {w : World} {g : Nat} {t : TypeId} {x y : Value} (h : Blk w g t #[x, y]) : g < w.heap.size ∧ w.cell? ⟨g, 0, none⟩ = some x ∧ w.cell? ⟨g, 1, none⟩ = some y ∧ w.frozen? ⟨g, 0, none⟩ = false ∧ w.frozen? ⟨g, 1, none⟩ = false :=
  ⟨h.lt, by rw [h.cell]; rfl, by rw [h.cell]; rfl, h.frozen 0, h.frozen 1⟩
/-- An eye in memory: what it reads was there from the beginning (w0). -/
structure EyeF (w0 w : World) (g : Nat) (y : YeD) : Prop where
  ex : ∃ (A : Option Addr) (n c : Nat), y.b.length = n ∧ n ≤ c ∧ c ≤ 9223372036854775807 ∧ Blk w g 96 #[.slice A n c, .int .i64 y.e] ∧ RdB w0 A y.b
  hg : w0.heap.size ≤ g
  hb : Below w0.heap.size w0 w
theorem EyeF.lt {w0 w : World} {g : Nat} {y : YeD} (h : EyeF w0 w g y) : g < w.heap.size := by
  obtain ⟨A, n, c, _, _, _, hB, _⟩ := h.ex
  exact hB.lt
theorem EyeF.carry {w0 w w' : World} {g : Nat} {y : YeD} (h : EyeF w0 w g y) (hb : Below w.heap.size w w') : EyeF w0 w' g y := by
  obtain ⟨A, n, c, h1, h2, h3, hB, hr⟩ := h.ex
  exact ⟨⟨A, n, c, h1, h2, h3, hB.carry hb, hr⟩, h.hg, h.hb.trans (hb.mono h.hb.size)⟩
/-- Another block is written. -/
theorem EyeF.set {w0 w : World} {g : Nat} {y : YeD} (h : EyeF w0 w g y) {p : Addr} (hp : g ≠ p.block) (hq : w0.heap.size ≤ p.block) (u : Value) : EyeF w0 (w.setCell p u) g y := by
  obtain ⟨A, n, c, h1, h2, h3, hB, hr⟩ := h.ex
  exact ⟨⟨A, n, c, h1, h2, h3, hB.far hp u, hr⟩, h.hg, h.hb.setCell hq u⟩
/-- Its error is set. -/
theorem EyeF.fail {w0 w : World} {g : Nat} {y : YeD} (h : EyeF w0 w g y) (E : Int) : EyeF w0 (w.setCell ⟨g, 1, none⟩ (.int .i64 E)) g ⟨y.b, E⟩ := by
  obtain ⟨A, n, c, h1, h2, h3, hB, hr⟩ := h.ex
  exact ⟨⟨A, n, c, h1, h2, h3, hB.set_ 1 _, hr⟩, h.hg, h.hb.setCell h.hg _⟩

theorem fstep_bad (g : Nat) (s : Value) (K E : Int) (hE : E ≠ 0) (w : World) (h : Blk w g 96 #[s, .int .i64 0]) :
    Calls Try.prog 45 #[.pointer (some ⟨g, 0, none⟩), .int .i64 K, .int .i64 E] w fun e w' => e = .returned (.tuple #[]) ∧ w.setCell ⟨g, 1, none⟩ (.int .i64 E) = w' := by
  have F := h.facts2E
  have hne : (E == 0) = false := by simp [hE]
  have hne2 : (E != 0) = true := by simp [hE]
  clear h
  go_enter Try.func45, Try.ntmps45
  go_wp2_with fail
  ((try simp only [Exit.inBlock, Exit.then]); refine bodyPost_ret (results_none rfl _ _ _) rfl ?_)
  exact ⟨rfl, rfl⟩
theorem fstep_good (g n c K : Nat) (A D : Option Addr) (hK : K ≤ n) (hnc : n ≤ c) (hcm : c ≤ 9223372036854775807) (w : World) (h : Blk w g 96 #[.slice A n c, .int .i64 0]) (hD : (if c = K then A else Option.map (fun x => x.add K) A) = D) :
    Calls Try.prog 45 #[.pointer (some ⟨g, 0, none⟩), .int .i64 (K : Int), .int .i64 0] w fun e w' => e = .returned (.tuple #[]) ∧ w.setCell ⟨g, 0, none⟩ (.slice D (n - K) (c - K)) = w' := by
  have F := h.facts2E
  have hk0 : (0 : Int) ≤ (K : Int) := by omega
  have hkn : (K : Int) ≤ (n : Int) := by omega
  have hkc : (K : Int) ≤ (c : Int) := by omega
  clear h
  go_enter Try.func45, Try.ntmps45
  go_wp2_with fail
  go_end0
  exact ⟨rfl, rfl⟩

set_option maxRecDepth 100000 in
theorem fnum_off (v : Nat) (g : Nat) (s : Value) (e0 : Int) (h0 : e0 ≠ 0) (w : World) (h : Blk w g 96 #[s, .int .i64 e0]) :
    Calls Try.prog 42 #[.pointer (some ⟨g, 0, none⟩), .int .i64 (v : Int)] w fun e w' => e = .returned (.int .i64 0) ∧ w = w' := by
  have F := h.facts2E
  have hne : (e0 == 0) = false := by simp [h0]
  have hne2 : (e0 != 0) = true := by simp [h0]
  clear h h0
  go_enter Try.func42, Try.ntmps42
  go_wp2_with fail
  go_ret
  exact ⟨rfl, rfl⟩
set_option maxRecDepth 100000 in
set_option maxHeartbeats 1000000 in
theorem fnum_bad (v : Nat) (h1 : 1 ≤ v) (h8 : v ≤ 8) (g n c : Nat) (A : Option Addr) (b : List UInt8) (hn : b.length = n) (hnc : n ≤ c) (hcm : c ≤ 9223372036854775807) (w : World) (h : Blk w g 96 #[.slice A n c, .int .i64 0]) (hr : RdB w A b) (E : Int) (hd : pDec v b = (0, 0, E)) (hE : E ≠ 0) :
    Calls Try.prog 42 #[.pointer (some ⟨g, 0, none⟩), .int .i64 (v : Int)] w fun e w' => e = .returned (.int .i64 0) ∧ w.setCell ⟨g, 1, none⟩ (.int .i64 E) = w' := by
  have F := h.facts2E
  have HD := pdec_any v h1 h8 A b n c hn hnc hcm w hr
  rw [hd] at HD
  have HD := Lib.hid HD
  have HH := Lib.hid h
  have HE := Lib.hid hE
  clear h hr hd hn hE
  go_enter Try.func42, Try.ntmps42
  go_wp2_with fail
  refine HD.out.mono ?_
  rintro e w' ⟨rfl, rfl⟩
  go_wp2_with fail
  refine (fstep_bad g _ 0 E HE.out _ HH.out).mono ?_
  rintro e w' ⟨rfl, rfl⟩
  go_wp2_with fail
  go_ret
  exact ⟨rfl, rfl⟩
set_option maxRecDepth 100000 in
set_option maxHeartbeats 1000000 in
theorem fnum_good (v : Nat) (h1 : 1 ≤ v) (h8 : v ≤ 8) (g n c K : Nat) (N : Int) (A D : Option Addr) (b : List UInt8) (hn : b.length = n) (hnc : n ≤ c) (hcm : c ≤ 9223372036854775807) (w : World) (h : Blk w g 96 #[.slice A n c, .int .i64 0]) (hr : RdB w A b) (hd : pDec v b = (N, (K : Int), 0)) (hK : K ≤ n) (hD : (if c = K then A else Option.map (fun x => x.add K) A) = D) :
    Calls Try.prog 42 #[.pointer (some ⟨g, 0, none⟩), .int .i64 (v : Int)] w fun e w' => e = .returned (.int .i64 N) ∧ w.setCell ⟨g, 0, none⟩ (.slice D (n - K) (c - K)) = w' := by
  have F := h.facts2E
  have HD := pdec_any v h1 h8 A b n c hn hnc hcm w hr
  rw [hd] at HD
  have HD := Lib.hid HD
  have HH := Lib.hid h
  have HDD := Lib.hid hD
  clear h hr hd hn hD
  go_enter Try.func42, Try.ntmps42
  go_wp2_with fail
  refine HD.out.mono ?_
  rintro e w' ⟨rfl, rfl⟩
  go_wp2_with fail
  refine (fstep_good g n c K A D hK hnc hcm _ HH.out HDD.out).mono ?_
  rintro e w' ⟨rfl, rfl⟩
  go_wp2_with fail
  go_ret
  exact ⟨rfl, rfl⟩
set_option maxRecDepth 100000 in
theorem ftext_off (v : Nat) (g : Nat) (s : Value) (e0 : Int) (h0 : e0 ≠ 0) (w : World) (h : Blk w g 96 #[s, .int .i64 e0]) :
    Calls Try.prog 48 #[.pointer (some ⟨g, 0, none⟩), .int .i64 (v : Int)] w fun e w' => e = .returned (.string ByteArray.empty) ∧ w = w' := by
  have F := h.facts2E
  have hne : (e0 == 0) = false := by simp [h0]
  have hne2 : (e0 != 0) = true := by simp [h0]
  clear h h0
  go_enter Try.func48, Try.ntmps48
  go_wp2_with fail
  go_ret
  exact ⟨rfl, rfl⟩
set_option maxRecDepth 100000 in
set_option maxHeartbeats 1000000 in
theorem ftext_bad (v : Nat) (h1 : 1 ≤ v) (h8 : v ≤ 8) (g n c : Nat) (A : Option Addr) (b : List UInt8) (hn : b.length = n) (hnc : n ≤ c) (hcm : c ≤ 9223372036854775807) (w : World) (h : Blk w g 96 #[.slice A n c, .int .i64 0]) (hr : RdB w A b) (E : Int) (hd : pRead v b = (ByteArray.empty, 0, E)) (hE : E ≠ 0) :
    Calls Try.prog 48 #[.pointer (some ⟨g, 0, none⟩), .int .i64 (v : Int)] w fun e w' => e = .returned (.string ByteArray.empty) ∧ w.setCell ⟨g, 1, none⟩ (.int .i64 E) = w' := by
  have F := h.facts2E
  have HD := read_gen v h1 h8 A b n c hn hnc hcm w hr
  rw [hd] at HD
  have HD := Lib.hid HD
  have HH := Lib.hid h
  have HE := Lib.hid hE
  clear h hr hd hn hE
  go_enter Try.func48, Try.ntmps48
  go_wp2_with fail
  refine HD.out.mono ?_
  rintro e w' ⟨rfl, rfl⟩
  go_wp2_with fail
  refine (fstep_bad g _ 0 E HE.out _ HH.out).mono ?_
  rintro e w' ⟨rfl, rfl⟩
  go_wp2_with fail
  go_ret
  exact ⟨rfl, rfl⟩
set_option maxRecDepth 100000 in
set_option maxHeartbeats 1000000 in
theorem ftext_good (v : Nat) (h1 : 1 ≤ v) (h8 : v ≤ 8) (g n c K : Nat) (s : ByteArray) (A D : Option Addr) (b : List UInt8) (hn : b.length = n) (hnc : n ≤ c) (hcm : c ≤ 9223372036854775807) (w : World) (h : Blk w g 96 #[.slice A n c, .int .i64 0]) (hr : RdB w A b) (hd : pRead v b = (s, (K : Int), 0)) (hK : K ≤ n) (hD : (if c = K then A else Option.map (fun x => x.add K) A) = D) :
    Calls Try.prog 48 #[.pointer (some ⟨g, 0, none⟩), .int .i64 (v : Int)] w fun e w' => e = .returned (.string s) ∧ w.setCell ⟨g, 0, none⟩ (.slice D (n - K) (c - K)) = w' := by
  have F := h.facts2E
  have HD := read_gen v h1 h8 A b n c hn hnc hcm w hr
  rw [hd] at HD
  have HD := Lib.hid HD
  have HH := Lib.hid h
  have HDD := Lib.hid hD
  clear h hr hd hn hD
  go_enter Try.func48, Try.ntmps48
  go_wp2_with fail
  refine HD.out.mono ?_
  rintro e w' ⟨rfl, rfl⟩
  go_wp2_with fail
  refine (fstep_good g n c K A D hK hnc hcm _ HH.out HDD.out).mono ?_
  rintro e w' ⟨rfl, rfl⟩
  go_wp2_with fail
  go_ret
  exact ⟨rfl, rfl⟩
theorem fNumber_any (v : Nat) (h1 : 1 ≤ v) (h8 : v ≤ 8) (w0 w : World) (g : Nat) (y : YeD) (h : EyeF w0 w g y) :
    Calls Try.prog 42 #[.pointer (some ⟨g, 0, none⟩), .int .i64 (v : Int)] w fun e w' => e = .returned (.int .i64 (yNumber v y).1) ∧ EyeF w0 w' g (yNumber v y).2 ∧ Only g w w' := by
  obtain ⟨A, n, c, hn, hnc, hcm, hB, hr⟩ := h.ex
  have hg := h.hg
  have hb := h.hb
  obtain ⟨b, e⟩ := y
  simp only at hn hB hr
  by_cases h0 : e = 0
  · subst h0
    rcases pDec_cases v b with ⟨E, hd, he⟩ | ⟨m, K, hd, e1, e2, e3⟩
    · rw [yNumber_bad hd (by omega)]
      refine (fnum_bad v h1 h8 g n c A b hn hnc hcm w hB (hr.below hb) E hd (by omega)).mono ?_
      rintro _ w' ⟨rfl, rfl⟩
      exact ⟨rfl, h.fail E, Only.set _ _ _ _⟩
    · rw [yNumber_good hd]
      have hc := RdB.cut (k := K) (cap := c) hr e3 (by omega)
      refine (fnum_good v h1 h8 g n c K (m : Int) A _ b hn hnc hcm w hB (hr.below hb) hd (by omega) rfl).mono ?_
      rintro _ w' ⟨rfl, rfl⟩
      exact ⟨rfl, ⟨⟨_, n - K, c - K, by simp; omega, by omega, by omega, hB.set_ 0 _, hc⟩, hg, hb.setCell hg _⟩, Only.set _ _ _ _⟩
  · rw [yNumber_off (y := ⟨b, e⟩) h0]
    refine (fnum_off v g _ e h0 w hB).mono ?_
    rintro _ w' ⟨rfl, rfl⟩
    exact ⟨rfl, h, Only.refl _ _⟩
theorem fText_any (v : Nat) (h1 : 1 ≤ v) (h8 : v ≤ 8) (w0 w : World) (g : Nat) (y : YeD) (h : EyeF w0 w g y) :
    Calls Try.prog 48 #[.pointer (some ⟨g, 0, none⟩), .int .i64 (v : Int)] w fun e w' => e = .returned (.string (yText v y).1) ∧ EyeF w0 w' g (yText v y).2 ∧ Only g w w' := by
  obtain ⟨A, n, c, hn, hnc, hcm, hB, hr⟩ := h.ex
  have hg := h.hg
  have hb := h.hb
  obtain ⟨b, e⟩ := y
  simp only at hn hB hr
  by_cases h0 : e = 0
  · subst h0
    rcases pRead_cases v b with ⟨E, hd, he⟩ | ⟨m, K, _, hd, e1, e2, e3⟩
    · rw [yText_bad hd (by omega)]
      refine (ftext_bad v h1 h8 g n c A b hn hnc hcm w hB (hr.below hb) E hd (by omega)).mono ?_
      rintro _ w' ⟨rfl, rfl⟩
      exact ⟨rfl, h.fail E, Only.set _ _ _ _⟩
    · rw [yText_good hd]
      have hc := RdB.cut (k := K + m) (cap := c) hr e3 (by omega)
      refine (ftext_good v h1 h8 g n c (K + m) _ A _ b hn hnc hcm w hB (hr.below hb) hd (by omega) rfl).mono ?_
      rintro _ w' ⟨rfl, rfl⟩
      exact ⟨rfl, ⟨⟨_, n - (K + m), c - (K + m), by simp; omega, by omega, by omega, hB.set_ 0 _, hc⟩, hg, hb.setCell hg _⟩, Only.set _ _ _ _⟩
  · rw [yText_off (y := ⟨b, e⟩) h0]
    refine (ftext_off v g _ e h0 w hB).mono ?_
    rintro _ w' ⟨rfl, rfl⟩
    exact ⟨rfl, h, Only.refl _ _⟩
end Go.Proofs.Ytihngonemdaihaa
