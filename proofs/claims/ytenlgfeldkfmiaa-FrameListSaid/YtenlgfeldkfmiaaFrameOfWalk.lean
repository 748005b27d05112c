/- The contract of frameOf. (Printed by gen_frameof.py.) -/
import Derived.Test.YtenlgfeldkfmiaaFrameSame
import Derived.Test.YtenlgfeldkfmiaaNumWalk
import Derived.Test.YtenlgfeldkfmiaaCutStrWalk
import Derived.Test.YtenlgfeldkfmiaaPickAt
import Derived.Test.YtenlgfeldkfmiaaRawArg
import Derived.Test.YtenlgfeldkfmiaaStrApp
import Derived.Laws.IdiomStrings
namespace Go.Proofs.Ytenlgfeldkfmiaa
open Go.ChangeShapes Go.WideShapes Go.ChangeAt Go.RowKit
set_option linter.unusedVariables false

theorem bytes_rdF (w : World) (e : TypeId) (s : ByteArray) (cap : Nat) (fr : Nat × Nat) : RdB (w.drew.alloc (.cells (bytesRow s cap) e fr)) (some ⟨w.heap.size, 0, none⟩) (bts s) := by
  refine ⟨by simp [u8s], fun hn => ⟨w.heap.size, 0, rfl, fun j u hu => ?_⟩⟩
  have hj : j < s.data.size := by
    have := (List.getElem?_eq_some_iff.1 hu).1
    rw [u8s_length] at this; simpa [bts] using this
  have hb : (w.drew.alloc (.cells (bytesRow s cap) e fr)).heap[w.heap.size]? = some (.cells (bytesRow s cap) e fr) := heap_alloc_new w.drew _
  rw [cell_of_row _ w.heap.size _ _ e fr hb, Nat.zero_add, bytesRow_at s cap j hj]
  rw [u8s_get _ _ (by rw [bts_len]; exact hj)] at hu
  rw [← hu]
  simp only [bts, List.getD, Array.getElem?_toList, Array.getElem?_eq_getElem hj, Option.getD_some]
theorem beqF (q : Nat) : ((q : Int) == 0) = (q == 0) := by
  by_cases h : q = 0
  · subst h; rfl
  · have h1 : ((q : Int) == 0) = false := by simp [h]
    have h2 : (q == 0) = false := by simp [h]
    rw [h1, h2]
theorem bytes_rdF2 (w : World) (e : TypeId) (s : ByteArray) (cap : Nat) (fr : Nat × Nat) {H : Nat} (hH : w.heap.size = H) : RdB (w.alloc (.cells (bytesRow s cap) e fr)) (some ⟨H, 0, none⟩) (bts s) := by
  subst hH; exact bytes_rdF w e s cap fr
theorem mod_nat (n m : Int) (hm : 0 < m) : ∃ y : Nat, Hid (n % m = (y : Int)) ∧ (y : Int) < m := by
  obtain ⟨y, h, h0, h1⟩ := mod_ex n m hm
  exact ⟨y.toNat, by show _ = _; rw [h.out]; omega, by omega⟩
theorem Blk.factsFz {w : World} {g : Nat} {t : TypeId} {a b c d e f k : Value} (h : Blk w g t #[a, b, c, d, e, f, k]) : g < w.heap.size ∧ w.cell? ⟨g, 0, none⟩ = some a ∧ w.cell? ⟨g, 1, none⟩ = some b ∧ w.cell? ⟨g, 2, none⟩ = some c ∧ w.cell? ⟨g, 3, none⟩ = some d ∧ w.cell? ⟨g, 4, none⟩ = some e ∧ w.cell? ⟨g, 5, none⟩ = some f ∧ w.cell? ⟨g, 6, none⟩ = some k ∧
    w.frozen? ⟨g, 0, none⟩ = false ∧ w.frozen? ⟨g, 1, none⟩ = false ∧ w.frozen? ⟨g, 2, none⟩ = false ∧ w.frozen? ⟨g, 3, none⟩ = false ∧ w.frozen? ⟨g, 4, none⟩ = false ∧ w.frozen? ⟨g, 5, none⟩ = false ∧ w.frozen? ⟨g, 6, none⟩ = false :=
  ⟨h.lt, by rw [h.cell]; rfl, by rw [h.cell]; rfl, by rw [h.cell]; rfl, by rw [h.cell]; rfl, by rw [h.cell]; rfl, by rw [h.cell]; rfl, by rw [h.cell]; rfl, h.frozen 0, h.frozen 1, h.frozen 2, h.frozen 3, h.frozen 4, h.frozen 5, h.frozen 6⟩

theorem RdB.asF {w : World} {A : Option Addr} {n : Nat} {bs : List UInt8} (h : Rd w 1 A n (u8s bs)) (hn : bs.length = n) : RdB w A bs := by subst hn; exact h
/-- The ranges of an Ack. -/
def ofRngs (lo x y n : Nat) : List Rng := [((lo : Int) + 40, (lo : Int) + 50), ((lo : Int) + 20, (lo : Int) + 20 + x), ((lo : Int), (lo : Int) + y)].take (1 + n)
/-- The frame that is made of a raw thing. -/
def frOf (k a b q99 q2 q3 q18 q5 q50 : Nat) (ds : List UInt8) : FrD :=
  match k with
  | 0 => ⟨1, 0, 0, false, 0, [], []⟩
  | 1 => ⟨2, 0, 0, false, 0, ofRngs q50 q18 q5 q3, []⟩
  | 2 => ⟨4, a, b, false, q99, [], []⟩
  | 3 => ⟨5, a, 0, false, b, [], []⟩
  | 4 => ⟨6, 0, b / 2, false, 0, [], ds⟩
  | 5 => ⟨7, 0, 0, false, 0, [], ds⟩
  | 6 => ⟨8, a, b / 2, q2 == 0, 0, [], ds⟩
  | 7 => ⟨8, a, b / 2, q2 == 0, 0, [], ds⟩
  | 8 => ⟨16, 0, a, false, 0, [], []⟩
  | 9 => ⟨17, a, b, false, 0, [], []⟩
  | 10 => ⟨18, 0, a, false, 0, [], []⟩
  | 11 => ⟨26, 0, 0, false, a, [], []⟩
  | 12 => ⟨28, 0, 0, false, a, [], []⟩
  | _ => ⟨if q2 = 0 then 0 else 30, 0, 0, false, 0, [], []⟩
theorem ofRngs_ok (lo x y n : Nat) (h0 : lo < 50) (h1 : x < 18) (h2 : y < 5) (h3 : n < 3) : goodDown 4611686018427387905 (ofRngs lo x y n) ∧ (ofRngs lo x y n).length = 1 + n := by
  rcases (show n = 0 ∨ n = 1 ∨ n = 2 by omega) with rfl | rfl | rfl
  all_goals
    refine ⟨?_, rfl⟩
    simp only [ofRngs, List.take_succ_cons, List.take_zero, goodDown, and_true]
    omega
theorem frOf_ok (k a b q99 q2 q3 q18 q5 q50 : Nat) (ds : List UInt8) (ha : a ≤ 4611686018427387903) (hb : b ≤ 4611686018427387903) (h99 : q99 < 99) (h2 : q2 < 2) (h3 : q3 < 3) (h18 : q18 < 18) (h5 : q5 < 5) (h50 : q50 < 50) (hd : ds.length ≤ 40) (hk : k < 14) : FrOk (frOf k a b q99 q2 q3 q18 q5 q50 ds) := by
  obtain ⟨g1, g2⟩ := ofRngs_ok q50 q18 q5 q3 h50 h18 h5 h3
  rcases (show k = 0 ∨ k = 1 ∨ k = 2 ∨ k = 3 ∨ k = 4 ∨ k = 5 ∨ k = 6 ∨ k = 7 ∨ k = 8 ∨ k = 9 ∨ k = 10 ∨ k = 11 ∨ k = 12 ∨ k = 13 by omega) with rfl | rfl | rfl | rfl | rfl | rfl | rfl | rfl | rfl | rfl | rfl | rfl | rfl | rfl
  case inr.inl =>
    refine ⟨rfl, by simp [frOf], by show (ofRngs q50 q18 q5 q3).length ≤ 6; omega, by simp [frOf], fun _ => rfl, by simp [frOf], fun _ => rfl, by simp [frOf], fun _ => rfl, by simp [frOf, pData], fun _ => rfl, fun _ => rfl, ?_, g1⟩
    refine ⟨fun _ h => ?_, fun _ => rfl⟩
    have h' : ofRngs q50 q18 q5 q3 = [] := h
    rw [h'] at g2
    simp at g2; omega
  case inr.inr.inr.inr.inr.inr.inr.inr.inr.inr.inr.inr.inr =>
    rcases (show q2 = 0 ∨ q2 = 1 by omega) with rfl | rfl
    all_goals exact ⟨rfl, by simp [frOf], by simp [frOf], by simp [frOf], fun _ => rfl, by simp [frOf], fun _ => rfl, by simp [frOf], fun _ => rfl, by simp [frOf, pData], fun _ => rfl, fun _ => rfl, by simp [frOf], trivial⟩
  all_goals
    exact ⟨rfl, by simp [frOf] <;> omega, by simp [frOf], by simp [frOf] <;> omega, by simp [frOf, pId], by simp [frOf] <;> omega, by simp [frOf, pOff], by simp [frOf] <;> omega, by simp [frOf, pCode], by simp [frOf, pData] <;> omega, by simp [frOf, pData], by simp [frOf, pFin], by simp [frOf], trivial⟩

/-- A block that was made on the way from w to w'. -/
def FrIn (w w' : World) (A : Option Addr) : Prop := ∀ a, A = some a → w.heap.size ≤ a.block ∧ a.block < w'.heap.size
theorem frIn_none (w w' : World) : FrIn w w' none := fun a h => by cases h
theorem frIn_some {w w' : World} {g o : Nat} (h1 : w.heap.size ≤ g) (h2 : g < w'.heap.size) : FrIn w w' (some ⟨g, o, none⟩) := fun a h => by
  injection h with h; subst h; exact ⟨h1, h2⟩
/-- What frameOf answers. -/
def FrOut (w : World) (f : FrD) (e : Ending) (w' : World) : Prop := ∃ (A : Option Addr) (c : Nat) (B : Option Addr) (d : Nat), e = .returned (.agg (frcells f A c B d)) ∧ RdX rcells 2 w' A f.rngs ∧ RdB w' B f.data ∧ f.rngs.length ≤ c ∧ c ≤ 9223372036854775807 ∧ f.data.length ≤ d ∧ d ≤ 9223372036854775807 ∧ Below w.heap.size w w' ∧ FrIn w w' A ∧ FrIn w w' B

set_option maxRecDepth 100000 in
set_option maxHeartbeats 16000000 in
theorem frameOf_any (r : RawD) (hr : RawOk r) : ∃ f : FrD, FrOk f ∧ ∀ w, Calls Try.prog 15 #[rawV r] w (FrOut w f) := by
  obtain ⟨o0, o1, o2, o3⟩ := hr
  unfold maxLen at o3
  obtain ⟨k, HK, k1⟩ := mod_nat r.kind 14 (by decide)
  obtain ⟨q99, H99, h99⟩ := mod_nat r.a 99 (by decide)
  obtain ⟨q2, H2, h2⟩ := mod_nat r.a 2 (by decide)
  obtain ⟨q3, H3, h3⟩ := mod_nat r.a 3 (by decide)
  obtain ⟨q18, H18, h18⟩ := mod_nat r.a 18 (by decide)
  obtain ⟨q5, H5, h5⟩ := mod_nat r.a 5 (by decide)
  obtain ⟨q50, H50, h50⟩ := mod_nat r.b 50 (by decide)
  obtain ⟨a, ha⟩ : ∃ a, numN r.a = a := ⟨_, rfl⟩
  obtain ⟨b, hb⟩ : ∃ b, numN r.b = b := ⟨_, rfl⟩
  have hab := numN_le r.a
  have hbb := numN_le r.b
  rw [ha] at hab
  rw [hb] at hbb
  have HNA : Hid (∀ W, Calls Try.prog 27 #[.int .i64 r.a] W fun e w' => e = .returned (.int .i64 (a : Nat)) ∧ W = w') := fun W => by have := number_nat r.a W; rwa [ha] at this
  have HNB : Hid (∀ W, Calls Try.prog 27 #[.int .i64 r.b] W fun e w' => e = .returned (.int .i64 (b : Nat)) ∧ W = w') := fun W => by have := number_nat r.b W; rwa [hb] at this
  clear ha hb
  obtain ⟨cs, hcs⟩ : ∃ cs, cutS r.text 40 = cs := ⟨_, rfl⟩
  have hcs40 : cs.size ≤ 40 := by rw [← hcs]; exact cutS_size _ _
  have HCS : Hid (∀ W, Calls Try.prog 23 #[.string r.text, .int .i64 40] W fun e w' => e = .returned (.string cs) ∧ W = w') := fun W => by
    have := cut_any r.text 40 o3 (by decide) W
    rw [hcs] at this; exact this
  clear hcs
  refine ⟨frOf k a b q99 q2 q3 q18 q5 q50 (bts cs), frOf_ok k a b q99 q2 q3 q18 q5 q50 (bts cs) (by omega) (by omega) (by omega) (by omega) (by omega) (by omega) (by omega) (by omega) (by rw [bts_len]; exact hcs40) (by omega), fun w => ?_⟩
  have hcv : ∀ W, (convert 9 24 (.string cs)).run Try.prog W = .ok (.slice (some ⟨W.heap.size, 0, none⟩) cs.size (grownCap W cs.size 0 5)) (W.drew.alloc (.cells (bytesRow cs (grownCap W cs.size 0 5)) 5 ((bytesRow cs (grownCap W cs.size 0 5)).size, (bytesRow cs (grownCap W cs.size 0 5)).size + 1))) := fun W => run_bytes_of_string W _ _ _ cs Try.underlying9 Try.underlying24 Try.underlying5
  unfold rawV
  go_enter Try.func15, Try.ntmps15
  go_wp2_with fail
  refine (HCS.out _).mono ?_
  rintro e w' ⟨rfl, rfl⟩
  go_upto_region 2 with (fail)
  obtain ⟨d, hd⟩ : ∃ d, grownCap ((w.alloc (.cells #[.int .i64 r.kind, .int .i64 r.a, .int .i64 r.b, .string r.text] 23)).alloc (.cells #[.int .i64 0, .int .i64 0, .int .i64 0, .bool false, .int .i64 0, .slice none 0 0, .slice none 0 0] 40)) cs.size 0 5 = d := ⟨_, rfl⟩
  have hd1 : cs.size ≤ d := by rw [← hd]; exact grownCap_ge _ _ _ _
  have hd2 : d ≤ 9223372036854775807 := by rw [← hd]; exact grownCap_le_maxLen _ _ _ _ (by unfold maxLen; omega)
  try rw [hd]
  refine wp_world (fun w' => Blk w' w.heap.size 23 #[.int .i64 r.kind, .int .i64 r.a, .int .i64 r.b, .string r.text] ∧ Blk w' (w.heap.size + 1) 40 #[.int .i64 0, .int .i64 0, .int .i64 0, .bool false, .int .i64 0, .slice none 0 0, .slice none 0 0] ∧ RdB w' (some ⟨w.heap.size + 2, 0, none⟩) (bts cs) ∧ w.heap.size + 2 < w'.heap.size ∧ Below w.heap.size w w') ⟨?_, ?_, ?_, ?_, ?_⟩ ?_
  · exact (((Blk.new _ _ _).alloc _).drew).alloc _
  · exact ((Blk.new1 _ _ _ _).drew).alloc _
  · refine Rd.drew ?_
    refine bytes_rdF2 _ _ _ _ _ ?_
    simp
  · simp
  · exact ((((Below.refl _ _).alloc (Nat.le_refl _) _).alloc (by simp) _).drew).alloc (by simp; omega) _
  rintro w2 ⟨hQ, hC, hR, hg, hb⟩
  have FQ := hQ.facts4
  have HQ := Lib.hid hQ
  have HC := Lib.hid hC
  have HR := Lib.hid hR
  have HB := Lib.hid hb
  clear hQ hC hR hb hcv
  go_region_held3 (fun w' => w'.cell? ⟨w.heap.size, 1, none⟩ = some (.int .i64 r.a) ∧ w'.cell? ⟨w.heap.size, 2, none⟩ = some (.int .i64 r.b)) (go_keep)
    (first
      | (go_at_call_of 27 (Value.int .i64 r.a); refine (HNA.out _).mono ?_; rintro e w' ⟨rfl, rfl⟩)
      | (go_at_call_of 27 (Value.int .i64 r.b); refine (HNB.out _).mono ?_; rintro e w' ⟨rfl, rfl⟩))
  go_upto_region 3 with (fail)
  refine wp_world (fun w' => Blk w' w.heap.size 23 #[.int .i64 r.kind, .int .i64 r.a, .int .i64 r.b, .string r.text] ∧ Blk w' (w.heap.size + 1) 40 #[.int .i64 0, .int .i64 0, .int .i64 0, .bool false, .int .i64 0, .slice none 0 0, .slice none 0 0] ∧ RdB w' (some ⟨w.heap.size + 2, 0, none⟩) (bts cs) ∧ w.heap.size + 2 < w'.heap.size ∧ Below w.heap.size w w') ⟨?_, ?_, ?_, ?_, ?_⟩ ?_
  · have h := HQ.out
    (apply Blk.as; (case h => (repeat (first | with_reducible exact h | with_reducible apply Blk.drew | with_reducible apply Blk.set4 | with_reducible apply Blk.set_ | (with_reducible apply Blk.far4 (hne := ?side); case side => (first | omega | (simp; omega) | (simp; done))) | (with_reducible apply Blk.far (hp := ?side); case side => (first | omega | (simp; omega) | (simp; done))) | with_reducible apply Blk.alloc))); (case e => (first | with_reducible rfl | (simp; done) | rfl)))
  · have h := HC.out
    (apply Blk.as; (case h => (repeat (first | with_reducible exact h | with_reducible apply Blk.drew | with_reducible apply Blk.set4 | with_reducible apply Blk.set_ | (with_reducible apply Blk.far4 (hne := ?side); case side => (first | omega | (simp; omega) | (simp; done))) | (with_reducible apply Blk.far (hp := ?side); case side => (first | omega | (simp; omega) | (simp; done))) | with_reducible apply Blk.alloc))); (case e => (first | with_reducible rfl | (simp; done) | rfl)))
  · have h := HR.out
    exact h
  · exact hg
  · have h := HB.out
    (repeat (first | with_reducible exact h | with_reducible refine Below.drew ?_ | (with_reducible refine Below.set4 ?_ ?side _ _ _ _; case side => (first | omega | (simp; omega) | (simp; done))) | (with_reducible refine Below.setCell ?_ ?side _; case side => (first | omega | (simp; omega) | (simp; done))) | (with_reducible refine Below.alloc ?_ ?side _; case side => (first | omega | (simp; omega) | (simp; done)))))
  clear FQ HQ HC HR HB hg
  rintro w3 ⟨hQ, hC, hR, hg, hb⟩
  have FQ := hQ.facts4
  have FC := hC.factsFz
  have HR := Lib.hid hR
  have HB := Lib.hid hb
  have HQ := Lib.hid hQ
  have HC := Lib.hid hC
  have hq1 : IntKind.i64.wrap (Int.tdiv (b : Int) 2) = ((b / 2 : Nat) : Int) := by
    rw [Int.tdiv_eq_ediv_of_nonneg (by omega), IntKind.wrap_i64]; omega
  have hgw : w.heap.size ≠ w.heap.size + 1 := by omega
  clear hQ hC hR hb
  go_wp2_with fail
  refine (picked_at r.kind 14 k o0.1 o0.2 (by decide) (by decide) HK _).mono ?_
  rintro e w' ⟨rfl, rfl⟩
  rcases (show k = 0 ∨ k = 1 ∨ k = 2 ∨ k = 3 ∨ k = 4 ∨ k = 5 ∨ k = 6 ∨ k = 7 ∨ k = 8 ∨ k = 9 ∨ k = 10 ∨ k = 11 ∨ k = 12 ∨ k = 13 by omega) with rfl | rfl | rfl | rfl | rfl | rfl | rfl | rfl | rfl | rfl | rfl | rfl | rfl | rfl
  · go_wp2_with fail
    refine bodyPost_ret (v := .agg #[.int .i64 1, .int .i64 0, .int .i64 0, .bool false, .int .i64 0, .slice none 0 0, .slice none 0 0]) ?_ rfl ⟨none, 0, none, 0, ?_, RdX.nil, RdB.nil, Nat.le_refl _, by decide, Nat.le_refl _, by decide, ?_, frIn_none _ _, frIn_none _ _⟩
    · simp [results, Try.results15, go_sem, FC] <;> rfl
    · first | rfl | (simp [frOf, frcells, bts_len]; done) | (simp [frOf, frcells, bts_len, beqF])
    · have h := HB.out
      (repeat (first | with_reducible exact h | with_reducible refine Below.drew ?_ | (with_reducible refine Below.set4 ?_ ?side _ _ _ _; case side => (first | omega | (simp; omega) | (simp; done))) | (with_reducible refine Below.setCell ?_ ?side _; case side => (first | omega | (simp; omega) | (simp; done))) | (with_reducible refine Below.alloc ?_ ?side _; case side => (first | omega | (simp; omega) | (simp; done)))))
  · have hw1 : IntKind.i64.wrap ((q50 : Int) + 40) = (q50 : Int) + 40 := IntWalk.i64_in _ (by omega)
    have hw2 : IntKind.i64.wrap ((q50 : Int) + 50) = (q50 : Int) + 50 := IntWalk.i64_in _ (by omega)
    have hw3 : IntKind.i64.wrap ((q50 : Int) + 20) = (q50 : Int) + 20 := IntWalk.i64_in _ (by omega)
    have hw4 : IntKind.i64.wrap ((q50 : Int) + 20 + (q18 : Int)) = (q50 : Int) + 20 + (q18 : Int) := IntWalk.i64_in _ (by omega)
    have hw5 : IntKind.i64.wrap ((q50 : Int) + (q5 : Int)) = (q50 : Int) + (q5 : Int) := IntWalk.i64_in _ (by omega)
    go_wp2_with fail
    refine (picked_at r.b 50 q50 o2.1 o2.2 (by decide) (by decide) H50 _).mono ?_
    rintro e w' ⟨rfl, rfl⟩
    go_upto_region 8 with (fail)
    go_region_held3 (fun w' => w'.cell? ⟨w.heap.size, 1, none⟩ = some (.int .i64 r.a)) (go_keep)
      (first
        | (go_at_call_of 12 (Value.int .i64 18); refine (picked_at r.a 18 q18 o1.1 o1.2 (by decide) (by decide) H18 _).mono ?_; rintro e w' ⟨rfl, rfl⟩)
        | (go_at_call_of 12 (Value.int .i64 5); refine (picked_at r.a 5 q5 o1.1 o1.2 (by decide) (by decide) H5 _).mono ?_; rintro e w' ⟨rfl, rfl⟩))
    go_upto_region 9 with (fail)
    refine wp_world (fun w' => Blk w' w3.heap.size 63 #[.int .i64 ((q50 : Int) + 40), .int .i64 ((q50 : Int) + 50), .int .i64 ((q50 : Int) + 20), .int .i64 ((q50 : Int) + 20 + (q18 : Int)), .int .i64 (q50 : Int), .int .i64 ((q50 : Int) + (q5 : Int))] ∧ Blk w' w.heap.size 23 #[.int .i64 r.kind, .int .i64 r.a, .int .i64 r.b, .string r.text] ∧ Blk w' (w.heap.size + 1) 40 #[.int .i64 0, .int .i64 0, .int .i64 0, .bool false, .int .i64 0, .slice none 0 0, .slice none 0 0] ∧ Below w.heap.size w w') ⟨(Blk.new _ _ _).drew, (HQ.out.alloc _).drew, (HC.out.alloc _).drew, ?_⟩ ?_
    · have h := HB.out
      exact (h.alloc h.size _).drew
    clear FQ FC HR HB HQ HC hw1 hw2 hw3 hw4 hw5
    have hgl3 : w.heap.size + 2 < w3.heap.size := hg
    generalize w3.heap.size = G at *
    rintro w4 ⟨hR, hQ, hC, hb⟩
    have FQ := hQ.facts4
    have FC := hC.factsFz
    have HR := Lib.hid hR
    have HB := Lib.hid hb
    have hw6 : IntKind.i64.wrap (1 + (q3 : Int)) = 1 + (q3 : Int) := IntWalk.i64_in _ (by omega)
    have hz1 : (0 : Int) ≤ 1 + (q3 : Int) := by omega
    have hz2 : 1 + (q3 : Int) ≤ 3 := by omega
    have hz3 : (1 + (q3 : Int)).toNat = 1 + q3 := by omega
    clear hQ hC hR hb
    go_wp2_with fail
    refine (picked_at r.a 3 q3 o1.1 o1.2 (by decide) (by decide) H3 _).mono ?_
    rintro e w' ⟨rfl, rfl⟩
    go_wp2_with fail
    refine bodyPost_ret (v := .agg #[.int .i64 2, .int .i64 0, .int .i64 0, .bool false, .int .i64 0, .slice (some ⟨G, 0, none⟩) (1 + q3) 3, .slice none 0 0]) ?_ rfl ⟨some ⟨G, 0, none⟩, 3, none, 0, ?_, ?_, RdB.nil, ?_, by decide, Nat.le_refl _, by decide, ?_, frIn_some (w := w) (g := G) (by omega) ?_, frIn_none _ _⟩
    · simp [results, Try.results15, go_sem, FC] <;> rfl
    · simp only [frOf, frcells, (ofRngs_ok q50 q18 q5 q3 (by omega) (by omega) (by omega) (by omega)).2]; rfl
    · have h := HR.out
      have hx : RdX rcells 2 w4 (some ⟨G, 0, none⟩) [((q50 : Int) + 40, (q50 : Int) + 50), ((q50 : Int) + 20, (q50 : Int) + 20 + q18), ((q50 : Int), (q50 : Int) + q5)] := Rd.of_blk h rfl
      have hy := RdX.front rcells_len hx (k := 1 + q3) (by show 1 + q3 ≤ 3; omega)
      have hy : Rd w4 2 (some ⟨G, 0, none⟩) (frOf 1 a b q99 q2 q3 q18 q5 q50 (bts cs)).rngs.length ((frOf 1 a b q99 q2 q3 q18 q5 q50 (bts cs)).rngs.flatMap rcells) := hy
      show Rd _ 2 (some ⟨G, 0, none⟩) (frOf 1 a b q99 q2 q3 q18 q5 q50 (bts cs)).rngs.length ((frOf 1 a b q99 q2 q3 q18 q5 q50 (bts cs)).rngs.flatMap rcells)
      (repeat (first | with_reducible exact hy | with_reducible refine Rd.drew ?_ | (with_reducible refine Rd.farc ?_ ?side _; case side => (first | omega | (simp; omega) | (simp; done))) | with_reducible refine Rd.alloc ?_ _))
    · show (ofRngs q50 q18 q5 q3).length ≤ 3
      rw [(ofRngs_ok q50 q18 q5 q3 (by omega) (by omega) (by omega) (by omega)).2]; omega
    · have h := HB.out
      (repeat (first | with_reducible exact h | with_reducible refine Below.drew ?_ | (with_reducible refine Below.set4 ?_ ?side _ _ _ _; case side => (first | omega | (simp; omega) | (simp; done))) | (with_reducible refine Below.setCell ?_ ?side _; case side => (first | omega | (simp; omega) | (simp; done))) | (with_reducible refine Below.alloc ?_ ?side _; case side => (first | omega | (simp; omega) | (simp; done)))))
    · have h := HR.out.lt
      first | with_reducible exact h | (simp; omega)
  · go_wp2_with fail
    refine (picked_at r.a 99 q99 o1.1 o1.2 (by decide) (by decide) H99 _).mono ?_
    rintro e w' ⟨rfl, rfl⟩
    go_wp2_with fail
    refine bodyPost_ret (v := .agg #[.int .i64 4, .int .i64 a, .int .i64 b, .bool false, .int .i64 q99, .slice none 0 0, .slice none 0 0]) ?_ rfl ⟨none, 0, none, 0, ?_, RdX.nil, RdB.nil, Nat.le_refl _, by decide, Nat.le_refl _, by decide, ?_, frIn_none _ _, frIn_none _ _⟩
    · simp [results, Try.results15, go_sem, FC] <;> rfl
    · first | rfl | (simp [frOf, frcells, bts_len]; done) | (simp [frOf, frcells, bts_len, beqF])
    · have h := HB.out
      (repeat (first | with_reducible exact h | with_reducible refine Below.drew ?_ | (with_reducible refine Below.set4 ?_ ?side _ _ _ _; case side => (first | omega | (simp; omega) | (simp; done))) | (with_reducible refine Below.setCell ?_ ?side _; case side => (first | omega | (simp; omega) | (simp; done))) | (with_reducible refine Below.alloc ?_ ?side _; case side => (first | omega | (simp; omega) | (simp; done)))))
  · go_wp2_with fail
    refine bodyPost_ret (v := .agg #[.int .i64 5, .int .i64 a, .int .i64 0, .bool false, .int .i64 b, .slice none 0 0, .slice none 0 0]) ?_ rfl ⟨none, 0, none, 0, ?_, RdX.nil, RdB.nil, Nat.le_refl _, by decide, Nat.le_refl _, by decide, ?_, frIn_none _ _, frIn_none _ _⟩
    · simp [results, Try.results15, go_sem, FC] <;> rfl
    · first | rfl | (simp [frOf, frcells, bts_len]; done) | (simp [frOf, frcells, bts_len, beqF])
    · have h := HB.out
      (repeat (first | with_reducible exact h | with_reducible refine Below.drew ?_ | (with_reducible refine Below.set4 ?_ ?side _ _ _ _; case side => (first | omega | (simp; omega) | (simp; done))) | (with_reducible refine Below.setCell ?_ ?side _; case side => (first | omega | (simp; omega) | (simp; done))) | (with_reducible refine Below.alloc ?_ ?side _; case side => (first | omega | (simp; omega) | (simp; done)))))
  · go_wp2_with fail
    refine bodyPost_ret (v := .agg #[.int .i64 6, .int .i64 0, .int .i64 (b / 2 : Nat), .bool false, .int .i64 0, .slice none 0 0, .slice (some ⟨w.heap.size + 2, 0, none⟩) cs.size d]) ?_ rfl ⟨none, 0, some ⟨w.heap.size + 2, 0, none⟩, d, ?_, RdX.nil, ?_, Nat.le_refl _, by decide, by show (bts cs).length ≤ d; rw [bts_len]; exact hd1, hd2, ?_, frIn_none _ _, frIn_some (Nat.le_add_right _ _) ?_⟩
    · simp [results, Try.results15, go_sem, FC] <;> rfl
    · first | rfl | (simp [frOf, frcells, bts_len]; done) | (simp [frOf, frcells, bts_len, beqF])
    · have h := HR.out
      have h : Rd w3 1 (some ⟨w.heap.size + 2, 0, none⟩) (bts cs).length (u8s (bts cs)) := h
      refine RdB.asF (n := (bts cs).length) (bs := bts cs) ?_ rfl
      (repeat (first | with_reducible exact h | with_reducible refine Rd.drew ?_ | (with_reducible refine Rd.farc ?_ ?side _; case side => (first | omega | (simp; omega) | (simp; done))) | with_reducible refine Rd.alloc ?_ _))
    · have h := HB.out
      (repeat (first | with_reducible exact h | with_reducible refine Below.drew ?_ | (with_reducible refine Below.set4 ?_ ?side _ _ _ _; case side => (first | omega | (simp; omega) | (simp; done))) | (with_reducible refine Below.setCell ?_ ?side _; case side => (first | omega | (simp; omega) | (simp; done))) | (with_reducible refine Below.alloc ?_ ?side _; case side => (first | omega | (simp; omega) | (simp; done)))))
    · first | with_reducible exact hg | (simp; omega)
  · go_wp2_with fail
    refine bodyPost_ret (v := .agg #[.int .i64 7, .int .i64 0, .int .i64 0, .bool false, .int .i64 0, .slice none 0 0, .slice (some ⟨w.heap.size + 2, 0, none⟩) cs.size d]) ?_ rfl ⟨none, 0, some ⟨w.heap.size + 2, 0, none⟩, d, ?_, RdX.nil, ?_, Nat.le_refl _, by decide, by show (bts cs).length ≤ d; rw [bts_len]; exact hd1, hd2, ?_, frIn_none _ _, frIn_some (Nat.le_add_right _ _) ?_⟩
    · simp [results, Try.results15, go_sem, FC] <;> rfl
    · first | rfl | (simp [frOf, frcells, bts_len]; done) | (simp [frOf, frcells, bts_len, beqF])
    · have h := HR.out
      have h : Rd w3 1 (some ⟨w.heap.size + 2, 0, none⟩) (bts cs).length (u8s (bts cs)) := h
      refine RdB.asF (n := (bts cs).length) (bs := bts cs) ?_ rfl
      (repeat (first | with_reducible exact h | with_reducible refine Rd.drew ?_ | (with_reducible refine Rd.farc ?_ ?side _; case side => (first | omega | (simp; omega) | (simp; done))) | with_reducible refine Rd.alloc ?_ _))
    · have h := HB.out
      (repeat (first | with_reducible exact h | with_reducible refine Below.drew ?_ | (with_reducible refine Below.set4 ?_ ?side _ _ _ _; case side => (first | omega | (simp; omega) | (simp; done))) | (with_reducible refine Below.setCell ?_ ?side _; case side => (first | omega | (simp; omega) | (simp; done))) | (with_reducible refine Below.alloc ?_ ?side _; case side => (first | omega | (simp; omega) | (simp; done)))))
    · first | with_reducible exact hg | (simp; omega)
  · go_wp2_with fail
    refine (picked_at r.a 2 q2 o1.1 o1.2 (by decide) (by decide) H2 _).mono ?_
    rintro e w' ⟨rfl, rfl⟩
    go_wp2_with fail
    refine bodyPost_ret (v := .agg #[.int .i64 8, .int .i64 a, .int .i64 (b / 2 : Nat), .bool ((q2 : Int) == 0), .int .i64 0, .slice none 0 0, .slice (some ⟨w.heap.size + 2, 0, none⟩) cs.size d]) ?_ rfl ⟨none, 0, some ⟨w.heap.size + 2, 0, none⟩, d, ?_, RdX.nil, ?_, Nat.le_refl _, by decide, by show (bts cs).length ≤ d; rw [bts_len]; exact hd1, hd2, ?_, frIn_none _ _, frIn_some (Nat.le_add_right _ _) ?_⟩
    · simp [results, Try.results15, go_sem, FC] <;> rfl
    · first | rfl | (simp [frOf, frcells, bts_len]; done) | (simp [frOf, frcells, bts_len, beqF])
    · have h := HR.out
      have h : Rd w3 1 (some ⟨w.heap.size + 2, 0, none⟩) (bts cs).length (u8s (bts cs)) := h
      refine RdB.asF (n := (bts cs).length) (bs := bts cs) ?_ rfl
      (repeat (first | with_reducible exact h | with_reducible refine Rd.drew ?_ | (with_reducible refine Rd.farc ?_ ?side _; case side => (first | omega | (simp; omega) | (simp; done))) | with_reducible refine Rd.alloc ?_ _))
    · have h := HB.out
      (repeat (first | with_reducible exact h | with_reducible refine Below.drew ?_ | (with_reducible refine Below.set4 ?_ ?side _ _ _ _; case side => (first | omega | (simp; omega) | (simp; done))) | (with_reducible refine Below.setCell ?_ ?side _; case side => (first | omega | (simp; omega) | (simp; done))) | (with_reducible refine Below.alloc ?_ ?side _; case side => (first | omega | (simp; omega) | (simp; done)))))
    · first | with_reducible exact hg | (simp; omega)
  · go_wp2_with fail
    refine (picked_at r.a 2 q2 o1.1 o1.2 (by decide) (by decide) H2 _).mono ?_
    rintro e w' ⟨rfl, rfl⟩
    go_wp2_with fail
    refine bodyPost_ret (v := .agg #[.int .i64 8, .int .i64 a, .int .i64 (b / 2 : Nat), .bool ((q2 : Int) == 0), .int .i64 0, .slice none 0 0, .slice (some ⟨w.heap.size + 2, 0, none⟩) cs.size d]) ?_ rfl ⟨none, 0, some ⟨w.heap.size + 2, 0, none⟩, d, ?_, RdX.nil, ?_, Nat.le_refl _, by decide, by show (bts cs).length ≤ d; rw [bts_len]; exact hd1, hd2, ?_, frIn_none _ _, frIn_some (Nat.le_add_right _ _) ?_⟩
    · simp [results, Try.results15, go_sem, FC] <;> rfl
    · first | rfl | (simp [frOf, frcells, bts_len]; done) | (simp [frOf, frcells, bts_len, beqF])
    · have h := HR.out
      have h : Rd w3 1 (some ⟨w.heap.size + 2, 0, none⟩) (bts cs).length (u8s (bts cs)) := h
      refine RdB.asF (n := (bts cs).length) (bs := bts cs) ?_ rfl
      (repeat (first | with_reducible exact h | with_reducible refine Rd.drew ?_ | (with_reducible refine Rd.farc ?_ ?side _; case side => (first | omega | (simp; omega) | (simp; done))) | with_reducible refine Rd.alloc ?_ _))
    · have h := HB.out
      (repeat (first | with_reducible exact h | with_reducible refine Below.drew ?_ | (with_reducible refine Below.set4 ?_ ?side _ _ _ _; case side => (first | omega | (simp; omega) | (simp; done))) | (with_reducible refine Below.setCell ?_ ?side _; case side => (first | omega | (simp; omega) | (simp; done))) | (with_reducible refine Below.alloc ?_ ?side _; case side => (first | omega | (simp; omega) | (simp; done)))))
    · first | with_reducible exact hg | (simp; omega)
  · go_wp2_with fail
    refine bodyPost_ret (v := .agg #[.int .i64 16, .int .i64 0, .int .i64 a, .bool false, .int .i64 0, .slice none 0 0, .slice none 0 0]) ?_ rfl ⟨none, 0, none, 0, ?_, RdX.nil, RdB.nil, Nat.le_refl _, by decide, Nat.le_refl _, by decide, ?_, frIn_none _ _, frIn_none _ _⟩
    · simp [results, Try.results15, go_sem, FC] <;> rfl
    · first | rfl | (simp [frOf, frcells, bts_len]; done) | (simp [frOf, frcells, bts_len, beqF])
    · have h := HB.out
      (repeat (first | with_reducible exact h | with_reducible refine Below.drew ?_ | (with_reducible refine Below.set4 ?_ ?side _ _ _ _; case side => (first | omega | (simp; omega) | (simp; done))) | (with_reducible refine Below.setCell ?_ ?side _; case side => (first | omega | (simp; omega) | (simp; done))) | (with_reducible refine Below.alloc ?_ ?side _; case side => (first | omega | (simp; omega) | (simp; done)))))
  · go_wp2_with fail
    refine bodyPost_ret (v := .agg #[.int .i64 17, .int .i64 a, .int .i64 b, .bool false, .int .i64 0, .slice none 0 0, .slice none 0 0]) ?_ rfl ⟨none, 0, none, 0, ?_, RdX.nil, RdB.nil, Nat.le_refl _, by decide, Nat.le_refl _, by decide, ?_, frIn_none _ _, frIn_none _ _⟩
    · simp [results, Try.results15, go_sem, FC] <;> rfl
    · first | rfl | (simp [frOf, frcells, bts_len]; done) | (simp [frOf, frcells, bts_len, beqF])
    · have h := HB.out
      (repeat (first | with_reducible exact h | with_reducible refine Below.drew ?_ | (with_reducible refine Below.set4 ?_ ?side _ _ _ _; case side => (first | omega | (simp; omega) | (simp; done))) | (with_reducible refine Below.setCell ?_ ?side _; case side => (first | omega | (simp; omega) | (simp; done))) | (with_reducible refine Below.alloc ?_ ?side _; case side => (first | omega | (simp; omega) | (simp; done)))))
  · go_wp2_with fail
    refine bodyPost_ret (v := .agg #[.int .i64 18, .int .i64 0, .int .i64 a, .bool false, .int .i64 0, .slice none 0 0, .slice none 0 0]) ?_ rfl ⟨none, 0, none, 0, ?_, RdX.nil, RdB.nil, Nat.le_refl _, by decide, Nat.le_refl _, by decide, ?_, frIn_none _ _, frIn_none _ _⟩
    · simp [results, Try.results15, go_sem, FC] <;> rfl
    · first | rfl | (simp [frOf, frcells, bts_len]; done) | (simp [frOf, frcells, bts_len, beqF])
    · have h := HB.out
      (repeat (first | with_reducible exact h | with_reducible refine Below.drew ?_ | (with_reducible refine Below.set4 ?_ ?side _ _ _ _; case side => (first | omega | (simp; omega) | (simp; done))) | (with_reducible refine Below.setCell ?_ ?side _; case side => (first | omega | (simp; omega) | (simp; done))) | (with_reducible refine Below.alloc ?_ ?side _; case side => (first | omega | (simp; omega) | (simp; done)))))
  · go_wp2_with fail
    refine bodyPost_ret (v := .agg #[.int .i64 26, .int .i64 0, .int .i64 0, .bool false, .int .i64 a, .slice none 0 0, .slice none 0 0]) ?_ rfl ⟨none, 0, none, 0, ?_, RdX.nil, RdB.nil, Nat.le_refl _, by decide, Nat.le_refl _, by decide, ?_, frIn_none _ _, frIn_none _ _⟩
    · simp [results, Try.results15, go_sem, FC] <;> rfl
    · first | rfl | (simp [frOf, frcells, bts_len]; done) | (simp [frOf, frcells, bts_len, beqF])
    · have h := HB.out
      (repeat (first | with_reducible exact h | with_reducible refine Below.drew ?_ | (with_reducible refine Below.set4 ?_ ?side _ _ _ _; case side => (first | omega | (simp; omega) | (simp; done))) | (with_reducible refine Below.setCell ?_ ?side _; case side => (first | omega | (simp; omega) | (simp; done))) | (with_reducible refine Below.alloc ?_ ?side _; case side => (first | omega | (simp; omega) | (simp; done)))))
  · go_wp2_with fail
    refine bodyPost_ret (v := .agg #[.int .i64 28, .int .i64 0, .int .i64 0, .bool false, .int .i64 a, .slice none 0 0, .slice none 0 0]) ?_ rfl ⟨none, 0, none, 0, ?_, RdX.nil, RdB.nil, Nat.le_refl _, by decide, Nat.le_refl _, by decide, ?_, frIn_none _ _, frIn_none _ _⟩
    · simp [results, Try.results15, go_sem, FC] <;> rfl
    · first | rfl | (simp [frOf, frcells, bts_len]; done) | (simp [frOf, frcells, bts_len, beqF])
    · have h := HB.out
      (repeat (first | with_reducible exact h | with_reducible refine Below.drew ?_ | (with_reducible refine Below.set4 ?_ ?side _ _ _ _; case side => (first | omega | (simp; omega) | (simp; done))) | (with_reducible refine Below.setCell ?_ ?side _; case side => (first | omega | (simp; omega) | (simp; done))) | (with_reducible refine Below.alloc ?_ ?side _; case side => (first | omega | (simp; omega) | (simp; done)))))
  · rcases (show q2 = 0 ∨ q2 = 1 by omega) with rfl | rfl
    · go_wp2_with fail
      refine (picked_at r.a 2 _ o1.1 o1.2 (by decide) (by decide) H2 _).mono ?_
      rintro e w' ⟨rfl, rfl⟩
      go_wp2_with fail
      refine bodyPost_ret (v := .agg #[.int .i64 0, .int .i64 0, .int .i64 0, .bool false, .int .i64 0, .slice none 0 0, .slice none 0 0]) ?_ rfl ⟨none, 0, none, 0, ?_, RdX.nil, RdB.nil, Nat.le_refl _, by decide, Nat.le_refl _, by decide, ?_, frIn_none _ _, frIn_none _ _⟩
      · simp [results, Try.results15, go_sem, FC] <;> rfl
      · first | rfl | simp [frOf, frcells, bts_len]
      · have h := HB.out
        (repeat (first | with_reducible exact h | with_reducible refine Below.drew ?_ | (with_reducible refine Below.set4 ?_ ?side _ _ _ _; case side => (first | omega | (simp; omega) | (simp; done))) | (with_reducible refine Below.setCell ?_ ?side _; case side => (first | omega | (simp; omega) | (simp; done))) | (with_reducible refine Below.alloc ?_ ?side _; case side => (first | omega | (simp; omega) | (simp; done)))))
    · go_wp2_with fail
      refine (picked_at r.a 2 _ o1.1 o1.2 (by decide) (by decide) H2 _).mono ?_
      rintro e w' ⟨rfl, rfl⟩
      go_wp2_with fail
      refine bodyPost_ret (v := .agg #[.int .i64 30, .int .i64 0, .int .i64 0, .bool false, .int .i64 0, .slice none 0 0, .slice none 0 0]) ?_ rfl ⟨none, 0, none, 0, ?_, RdX.nil, RdB.nil, Nat.le_refl _, by decide, Nat.le_refl _, by decide, ?_, frIn_none _ _, frIn_none _ _⟩
      · simp [results, Try.results15, go_sem, FC] <;> rfl
      · first | rfl | simp [frOf, frcells, bts_len]
      · have h := HB.out
        (repeat (first | with_reducible exact h | with_reducible refine Below.drew ?_ | (with_reducible refine Below.set4 ?_ ?side _ _ _ _; case side => (first | omega | (simp; omega) | (simp; done))) | (with_reducible refine Below.setCell ?_ ?side _; case side => (first | omega | (simp; omega) | (simp; done))) | (with_reducible refine Below.alloc ?_ ?side _; case side => (first | omega | (simp; omega) | (simp; done)))))
end Go.Proofs.Ytenlgfeldkfmiaa
